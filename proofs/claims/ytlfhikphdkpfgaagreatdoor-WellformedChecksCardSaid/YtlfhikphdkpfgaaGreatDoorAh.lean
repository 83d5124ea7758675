import Derived.Test.YtlfhikphdkpfgaaGreatDoorAg
set_option linter.unusedSimpArgs false
set_option linter.unusedVariables false
set_option maxRecDepth 100000
namespace Go.Proofs.YtlfhikphdkpfgaaGreatDoor
open Go Go.Cx
noncomputable def inU (l : List (List Nat)) (x : List Nat) : Bool := l.any fun y => za1 x y
noncomputable def zjO (l : List (List Nat)) (x : List Nat) : List (List Nat) := bif inU l x then l else l ++ [x]
noncomputable def zdk (l : List (List Nat)) : List (List Nat) := l.foldl zjO []
def nmH (h : HaveM) : List Nat := nm h.agg.name
def nmA (a : AggM) : List Nat := nm a.name
noncomputable def zbi (q : QueryM) : List (List Nat) := zdk (q.hv.map nmH ++ q.em.map nmA)
theorem zke (l : List (List Nat)) (x : List Nat) : zdk (l ++ [x]) = zjO (zdk l) x := by
 unfold zdk; rw [List.foldl_append]; rfl
theorem zuZ (l : List (List Nat)) (x : List Nat) : (zjO l x).length ≤ l.length + 1 := by
 unfold zjO; cases inU l x <;> simp
theorem zf3 (l : List (List Nat)) : (zdk l).length ≤ l.length := by
 have key : ∀ (l acc : List (List Nat)), (l.foldl zjO acc).length ≤ acc.length + l.length := by
  intro l
  induction l with
  | nil => intro acc; simp
  | cons x r ih =>
   intro acc
   have h1 := ih (zjO acc x)
   have h2 := zuZ acc x
   rw [List.foldl_cons, List.length_cons]; omega
 have := key l []
 simpa [zdk] using this
def zed (s : List Nat) : List SV := [.cv (.str s)]
def SeenS (l : List (List Nat)) (f : CV -> Option SV) : Prop := ∀ x, f (.str x) = if inU l x then some (ab true) else none
theorem SeenS.allB {l : List (List Nat)} {f : CV -> Option SV} (h : SeenS l f) (x : List Nat) : allB f (.str x) := fun v hv => by
 rw [h x] at hv
 split at hv
 ·cases hv; exact ⟨_, rfl⟩
 ·cases hv
theorem SeenS.mapB {l : List (List Nat)} {f : CV -> Option SV} (h : SeenS l f) (x : List Nat) : mapB f (.str x) = inU l x := by
 unfold Go.Cx.mapB
 rw [h x]
 cases inU l x <;> rfl
theorem zhS (l : List (List Nat)) (x y : List Nat) : inU (l ++ [y]) x = (inU l x || za1 x y) := by
 unfold inU; rw [List.any_append]; simp
theorem SeenS.step {l : List (List Nat)} {f : CV -> Option SV} (h : SeenS l f) (x : List Nat) : SeenS (l ++ [x]) (zpG (.str x) (ab true) f) := fun y => by
 unfold zpG
 rw [zhS, h y]
 show (match za1 y x with | true => _ | false => _) = _
 cases za1 y x <;> simp
theorem SeenS.add {l : List (List Nat)} {f : CV -> Option SV} (h : SeenS l f) (x : List Nat) (hx : (!Go.Cx.mapB f (.str x)) = true) : SeenS (zjO l x) (zpG (.str x) (ab true) f) := by
 rw [h.mapB] at hx
 unfold zjO
 rw [Bool.not_eq_true'] at hx
 rw [hx]
 exact h.step x
theorem zux {l : List (List Nat)} {f : CV -> Option SV} (h : SeenS l f) {x : List Nat} (hx : (!mapB f (.str x)) = false) : zjO l x = l := by
 rw [h.mapB, Bool.not_eq_false'] at hx
 unfold zjO; rw [hx]; rfl
theorem zvB {l : List (List Nat)} {f : CV -> Option SV} (h : SeenS l f) {x : List Nat} (hx : (!mapB f (.str x)) = true) : zjO l x = l ++ [x] := by
 rw [h.mapB, Bool.not_eq_true'] at hx
 unfold zjO; rw [hx]; rfl
theorem zum (a : AggM) (l : List (List Nat)) (f : CV -> Option SV) (st : Option (CV × Nat)) (m : Nat) (el : Nat -> List SV) (hl : LElA zed l m el) (hf : SeenS l f) (hm : l.length ≤ 900000) :
  DSpec Tryz.prog axX axG 75 [.agg (zxC a), .ptr 0 0, .ptr 2 0] [.cells 104 [.map 1], .map .str f st, .cells 39 [.lst 3], .list 9 1 m el]
   (fun v O => ∃ f' st' m' el', LElA zed (zjO l (nmA a)) m' el' /\ SeenS (zjO l (nmA a)) f' /\ v = .tup [] /\ O = [.cells 104 [.map 1], .map .str f' st', .cells 39 [.lst 3], .list 9 1 m' el']) := by
 refine zac { glb := axG } true Tryz.func75 (by kernel_rfl) rfl ?_
 repeat' (
   (conv => whnf)
   first
    | exact zad (by kernel_rfl)
    | refine And.intro ?_ ?_
    | refine zaa ?_ ?_
    | intro _)
 all_goals first
  | rfl
  | omega
  | exact hf.allB _ _ (by assumption)
  | (have h1 := hl.1; omega)
  | (rename_i hz; exact ⟨_, _, _, _, by rw [zvB (x := nmA a) hf hz]; exact hl.snoc rfl rfl, hf.add (nmA a) hz, rfl, rfl⟩)
  | (rename_i hz; exact ⟨_, _, _, _, by rw [zux (x := nmA a) hf hz]; exact hl, by rw [zux (x := nmA a) hf hz]; exact hf, rfl, rfl⟩)
theorem zeC {q : QueryM} {k : Nat} (hk : k < q.hv.length) : zdk ((q.hv.take (k + 1)).map nmH) = zjO (zdk ((q.hv.take k).map nmH)) (nmH (q.hv.getD k default)) := by
 rw [List.take_add_one, List.getElem?_eq_getElem hk, List.map_append, List.getD_eq_getElem?_getD, List.getElem?_eq_getElem hk]
 exact zke _ _
theorem zeK {q : QueryM} {k : Nat} (hk : k < q.em.length) : zdk (q.hv.map nmH ++ (q.em.take (k + 1)).map nmA) = zjO (zdk (q.hv.map nmH ++ (q.em.take k).map nmA)) (nmA (q.em.getD k default)) := by
 rw [List.take_add_one, List.getElem?_eq_getElem hk, List.map_append, <- List.append_assoc, List.getD_eq_getElem?_getD, List.getElem?_eq_getElem hk]
 exact zke _ _
theorem ziJ (q : QueryM) (k : Nat) : (zdk ((q.hv.take k).map nmH)).length ≤ q.hv.length := by
 refine Nat.le_trans (zf3 _) ?_
 rw [List.length_map, List.length_take]; omega
theorem zic (q : QueryM) (k : Nat) : (zdk (q.hv.map nmH ++ (q.em.take k).map nmA)).length ≤ q.hv.length + q.em.length := by
 refine Nat.le_trans (zf3 _) ?_
 rw [List.length_append, List.length_map, List.length_map, List.length_take]; omega
theorem zfF {q : QueryM} {k : Nat} (hk : q.hv.length ≤ k) : zdk (q.hv.map nmH ++ (q.em.take 0).map nmA) = zdk ((q.hv.take k).map nmH) := by
 rw [List.take_of_length_le hk]; simp
theorem zmn {q : QueryM} {k : Nat} {m : Nat} {el : Nat -> List SV} (hk : q.em.length ≤ k) (hl : LElA zed (zdk (q.hv.map nmH ++ (q.em.take k).map nmA)) m el) : Same (.isl 1 m el) (.isl 1 (zbi q).length (elF zed (zbi q))) := by
 rw [List.take_of_length_le hk] at hl
 obtain ⟨rfl, h⟩ := hl
 exact .isl h
set_option maxHeartbeats 4000000 in
theorem zw8 (q : QueryM) (hq : QFit q) (hs : q.hv.length + q.em.length ≤ 900000) : DSpec Tryz.prog axX axG 43 [.agg (zaj q)] [] (fun v O => v = .isl 1 (zbi q).length (elF zed (zbi q)) /\ O = []) := by
 refine DSpec.same (post := fun v O => Same v (.isl 1 (zbi q).length (elF zed (zbi q))) /\ O = []) ?_ fun v O h => ⟨_, h.1, rfl, h.2⟩
 refine zac { glb := axG, ann := [(5, [15]), (10, [27])], nils := [(5, [(.cell 1 0, 9, 1)])] } true Tryz.func43 (by kernel_rfl) rfl ?_
 repeat' (
   (conv => whnf)
   first
    | exact zad (by kernel_rfl)
    | refine And.intro ?_ ?_
    | refine zaa ?_ ?_
    | ((have := hk; refine ⟨fun vs O _ => ∃ (k m : Nat) (el : Nat -> List SV) (f : CV -> Option SV) (st : _), k ≤ q.em.length /\ LElA zed (zdk (q.hv.map nmH ++ (q.em.take k).map nmA)) m el /\ SeenS (zdk (q.hv.map nmH ++ (q.em.take k).map nmA)) f /\ vs = [ai k] /\ O = [.cells 32 (zaj q), .cells 39 [.lst 4], .map .str f st, .cells 104 [.map 2], .list 9 1 m el], fun vs O => match vs with | [.cv (.int _ k)] => q.em.length - k.toNat | _ => 0, ⟨0, m, el, f, st, Nat.zero_le _, by rw [zfF (k := k) (by (simp only [zz] at *; omega))]; exact hl, by rw [zfF (k := k) (by (simp only [zz] at *; omega))]; exact hf, rfl, rfl⟩, ?_⟩; rintro vs O _ ⟨k2, m2, el2, f2, st2, hk2, hl2, hf2, rfl, rfl⟩))
    | ((refine ⟨fun vs O _ => ∃ (k m : Nat) (el : Nat -> List SV) (f : CV -> Option SV) (st : _), k ≤ q.hv.length /\ LElA zed (zdk ((q.hv.take k).map nmH)) m el /\ SeenS (zdk ((q.hv.take k).map nmH)) f /\ vs = [ai k] /\ O = [.cells 32 (zaj q), .cells 39 [.lst 4], .map .str f st, .cells 104 [.map 2], .list 9 1 m el], fun vs O => match vs with | [.cv (.int _ k)] => q.hv.length - k.toNat | _ => 0, ⟨0, 0, _, _, _, Nat.zero_le _, ⟨rfl, fun i h => absurd h (by omega)⟩, fun x => rfl, rfl, rfl⟩, ?_⟩; rintro vs O _ ⟨k, m, el, f, st, hk, hl, hf, rfl, rfl⟩))
    | (refine ⟨_, zum (q.em.getD k2 default) _ f2 st2 m2 el2 hl2 hf2 (by have := zic q k2; omega), ?_⟩; rintro v O' ⟨f', st', m', el', hl', hf', rfl, rfl⟩)
    | (refine ⟨_, zum (q.hv.getD k default).agg _ f st m el hl hf (by have := ziJ q k; omega), ?_⟩; rintro v O' ⟨f', st', m', el', hl', hf', rfl, rfl⟩)
    | intro _)
 all_goals first
  | rfl
  | omega
  | (simp only [zz] at *; omega)
  | exact ⟨k2 + 1, m', el', f', st', by (simp only [zz] at *; omega), by rw [zeK (by (simp only [zz] at *; omega))]; exact hl', by rw [zeK (by (simp only [zz] at *; omega))]; exact hf', rfl, rfl⟩
  | exact ⟨k + 1, m', el', f', st', by (simp only [zz] at *; omega), by rw [zeC (by (simp only [zz] at *; omega))]; exact hl', by rw [zeC (by (simp only [zz] at *; omega))]; exact hf', rfl, rfl⟩
  | exact zmn (by (simp only [zz] at *; omega)) hl2
end Go.Proofs.YtlfhikphdkpfgaaGreatDoor
