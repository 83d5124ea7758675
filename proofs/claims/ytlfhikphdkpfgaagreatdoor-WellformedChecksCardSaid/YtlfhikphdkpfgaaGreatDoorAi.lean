import Derived.Test.YtlfhikphdkpfgaaGreatDoorAh
set_option linter.unusedSimpArgs false
set_option linter.unusedVariables false
set_option maxRecDepth 100000
namespace Go.Proofs.YtlfhikphdkpfgaaGreatDoor
open Go Go.Cx
theorem zmU {x y : List Nat} (h : za1 y x = true) (z : List Nat) : za1 y z = za1 x z := by
 rw [zdX] at h ⊢
 rw [zdX, eq_of_beq h]
theorem zwr {l : List (List Nat)} {x y : List Nat} (h : za1 y x = true) : inU l y = inU l x := by
 unfold inU
 congr 1
 funext z
 exact zmU h z
abbrev zhz := List (AtomM × Bool)
def nmP (p : AtomM × Bool) : List Nat := nm p.1.name
noncomputable def zbk (l : zhz) : List (List Nat) := (l.filter fun p => !isE (nmP p)).map nmP
noncomputable def za2 (l : zhz) : List (List Nat) := (l.filter fun p => !isE (nmP p) && !p.2).map nmP
noncomputable def zbO (l : zhz) : Bool := l.any fun p => !isE (nmP p) && p.2
noncomputable def zap (n : NodeM) : zhz := (zaf n).zip (zgW n)
noncomputable def zaV (n : NodeM) (k : Nat) : AtomM × Bool := ((zaf n).getD k default, (zgW n).getD k default)
noncomputable def zeb (n : NodeM) (k : Nat) : Bool := !isE (nmP (zaV n k)) && inU (zbk ((zap n).take k)) (nmP (zaV n k))
noncomputable def zni (n : NodeM) : Bool := (List.range (zaf n).length).any (zeb n)
noncomputable def zzH (q : QueryM) (s : List Nat) : Bool := !inU (za2 (zap q.p)) s
noncomputable def zfL (q : QueryM) : Int := bif zni q.p then 8 else bif zbO (zap q.p) || (zbi q).any (zzH q) then 12 else 0
theorem zfE (n : NodeM) : (zgW n).length = (zaf n).length := by
 show (zdl n zbp ztZ).length = (zdl n zbp zgy).length
 unfold zdl
 cases zao 200 n
 ·rfl
 ·show (zt3 n zbp ztZ).length = (zt3 n zbp zgy).length
  unfold zt3; simp
theorem zdy (n : NodeM) : (zap n).length = (zaf n).length := by
 unfold zap; rw [List.length_zip, zfE]; simp
theorem zi4 {n : NodeM} (hn : NFit n) : (zaf n).length ≤ 100000 := by
 show (zdl n zbp zgy).length ≤ _
 unfold zdl
 cases zao 200 n
 ·exact Nat.zero_le _
 ·show (zt3 n zbp zgy).length ≤ _
  unfold zt3
  rw [List.length_map]
  exact Nat.le_trans (List.length_filter_le _ _) hn.num
theorem zeI {n : NodeM} {k : Nat} (hk : k < (zaf n).length) : (zap n).take (k + 1) = (zap n).take k ++ [zaV n k] := by
 have h1 : k < (zgW n).length := by rw [zfE]; exact hk
 have h2 : k < (zap n).length := by rw [zdy]; exact hk
 rw [List.take_add_one, List.getElem?_eq_getElem h2]
 congr 1
 unfold zaV
 rw [List.getD_eq_getElem?_getD, List.getD_eq_getElem?_getD, List.getElem?_eq_getElem hk, List.getElem?_eq_getElem h1]
 simp [zap]
section
variable {l : zhz} {p : AtomM × Bool}
theorem zsP (h : isE (nmP p) = true) : zbk (l ++ [p]) = zbk l := by
 unfold zbk; rw [List.filter_append]; simp [h]
theorem ztQ (h : isE (nmP p) = false) : zbk (l ++ [p]) = zbk l ++ [nmP p] := by
 unfold zbk; rw [List.filter_append]; simp [h]
theorem zt7 (h : isE (nmP p) = true) : za2 (l ++ [p]) = za2 l := by
 unfold za2; rw [List.filter_append]; simp [h]
theorem zn0 (h : isE (nmP p) = false) : za2 (l ++ [p]) = za2 l ++ (bif p.2 then [] else [nmP p]) := by
 unfold za2; rw [List.filter_append]; cases hp : p.2 <;> simp [h, hp]
theorem zrJ : zbO (l ++ [p]) = (zbO l || (!isE (nmP p) && p.2)) := by
 unfold zbO; rw [List.any_append]; simp
theorem zqb (x : List Nat) (h : inU (za2 l) x = true) : inU (zbk l) x = true := by
 unfold inU at h ⊢
 rw [List.any_eq_true] at h ⊢
 obtain ⟨y, hy, hb⟩ := h
 refine ⟨y, ?_, hb⟩
 unfold za2 at hy
 unfold zbk
 obtain ⟨r, hr, rfl⟩ := List.mem_map.1 hy
 rw [List.mem_filter] at hr
 simp only [Bool.and_eq_true] at hr
 exact List.mem_map.2 ⟨r, List.mem_filter.2 ⟨hr.1, hr.2.1⟩, rfl⟩
end
def KnownS (l : zhz) (f : CV -> Option SV) : Prop := ∀ x, f (.str x) = if inU (zbk l) x then some (ab (inU (za2 l) x)) else none
theorem KnownS.allB {l : zhz} {f : CV -> Option SV} (h : KnownS l f) (x : List Nat) : allB f (.str x) := fun v hv => by
 rw [h x] at hv
 split at hv
 ·cases hv; exact ⟨_, rfl⟩
 ·cases hv
theorem KnownS.at {l : zhz} {f : CV -> Option SV} (h : KnownS l f) (x : List Nat) : mapB f (.str x) = inU (za2 l) x := by
 unfold Go.Cx.mapB
 rw [h x]
 cases hq : inU (zbk l) x with
 | true => cases inU (za2 l) x <;> rfl
 | false =>
  cases hk : inU (za2 l) x with
  | true => rw [zqb x hk] at hq; cases hq
  | false => rfl
theorem KnownS.add {l : zhz} {f : CV -> Option SV} {p : AtomM × Bool} (h : KnownS l f) (hp : isE (nmP p) = false) (hx : inU (zbk l) (nmP p) = false) : KnownS (l ++ [p]) (zpG (.str (nmP p)) (ab (!p.2)) f) := fun y => by
 rw [ztQ hp, zn0 hp, zhS]
 unfold zpG
 show (match za1 y (nmP p) with | true => _ | false => _) = _
 cases hb : za1 y (nmP p) with
 | true =>
  have h1 : inU (za2 l) y = false := by
   cases hk : inU (za2 l) y with
   | false => rfl
   | true => rw [zwr hb] at hk; rw [zqb _ hk] at hx; cases hx
  rw [Bool.or_true, if_pos rfl]
  cases hq : p.2 with
  | true => simp [h1]
  | false => simp [zhS, hb]
 | false =>
  rw [Bool.or_false]
  show f (.str y) = _
  rw [h y]
  cases hq : p.2 with
  | true => simp
  | false => simp [zhS, hb]
theorem KnownS.skip {l : zhz} {f : CV -> Option SV} {p : AtomM × Bool} (h : KnownS l f) (hp : isE (nmP p) = true) : KnownS (l ++ [p]) f := fun y => by rw [zsP hp, zt7 hp]; exact h y
theorem ztB {n : NodeM} {k : Nat} (hk : k < (zaf n).length) (h : zeb n k = true) : zni n = true := zgp hk h
theorem zwO {n : NodeM} {k : Nat} (hk : (zaf n).length ≤ k) (h : ∀ j, j < k -> zeb n j = false) : zni n = false := zhW hk h
theorem zel {n : NodeM} {k : Nat} (hk : (zaf n).length ≤ k) : (zap n).take k = zap n := List.take_of_length_le (by rw [zdy]; exact hk)
theorem zpU (q : QueryM) : (zbi q).length ≤ q.hv.length + q.em.length := by
 unfold zbi
 refine Nat.le_trans (zf3 _) ?_
 simp
theorem zps {l : List (List Nat)} {p : List Nat -> Bool} {k : Nat} (hk : k < l.length) : (l.take (k + 1)).any p = ((l.take k).any p || p (l.getD k default)) := by
 rw [List.take_add_one, List.getElem?_eq_getElem hk, List.any_append, List.getD_eq_getElem?_getD, List.getElem?_eq_getElem hk]; simp
theorem zx3 {l : List (List Nat)} {p : List Nat -> Bool} {k : Nat} (hk : l.length ≤ k) : (l.take k).any p = l.any p := by rw [List.take_of_length_le hk]
theorem zAj {n : NodeM} {k : Nat} {f1 f2 : CV -> Option SV} (hk : decide ((k : Int) < (zaf n).length) = true) (hz : isE (nmP (zaV n k)) = true) (hj : ∀ j, j < k -> zeb n j = false) (h1 : SeenS (zbk ((zap n).take k)) f1) (h2 : KnownS ((zap n).take k) f2) :
  k + 1 ≤ (zaf n).length /\ (∀ j, j < k + 1 -> zeb n j = false) /\ SeenS (zbk ((zap n).take (k + 1))) f1 /\ KnownS ((zap n).take (k + 1)) f2 /\ zbO ((zap n).take (k + 1)) = zbO ((zap n).take k) := by
 have hlt : k < (zaf n).length := by simp at hk; omega
 rw [zeI hlt, zsP hz, zrJ]
 refine ⟨hlt, zaO hj ?_, h1, h2.skip hz, by rw [hz]; simp⟩
 unfold zeb; rw [hz]; rfl
theorem zAi {n : NodeM} {k : Nat} {f1 f2 : CV -> Option SV} (hk : decide ((k : Int) < (zaf n).length) = true) (hz : isE (nmP (zaV n k)) = false) (hm : mapB f1 (.str (nmP (zaV n k))) = false) (hj : ∀ j, j < k -> zeb n j = false) (h1 : SeenS (zbk ((zap n).take k)) f1) (h2 : KnownS ((zap n).take k) f2) :
  k + 1 ≤ (zaf n).length /\ (∀ j, j < k + 1 -> zeb n j = false) /\ SeenS (zbk ((zap n).take (k + 1))) (zpG (.str (nmP (zaV n k))) (ab true) f1) /\ KnownS ((zap n).take (k + 1)) (zpG (.str (nmP (zaV n k))) (ab (!(zaV n k).2)) f2) /\ zbO ((zap n).take (k + 1)) = (zbO ((zap n).take k) || (zaV n k).2) := by
 have hlt : k < (zaf n).length := by simp at hk; omega
 rw [h1.mapB] at hm
 rw [zeI hlt, ztQ hz, zrJ]
 refine ⟨hlt, zaO hj ?_, h1.step _, h2.add hz hm, by rw [hz]; simp⟩
 unfold zeb; rw [hm]; simp
theorem zAO {n : NodeM} {k : Nat} {f1 : CV -> Option SV} (hk : decide ((k : Int) < (zaf n).length) = true) (hz : isE (nmP (zaV n k)) = false) (hm : mapB f1 (.str (nmP (zaV n k))) = true) (h1 : SeenS (zbk ((zap n).take k)) f1) : zni n = true := by
 rw [h1.mapB] at hm
 refine ztB (k := k) (by simp at hk; omega) ?_
 unfold zeb; rw [hz, hm]; rfl
theorem zyS {q : QueryM} (h : zni q.p = true) : zfL q = 8 := by unfold zfL; rw [h]; rfl
theorem zzt {q : QueryM} {k u : Nat} {b : Bool} (hk : decide ((k : Int) < (zaf q.p).length) = false) (hj : ∀ j, j < k -> zeb q.p j = false) (hu : decide ((u : Int) < (zbi q).length) = false) (h : (zbO (zap q.p) || ((zbi q).take u).any (zzH q)) = b) : zfL q = bif b then 12 else 0 := by
 have h1 := zwO (n := q.p) (k := k) (by simp at hk; omega) hj
 rw [zx3 (by simp at hu; omega)] at h
 unfold zfL
 rw [h1, h]; rfl
set_option maxHeartbeats 8000000 in
theorem zxZ (q : QueryM) (hq : QFit q) (hs : q.hv.length + q.em.length ≤ 900000) : DSpec Tryz.prog axX axG 63 [.agg (zaj q)] [] (fun v O => v = ai (zfL q) /\ O = []) := by
 have hal := zi4 hq.toNFit
 have hnl := zfE q.p
 have hul := zpU q
 refine zac { glb := axG, ann := [(6, [30, 9]), (16, [64, 9])] } true Tryz.func63 (by kernel_rfl) rfl ?_
 repeat' (
   (conv => whnf)
   first
    | exact zad (by kernel_rfl)
    | refine And.intro ?_ ?_
    | refine zaa ?_ ?_
    | (refine ⟨_, zij q.p hq.toNFit, ?_⟩; rintro v O' ⟨rfl, rfl⟩)
    | (refine ⟨_, zuv q.p hq.toNFit, ?_⟩; rintro v O' ⟨rfl, rfl⟩)
    | (refine ⟨_, zw8 q hq hs, ?_⟩; rintro v O' ⟨rfl, rfl⟩)
    | ((have := hj; refine ⟨fun vs O _ => ∃ (u : Nat), u ≤ (zbi q).length /\ vs = [ai u, ab (or (zbO (zap q.p)) (((zbi q).take u).any (zzH q)))] /\ O = [.cells 32 (zaj q), .map .str f1 st1, .map .str f2 st2], fun vs O => match vs with | [.cv (.int _ u), _] => (zbi q).length - u.toNat | _ => 0, ⟨0, Nat.zero_le _, by rw [zel (by (simp only [zz] at *; omega))]; simp, rfl⟩, ?_⟩; rintro vs O _ ⟨u, hu, rfl, rfl⟩))
    | ((refine ⟨fun vs O _ => ∃ (k : Nat) (f1 : CV -> Option SV) (st1 : _) (f2 : CV -> Option SV) (st2 : _), k ≤ (zaf q.p).length /\ (∀ j, j < k -> zeb q.p j = false) /\ SeenS (zbk ((zap q.p).take k)) f1 /\ KnownS ((zap q.p).take k) f2 /\ vs = [ai k, ab (zbO ((zap q.p).take k))] /\ O = [.cells 32 (zaj q), .map .str f1 st1, .map .str f2 st2], fun vs O => match vs with | [.cv (.int _ k), _] => (zaf q.p).length - k.toNat | _ => 0, ⟨0, _, _, _, _, Nat.zero_le _, fun j h => absurd h (by omega), fun x => rfl, fun x => rfl, rfl, rfl⟩, ?_⟩; rintro vs O _ ⟨k, f1, st1, f2, st2, hk, hj, hf1, hf2, rfl, rfl⟩))
    | intro _)
 all_goals first
  | rfl
  | omega
  | (simp only [zz] at *; omega)
  | exact hf1.allB _ _ (by assumption)
  | exact hf2.allB _ _ (by assumption)
  | (rename_i hlt hz; obtain ⟨a1, a2, a3, a4, a5⟩ := zAj hlt hz hj hf1 hf2; exact ⟨k + 1, f1, st1, f2, st2, a1, a2, a3, a4, by rw [a5]; rfl, rfl⟩)
  | (rename_i hlt hz hm; exact congrArg ai (zyS (zAO hlt hz hm hf1)).symm)
  | (rename_i hlt hz hm hw; obtain ⟨a1, a2, a3, a4, a5⟩ := zAi hlt hz hm hj hf1 hf2; exact ⟨k + 1, _, _, _, _, a1, a2, a3, a4, by rw [a5, hw]; rfl, rfl⟩)
  | (rename_i hlt hw; exact ⟨u + 1, by (simp only [zz] at *; omega), by rw [zps (by (simp only [zz] at *; omega)), <- Bool.or_assoc, hw]; rfl, rfl⟩)
  | (rename_i hlt hw; exact ⟨u + 1, by (simp only [zz] at *; omega), by rw [zps (by (simp only [zz] at *; omega)), <- Bool.or_assoc, hw, hf2.at, zel (by (simp only [zz] at *; omega))]; rfl, rfl⟩)
  | (rename_i hu2 hw; exact congrArg ai (zzt (by assumption) hj hu2 hw).symm)
end Go.Proofs.YtlfhikphdkpfgaaGreatDoor
