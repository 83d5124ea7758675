import Derived.Test.YtlfhikphdkpfgaaGreatDoorAi
set_option linter.unusedSimpArgs false
set_option linter.unusedVariables false
set_option maxRecDepth 100000
namespace Go.Proofs.YtlfhikphdkpfgaaGreatDoor
open Go Go.Cx
def zuY : Nat -> List SV := zfy 1 [.fn 58 [] [], .fn 59 [] [], .fn 60 [] [], .fn 61 [] [], .fn 62 [] [], .fn 63 [] []]
theorem zvS : DSpec Tryz.prog axX axG 34 [] [] (fun v O => v = .isl 1 6 zuY /\ O = []) := by
 refine zac { glb := axG } true Tryz.func34 (by kernel_rfl) rfl ?_
 repeat' (
   (conv => whnf)
   first
    | exact zad (by kernel_rfl)
    | refine And.intro ?_ ?_
    | refine zaa ?_ ?_
    | intro _)
 all_goals first
  | rfl
theorem zuL (e x : Int) : zsQ Tryz.prog axX axG 33 [.ptr 0 0, .ptr 1 0] [.cells 36 [ai e], .cells 36 [ai x]] (fun v O => v = .tup [] /\ O = [.cells 36 [ai e], .cells 36 [ai e]]) := by
 refine zuk { glb := axG } Tryz.func33 (by kernel_rfl) (by kernel_rfl) ?_
 repeat' (
   (conv => whnf)
   first
    | exact zad (by kernel_rfl)
    | refine And.intro ?_ ?_
    | refine zaa ?_ ?_
    | intro _)
 all_goals first
  | rfl
  | exact ⟨rfl, rfl⟩
noncomputable def zfG (q : QueryM) (k : Nat) : Int := [zcn q, bif zhr q then 6 else 0, bif decide (zpe q.p > 6) then 22 else 0, bif zb4 q then 2 else 0, bif zcB q then 9 else 0, zfL q].getD k 0
noncomputable def zaE (q : QueryM) : Int := bif zfG q 0 != 0 then zfG q 0 else bif zfG q 1 != 0 then zfG q 1 else bif zfG q 2 != 0 then zfG q 2 else bif zfG q 3 != 0 then zfG q 3 else bif zfG q 4 != 0 then zfG q 4 else zfG q 5
theorem nzE {q : QueryM} {k : Nat} (h : zfG q k = 0) : (zfG q k != 0) = false := by rw [h]; rfl
theorem zg2 {q : QueryM} {k : Nat} (hk : k < 6) (hj : ∀ j, j < k -> zfG q j = 0) (h : (zfG q k != 0) = true) : zaE q = zfG q k := by
 unfold zaE
 obtain rfl | rfl | rfl | rfl | rfl | rfl : k = 0 \/ k = 1 \/ k = 2 \/ k = 3 \/ k = 4 \/ k = 5 := by omega
 ·rw [h]; rfl
 ·rw [nzE (hj 0 (by decide)), h]; rfl
 ·rw [nzE (hj 0 (by decide)), nzE (hj 1 (by decide)), h]; rfl
 ·rw [nzE (hj 0 (by decide)), nzE (hj 1 (by decide)), nzE (hj 2 (by decide)), h]; rfl
 ·rw [nzE (hj 0 (by decide)), nzE (hj 1 (by decide)), nzE (hj 2 (by decide)), nzE (hj 3 (by decide)), h]; rfl
 ·rw [nzE (hj 0 (by decide)), nzE (hj 1 (by decide)), nzE (hj 2 (by decide)), nzE (hj 3 (by decide)), nzE (hj 4 (by decide))]; rfl
theorem zu7 {q : QueryM} (hj : ∀ j, j < 6 -> zfG q j = 0) : zaE q = 0 := by
 unfold zaE
 rw [nzE (hj 0 (by decide)), nzE (hj 1 (by decide)), nzE (hj 2 (by decide)), nzE (hj 3 (by decide)), nzE (hj 4 (by decide))]
 exact hj 5 (by decide)
theorem zyl {q : QueryM} {k : Nat} (hj : ∀ j, j < k -> zfG q j = 0) (h : (zfG q k != 0) = false) : ∀ j, j < k + 1 -> zfG q j = 0 := fun j hlt => by
 rcases Nat.lt_succ_iff_lt_or_eq.1 hlt with h1 | rfl
 ·exact hj j h1
 ·simpa using h
theorem zyo {q : QueryM} {k : Nat} (h : (zfG q k != 0) = false) : [SObj.cells 32 (zaj q), .cells 36 [ai 0], .cells 36 [ai (zfG q k)]] = [SObj.cells 32 (zaj q), .cells 36 [ai 0], .cells 36 [ai 0]] := by
 rw [show zfG q k = 0 by simpa using h]
set_option maxHeartbeats 8000000 in
theorem zdU (q : QueryM) (hq : QFit q) (hs : q.hv.length + q.em.length ≤ 900000) : DSpec Tryz.prog axX axG 8 [.agg (zaj q)] [] (fun v O => v = ai (zaE q) /\ O = []) := by
 refine zac { glb := axG, ann := [(4, [9])] } true Tryz.func8 (by kernel_rfl) rfl ?_
 repeat' (
   (conv => whnf)
   first
    | exact zad (by kernel_rfl)
    | refine And.intro ?_ ?_
    | refine zaa ?_ ?_
    | (refine ⟨_, zvS, ?_⟩; rintro v O' ⟨rfl, rfl⟩)
    | (refine ⟨_, zuL _ _, ?_⟩; rintro v O' ⟨rfl, rfl⟩)
    | (refine ⟨_, zu5 q hq, ?_⟩; rintro v O' ⟨rfl, rfl⟩)
    | (refine ⟨_, zyO q hq, ?_⟩; rintro v O' ⟨rfl, rfl⟩)
    | (refine ⟨_, zy9 q hq, ?_⟩; rintro v O' ⟨rfl, rfl⟩)
    | (refine ⟨_, zvY q hq, ?_⟩; rintro v O' ⟨rfl, rfl⟩)
    | (refine ⟨_, zsC q hq, ?_⟩; rintro v O' ⟨rfl, rfl⟩)
    | (refine ⟨_, zxZ q hq hs, ?_⟩; rintro v O' ⟨rfl, rfl⟩)
    | ((refine ⟨fun vs O _ => ∃ k : Nat, k ≤ 6 /\ (∀ j, j < k -> zfG q j = 0) /\ vs = [ai k] /\ O = [.cells 32 (zaj q), .cells 36 [ai 0], .cells 36 [ai 0]], fun vs O => match vs with | [.cv (.int _ k)] => 6 - k.toNat | _ => 0, ⟨0, Nat.zero_le _, fun j h => absurd h (by omega), rfl, rfl⟩, ?_⟩; rintro vs O _ ⟨k, hk, hj, rfl, rfl⟩; obtain rfl | rfl | rfl | rfl | rfl | rfl | rfl : k = 0 \/ k = 1 \/ k = 2 \/ k = 3 \/ k = 4 \/ k = 5 \/ k = 6 := by omega))
    | intro _)
 all_goals first
  | rfl
  | omega
  | (simp only [zz] at *; omega)
  | exact Nat.le_of_ble_eq_true rfl
  | (rename_i hz; exact congrArg ai (zg2 (k := 0) (by decide) hj hz).symm)
  | (rename_i hz; exact ⟨0 + 1, by decide, zyl (k := 0) hj hz, rfl, zyo (k := 0) hz⟩)
  | (rename_i hz; exact congrArg ai (zg2 (k := 1) (by decide) hj hz).symm)
  | (rename_i hz; exact ⟨1 + 1, by decide, zyl (k := 1) hj hz, rfl, zyo (k := 1) hz⟩)
  | (rename_i hz; exact congrArg ai (zg2 (k := 2) (by decide) hj hz).symm)
  | (rename_i hz; exact ⟨2 + 1, by decide, zyl (k := 2) hj hz, rfl, zyo (k := 2) hz⟩)
  | (rename_i hz; exact congrArg ai (zg2 (k := 3) (by decide) hj hz).symm)
  | (rename_i hz; exact ⟨3 + 1, by decide, zyl (k := 3) hj hz, rfl, zyo (k := 3) hz⟩)
  | (rename_i hz; exact congrArg ai (zg2 (k := 4) (by decide) hj hz).symm)
  | (rename_i hz; exact ⟨4 + 1, by decide, zyl (k := 4) hj hz, rfl, zyo (k := 4) hz⟩)
  | (rename_i hz; exact congrArg ai (zg2 (k := 5) (by decide) hj hz).symm)
  | (rename_i hz; exact ⟨5 + 1, by decide, zyl (k := 5) hj hz, rfl, zyo (k := 5) hz⟩)
  | exact congrArg ai (zu7 hj).symm
def zvs (n : NodeM) : QueryM := ⟨n, 0, [], []⟩
theorem zpy {n : NodeM} (h : NFit n) : QFit (zvs n) := ⟨h, by simp [zvs], by simp [zvs]⟩
theorem zsW (n : NodeM) (hn : NFit n) : DSpec Tryz.prog axX axG 10 [.agg (zah n)] [] (fun v O => v = ai (zaE (zvs n)) /\ O = []) := by
 have h := (zdU (zvs n) (zpy hn) (by simp [zvs])).arg (args' := [.agg [ai n.kind, ai n.mn, ai n.mx, ai n.atom.kind, ab n.atom.bnd, au n.atom.bound, .isl 2 n.atom.cs.length (zdx n.atom.cs), zrz n.atom.name, .isl 9 n.kids.length (zbY n.kids), au 0, .cv .nils, .cv .nils]]) (.cons (.agg (.cons (.refl _) (.cons (.refl _) (.cons (.refl _) (.cons (.refl _) (.cons (.refl _) (.cons (.refl _) (.cons (.refl _) (.cons (.refl _) (.cons (.refl _) (.cons (.refl _) (.cons .nils (.cons .nils .nil))))))))))))) .nil)
 refine zac { glb := axG } true Tryz.func10 (by kernel_rfl) rfl ?_
 repeat' (
   (conv => whnf)
   first
    | exact zad (by kernel_rfl)
    | refine And.intro ?_ ?_
    | refine zaa ?_ ?_
    | (refine ⟨_, h, ?_⟩; rintro v O' ⟨rfl, rfl⟩)
    | intro _)
 all_goals first
  | rfl
noncomputable def zmI (l : List AtomM) (k : Nat) : List (List Nat) := ((l.take k).filter fun a => !isE (nm a.name)).map fun a => nm a.name
theorem zyc {l : List AtomM} {k : Nat} (hk : k < l.length) (h : (!isE (nm (l.getD k default).name)) = true) : zmI l (k + 1) = zmI l k ++ [nm (l.getD k default).name] := by
 unfold zmI
 rw [List.getD_eq_getElem?_getD, List.getElem?_eq_getElem hk] at h ⊢
 simp only [Option.getD_some] at h ⊢
 rw [List.take_add_one, List.getElem?_eq_getElem hk, List.filter_append, List.map_append]
 simp only [Option.toList_some, List.filter_cons, List.filter_nil, h]
 rfl
theorem zvX {l : List AtomM} {k : Nat} (hk : k < l.length) (h : (!isE (nm (l.getD k default).name)) = false) : zmI l (k + 1) = zmI l k := by
 unfold zmI
 rw [List.getD_eq_getElem?_getD, List.getElem?_eq_getElem hk] at h
 simp only [Option.getD_some] at h
 rw [List.take_add_one, List.getElem?_eq_getElem hk, List.filter_append, List.map_append]
 simp only [Option.toList_some, List.filter_cons, List.filter_nil, h]
 simp
theorem zkR (l : List AtomM) (k : Nat) : (zmI l k).length ≤ l.length := by
 unfold zmI
 rw [List.length_map]
 refine Nat.le_trans (List.length_filter_le _ _) ?_
 rw [List.length_take]; omega
noncomputable def zaW (q : QueryM) : List (List Nat) := bif zaE q != 0 then [] else zmI (zaf q.p) (zaf q.p).length
theorem zpu {q : QueryM} (h : (zaE q != 0) = true) : Same (.tup [.cv .nils, ai (zaE q)]) (.tup [.isl 1 (zaW q).length (elF zed (zaW q)), ai (zaE q)]) := by
 have : zaW q = [] := by unfold zaW; rw [h]; rfl
 rw [this]; exact .tup (.cons .nils (.cons (.refl _) .nil))
theorem zyd {q : QueryM} {k m : Nat} {el : Nat -> List SV} (h : (zaE q != 0) = false) (hk : decide ((k : Int) < (zaf q.p).length) = false) (hle : k ≤ (zaf q.p).length) (hl : LElA zed (zmI (zaf q.p) k) m el) : Same (.tup [.isl 1 m el, ai 0]) (.tup [.isl 1 (zaW q).length (elF zed (zaW q)), ai (zaE q)]) := by
 have hk : k = (zaf q.p).length := by simp at hk; omega
 subst hk
 have : zaW q = zmI (zaf q.p) (zaf q.p).length := by unfold zaW; rw [h]; rfl
 rw [this, show zaE q = 0 by simpa using h]
 obtain ⟨rfl, h2⟩ := hl
 exact .tup (.cons (.isl h2) (.cons (.refl _) .nil))
set_option maxHeartbeats 8000000 in
theorem zye (q : QueryM) (hq : QFit q) (hs : q.hv.length + q.em.length ≤ 900000) : DSpec Tryz.prog axX axG 12 [.agg (zaj q)] [] (fun v O => v = .tup [.isl 1 (zaW q).length (elF zed (zaW q)), ai (zaE q)] /\ O = []) := by
 have hal := zi4 hq.toNFit
 refine DSpec.same (post := fun v O => Same v (.tup [.isl 1 (zaW q).length (elF zed (zaW q)), ai (zaE q)]) /\ O = []) ?_ fun v O h => ⟨_, h.1, rfl, h.2⟩
 refine zac { glb := axG, ann := [(7, [23, 5])], nils := [(7, [(.slot 5, 9, 1)])] } true Tryz.func12 (by kernel_rfl) rfl ?_
 repeat' (
   (conv => whnf)
   first
    | exact zad (by kernel_rfl)
    | refine And.intro ?_ ?_
    | refine zaa ?_ ?_
    | (refine ⟨_, zdU q hq hs, ?_⟩; rintro v O' ⟨rfl, rfl⟩)
    | (refine ⟨_, zij q.p hq.toNFit, ?_⟩; rintro v O' ⟨rfl, rfl⟩)
    | ((refine ⟨fun vs O _ => ∃ (k m : Nat) (el : Nat -> List SV), k ≤ (zaf q.p).length /\ LElA zed (zmI (zaf q.p) k) m el /\ vs = [ai k, .lst 1] /\ O = [.cells 32 (zaj q), .list 9 1 m el], fun vs O => match vs with | [.cv (.int _ k), _] => (zaf q.p).length - k.toNat | _ => 0, ⟨0, 0, _, Nat.zero_le _, ⟨rfl, fun i h => absurd h (by omega)⟩, rfl, rfl⟩, ?_⟩; rintro vs O _ ⟨k, m, el, hk, hl, rfl, rfl⟩))
    | intro _)
 all_goals try have hnl := zkR (zaf q.p) k
 all_goals first
  | rfl
  | omega
  | (simp only [zz] at *; omega)
  | (have h1 := hl.1; omega)
  | (rename_i hz; exact zpu hz)
  | (rename_i hz; exact ⟨k + 1, _, _, by (simp only [zz] at *; omega), by rw [zyc (l := zaf q.p) (k := k) (by (simp only [zz] at *; omega)) hz]; exact hl.snoc rfl rfl, rfl, rfl⟩)
  | (rename_i hz; exact ⟨k + 1, _, _, by (simp only [zz] at *; omega), by rw [zvX (l := zaf q.p) (k := k) (by (simp only [zz] at *; omega)) hz]; exact hl, rfl, rfl⟩)
  | (rename_i h0 _ h1; exact zyd h0 h1 hk hl)
noncomputable def ixB (q : QueryM) (s : List Nat) (k : Nat) : Bool := !isE s && za1 (nm ((zaf q.p).getD k default).name) s
noncomputable def zgh (q : QueryM) (s : List Nat) : Int × Int := bif zaE q != 0 then (0, zaE q) else match (List.range (zaf q.p).length).find? (ixB q s) with
 | some k => ((k : Int), 0)
 | none => (0, 12)
def zwq (p : Int × Int) : SV := .tup [ai p.1, ai p.2]
theorem zyk {n k : Nat} {p : Nat -> Bool} (hk : k < n) (h : p k = true) (hj : ∀ j, j < k -> p j = false) : (List.range n).find? p = some k := by
 rw [List.find?_range_eq_some]
 exact ⟨h, List.mem_range.2 hk, fun j hlt => by rw [hj j hlt]; rfl⟩
theorem zxI {n k : Nat} {p : Nat -> Bool} (hk : n ≤ k) (hj : ∀ j, j < k -> p j = false) : (List.range n).find? p = none := by
 rw [List.find?_eq_none]
 intro x hx
 rw [hj x (by have := List.mem_range.1 hx; omega)]; simp
theorem zw0 {q : QueryM} {s : List Nat} (h : (zaE q != 0) = true) : zgh q s = (0, zaE q) := by unfold zgh; rw [h]; rfl
theorem zzA {q : QueryM} {s : List Nat} {k : Nat} (h : (zaE q != 0) = false) (hk : k < (zaf q.p).length) (hz : ixB q s k = true) (hj : ∀ j, j < k -> ixB q s j = false) : zgh q s = ((k : Int), 0) := by unfold zgh; rw [h, zyk hk hz hj]; rfl
theorem zxr {q : QueryM} {s : List Nat} {k : Nat} (h : (zaE q != 0) = false) (hk : (zaf q.p).length ≤ k) (hj : ∀ j, j < k -> ixB q s j = false) : zgh q s = (0, 12) := by unfold zgh; rw [h, zxI hk hj]; rfl
set_option maxHeartbeats 8000000 in
theorem zvt (q : QueryM) (hq : QFit q) (hs : q.hv.length + q.em.length ≤ 900000) (s : List Nat) : DSpec Tryz.prog axX axG 17 [.agg (zaj q), .cv (.str s)] [] (fun v O => v = zwq (zgh q s) /\ O = []) := by
 have hal := zi4 hq.toNFit
 refine zac { glb := axG, ann := [(6, [24])] } true Tryz.func17 (by kernel_rfl) rfl ?_
 repeat' (
   (conv => whnf)
   first
    | exact zad (by kernel_rfl)
    | refine And.intro ?_ ?_
    | refine zaa ?_ ?_
    | (refine ⟨_, zdU q hq hs, ?_⟩; rintro v O' ⟨rfl, rfl⟩)
    | (refine ⟨_, zij q.p hq.toNFit, ?_⟩; rintro v O' ⟨rfl, rfl⟩)
    | ((refine ⟨fun vs O _ => ∃ k : Nat, k ≤ (zaf q.p).length /\ (∀ j, j < k -> ixB q s j = false) /\ vs = [ai k] /\ O = [.cells 32 (zaj q)], fun vs O => match vs with | [.cv (.int _ k)] => (zaf q.p).length - k.toNat | _ => 0, ⟨0, Nat.zero_le _, fun j h => absurd h (by omega), rfl, rfl⟩, ?_⟩; rintro vs O _ ⟨k, hk, hj, rfl, rfl⟩))
    | intro _)
 all_goals try have hix : ixB q s k = (!isE s && za1 (nm ((zaf q.p).getD ((k : Int).toNat) default).name) s) := rfl
 all_goals first
  | rfl
  | omega
  | (simp only [zz] at *; omega)
  | (rename_i hz; exact (congrArg zwq (zw0 hz)).symm)
  | (rename_i h0 _ _ _ _; exact (congrArg zwq (zzA h0 (by (simp only [zz] at *; omega)) (by rw [hix]; (simp only [isE, *, Bool.true_and, Bool.and_true, Bool.false_and, Bool.and_false, Bool.true_or, Bool.or_true, Bool.false_or, Bool.or_false, Bool.not_true, Bool.not_false, Bool.not_not, cond_true, cond_false]; first | done | rfl)) hj)).symm)
  | exact ⟨k + 1, by (simp only [zz] at *; omega), zaO hj (by rw [hix]; (simp only [isE, *, Bool.true_and, Bool.and_true, Bool.false_and, Bool.and_false, Bool.true_or, Bool.or_true, Bool.false_or, Bool.or_false, Bool.not_true, Bool.not_false, Bool.not_not, cond_true, cond_false]; first | done | rfl)), rfl, rfl⟩
  | exact (congrArg zwq (zxr (by assumption) (by (simp only [zz] at *; omega)) hj)).symm
noncomputable def zdK (q : QueryM) : List (List Nat) := bif zaE q != 0 then [] else zbi q
theorem zr3 {q : QueryM} (h : (zaE q != 0) = true) : Same (.tup [.cv .nils, ai (zaE q)]) (.tup [.isl 1 (zdK q).length (elF zed (zdK q)), ai (zaE q)]) := by
 have : zdK q = [] := by unfold zdK; rw [h]; rfl
 rw [this]; exact .tup (.cons .nils (.cons (.refl _) .nil))
theorem zwK {q : QueryM} (h : (zaE q != 0) = false) : Same (.tup [.isl 1 (zbi q).length (elF zed (zbi q)), ai 0]) (.tup [.isl 1 (zdK q).length (elF zed (zdK q)), ai (zaE q)]) := by
 have : zdK q = zbi q := by unfold zdK; rw [h]; rfl
 rw [this, show zaE q = 0 by simpa using h]; exact .refl _
theorem zzN (q : QueryM) (hq : QFit q) (hs : q.hv.length + q.em.length ≤ 900000) : DSpec Tryz.prog axX axG 15 [.agg (zaj q)] [] (fun v O => v = .tup [.isl 1 (zdK q).length (elF zed (zdK q)), ai (zaE q)] /\ O = []) := by
 refine DSpec.same (post := fun v O => Same v (.tup [.isl 1 (zdK q).length (elF zed (zdK q)), ai (zaE q)]) /\ O = []) ?_ fun v O h => ⟨_, h.1, rfl, h.2⟩
 refine zac { glb := axG } true Tryz.func15 (by kernel_rfl) rfl ?_
 repeat' (
   (conv => whnf)
   first
    | exact zad (by kernel_rfl)
    | refine And.intro ?_ ?_
    | refine zaa ?_ ?_
    | (refine ⟨_, zdU q hq hs, ?_⟩; rintro v O' ⟨rfl, rfl⟩)
    | (refine ⟨_, zw8 q hq hs, ?_⟩; rintro v O' ⟨rfl, rfl⟩)
    | intro _)
 all_goals first
  | rfl
  | (rename_i hz; exact zr3 hz)
  | (rename_i hz; exact zwK hz)
noncomputable def zqI (q : QueryM) : SV := bif zaE q != 0 then .tup [ai 0, ai 0, ai (zaE q)] else .tup [ai ((zaf q.p).length : Int), ai (zpe q.p), ai 0]
theorem zzM (q : QueryM) (hq : QFit q) (hs : q.hv.length + q.em.length ≤ 900000) : DSpec Tryz.prog axX axG 19 [.agg (zaj q)] [] (fun v O => v = zqI q /\ O = []) := by
 refine zac { glb := axG } true Tryz.func19 (by kernel_rfl) rfl ?_
 repeat' (
   (conv => whnf)
   first
    | exact zad (by kernel_rfl)
    | refine And.intro ?_ ?_
    | refine zaa ?_ ?_
    | (refine ⟨_, zdU q hq hs, ?_⟩; rintro v O' ⟨rfl, rfl⟩)
    | (refine ⟨_, zij q.p hq.toNFit, ?_⟩; rintro v O' ⟨rfl, rfl⟩)
    | (refine ⟨_, zsM q.p hq.toNFit, ?_⟩; rintro v O' ⟨rfl, rfl⟩)
    | intro _)
 all_goals first
  | rfl
  | (rename_i hz; unfold zqI; rw [hz]; rfl)
end Go.Proofs.YtlfhikphdkpfgaaGreatDoor
