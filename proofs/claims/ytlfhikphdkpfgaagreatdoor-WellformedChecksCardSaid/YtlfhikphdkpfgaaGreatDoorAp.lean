import Derived.Test.YtlfhikphdkpfgaaGreatDoorAn
set_option linter.unusedSimpArgs false
set_option linter.unusedVariables false
set_option maxRecDepth 100000
namespace Go.Proofs.YtlfhikphdkpfgaaGreatDoor
open Go Go.Cx
noncomputable def zrg (n : NodeM) (i j : Nat) : Bool := !isE (nmP (zaV n i)) && za1 (nmP (zaV n j)) (nmP (zaV n i))
theorem zhV {n : NodeM} {i j : Nat} (hj : j < i) (hi : i ≤ (zaf n).length) : ((zap n).take i)[j]? = some (zaV n j) := by
 have h1 : j < (zgW n).length := by rw [zfE]; omega
 have h2 : j < (zap n).length := by rw [zdy]; omega
 rw [List.getElem?_take_of_lt hj, List.getElem?_eq_getElem h2]
 unfold zaV
 rw [List.getD_eq_getElem?_getD, List.getD_eq_getElem?_getD, List.getElem?_eq_getElem (show j < (zaf n).length by omega), List.getElem?_eq_getElem h1]
 simp [zap]
theorem zlq {x y : List Nat} (h : za1 x y = true) : isE x = isE y := zmU h _
theorem zwa {n : NodeM} {i j : Nat} (hj : j < i) (hi : i ≤ (zaf n).length) (h : zrg n i j = true) : zeb n i = true := by
 unfold zrg at h
 rw [Bool.and_eq_true] at h
 unfold zeb
 rw [h.1, Bool.true_and]
 unfold inU
 rw [List.any_eq_true]
 refine ⟨nmP (zaV n j), ?_, by rw [zcR]; exact h.2⟩
 unfold zbk
 refine List.mem_map.2 ⟨zaV n j, List.mem_filter.2 ⟨List.mem_of_getElem? (zhV hj hi), ?_⟩, rfl⟩
 rw [zlq h.2]; exact h.1
theorem zkS {n : NodeM} {i : Nat} (hi : i ≤ (zaf n).length) (h : ∀ j, j < i -> zrg n i j = false) : zeb n i = false := by
 rw [Bool.eq_false_iff]
 intro hd
 unfold zeb at hd
 rw [Bool.and_eq_true] at hd
 have h2 := hd.2
 unfold inU at h2
 rw [List.any_eq_true] at h2
 obtain ⟨y, hy, hb⟩ := h2
 unfold zbk at hy
 obtain ⟨p, hp, rfl⟩ := List.mem_map.1 hy
 obtain ⟨j, hj⟩ := List.mem_iff_getElem?.1 (List.mem_filter.1 hp).1
 have hlt := (List.getElem?_eq_some_iff.1 hj).1
 rw [List.length_take] at hlt
 have hji : j < i := by omega
 rw [zhV hji hi] at hj
 cases hj
 have := h j hji
 unfold zrg at this
 rw [hd.1, Bool.true_and, zcR, hb] at this; cases this
noncomputable def zhh (n : NodeM) : List (List Nat) := bif zni n then [] else za2 (zap n)
theorem zmw (l : zhz) : (za2 l).length ≤ l.length := by
 unfold za2; rw [List.length_map]; exact List.length_filter_le _ _
theorem zy8 {n : NodeM} (h : zni n = true) : Same (.tup [.cv .nils, ab false]) (.tup [.isl 1 (zhh n).length (elF zed (zhh n)), ab (!zni n)]) := by
 have : zhh n = [] := by unfold zhh; rw [h]; rfl
 rw [this, h]; exact .tup (.cons .nils (.cons (.refl _) .nil))
theorem zzi {n : NodeM} {k m : Nat} {el : Nat -> List SV} (hk : decide ((k : Int) < (zaf n).length) = false) (hj : ∀ j, j < k -> zeb n j = false) (hl : LElA zed (za2 ((zap n).take k)) m el) : Same (.tup [.isl 1 m el, ab true]) (.tup [.isl 1 (zhh n).length (elF zed (zhh n)), ab (!zni n)]) := by
 have h1 : (zaf n).length ≤ k := by simp at hk; omega
 have hd := zwO h1 hj
 rw [zel h1] at hl
 have : zhh n = za2 (zap n) := by unfold zhh; rw [hd]; rfl
 rw [this, hd]; exact .tup (.cons hl.same (.cons (.refl _) .nil))
theorem zz9 {n : NodeM} {k : Nat} (hk : k < (zaf n).length) (h : isE (nmP (zaV n k)) = false) (h2 : (zaV n k).2 = false) : za2 ((zap n).take (k + 1)) = za2 ((zap n).take k) ++ [nmP (zaV n k)] := by
 rw [zeI hk, zn0 h, h2]; rfl
theorem zw3 {n : NodeM} {k : Nat} (hk : k < (zaf n).length) (h : isE (nmP (zaV n k)) = true \/ (zaV n k).2 = true) : za2 ((zap n).take (k + 1)) = za2 ((zap n).take k) := by
 rw [zeI hk]
 cases he : isE (nmP (zaV n k)) with
 | true => exact zt7 he
 | false =>
  rcases h with h | h
  ·rw [he] at h; cases h
  ·rw [zn0 he, h]; simp
set_option maxHeartbeats 8000000 in
theorem zly (q : QueryM) (hq : QFit q) : DSpec Tryz.prog axX axG 38 [.agg (zaj q)] [] (fun v O => v = .tup [.isl 1 (zhh q.p).length (elF zed (zhh q.p)), ab (!zni q.p)] /\ O = []) := by
 have hal := zi4 hq.toNFit
 have hnl := zfE q.p
 have hpl := zdy q.p
 refine DSpec.same (post := fun v O => Same v (.tup [.isl 1 (zhh q.p).length (elF zed (zhh q.p)), ab (!zni q.p)]) /\ O = []) ?_ fun v O h => ⟨_, h.1, rfl, h.2⟩
 refine zac { glb := axG, ann := [(5, [9, 8]), (8, [10, 8])], nils := [(5, [(.slot 8, 9, 1)])] } true Tryz.func38 (by kernel_rfl) rfl ?_
 repeat' (
   (conv => whnf)
   first
    | exact zad (by kernel_rfl)
    | refine And.intro ?_ ?_
    | refine zaa ?_ ?_
    | (refine ⟨_, zhN q.p hq.toNFit, ?_⟩; rintro v O' ⟨rfl, rfl⟩)
    | (refine ⟨_, zkk q.p hq.toNFit, ?_⟩; rintro v O' ⟨rfl, rfl⟩)
    | ((have := hj; refine ⟨fun vs O _ => ∃ u : Nat, u ≤ k /\ (∀ j, j < u -> zrg q.p k j = false) /\ vs = [ai u, .lst 1] /\ O = [.cells 32 (zaj q), .list 9 1 m el], fun vs O => match vs with | [.cv (.int _ u), _] => k - u.toNat | _ => 0, ⟨0, Nat.zero_le _, fun j h => absurd h (by omega), rfl, rfl⟩, ?_⟩; rintro vs O _ ⟨u, hu, hv, rfl, rfl⟩))
    | ((refine ⟨fun vs O _ => ∃ (k m : Nat) (el : Nat -> List SV), k ≤ (zaf q.p).length /\ (∀ j, j < k -> zeb q.p j = false) /\ LElA zed (za2 ((zap q.p).take k)) m el /\ vs = [ai k, .lst 1] /\ O = [.cells 32 (zaj q), .list 9 1 m el], fun vs O => match vs with | [.cv (.int _ k), _] => (zaf q.p).length - k.toNat | _ => 0, ⟨0, 0, _, Nat.zero_le _, fun j h => absurd h (by omega), ⟨rfl, fun i h => absurd h (by omega)⟩, rfl, rfl⟩, ?_⟩; rintro vs O _ ⟨k, m, el, hk, hj, hl, rfl, rfl⟩))
    | intro _)
 all_goals try have hpr : zrg q.p k u = (!isE (nm ((zaf q.p).getD ((k : Int).toNat) default).name) && za1 (nm ((zaf q.p).getD ((u : Int).toNat) default).name) (nm ((zaf q.p).getD ((k : Int).toNat) default).name)) := rfl
 all_goals try have hkl := zmw ((zap q.p).take k)
 all_goals first
  | rfl
  | omega
  | (simp only [zz] at *; omega)
  | exact zy8 (ztB (k := k) (by (simp only [zz] at *; omega)) (zwa (j := u) (by (simp only [zz] at *; omega)) (by (simp only [zz] at *; omega)) (hpr.trans (by (simp only [isE, *, Bool.true_and, Bool.and_true, Bool.false_and, Bool.and_false, Bool.true_or, Bool.or_true, Bool.false_or, Bool.or_false, Bool.not_true, Bool.not_false, Bool.not_not, cond_true, cond_false]; first | done | rfl)))))
  | exact ⟨u + 1, by (simp only [zz] at *; omega), zaO hv (hpr.trans (by (simp only [isE, *, Bool.true_and, Bool.and_true, Bool.false_and, Bool.and_false, Bool.true_or, Bool.or_true, Bool.false_or, Bool.or_false, Bool.not_true, Bool.not_false, Bool.not_not, cond_true, cond_false]; first | done | rfl))), rfl, rfl⟩
  | (have h1 := hl.1; rw [List.length_take] at hkl; (simp only [zz] at *; omega))
  | (rename_i _ hu2 ha hb; have hke : u = k := by (simp only [zz] at *; omega)
     subst hke
     exact ⟨u + 1, _, _, by (simp only [zz] at *; omega), zaO hj (zkS (by (simp only [zz] at *; omega)) hv), by rw [zz9 (n := q.p) (k := u) (by (simp only [zz] at *; omega)) (by rw [Bool.not_eq_true'] at ha; exact ha) (by rw [Bool.not_eq_true'] at hb; exact hb)]; exact hl.snoc rfl rfl, rfl, rfl⟩)
  | (rename_i _ hu2 ha hb; have hke : u = k := by (simp only [zz] at *; omega)
     subst hke
     exact ⟨u + 1, _, _, by (simp only [zz] at *; omega), zaO hj (zkS (by (simp only [zz] at *; omega)) hv), by rw [zw3 (n := q.p) (k := u) (by (simp only [zz] at *; omega)) (.inr (by rw [Bool.not_eq_false'] at hb; exact hb))]; exact hl, rfl, rfl⟩)
  | (rename_i _ hu2 ha; have hke : u = k := by (simp only [zz] at *; omega)
     subst hke
     exact ⟨u + 1, _, _, by (simp only [zz] at *; omega), zaO hj (zkS (by (simp only [zz] at *; omega)) hv), by rw [zw3 (n := q.p) (k := u) (by (simp only [zz] at *; omega)) (.inl (by rw [Bool.not_eq_false'] at ha; exact ha))]; exact hl, rfl, rfl⟩)
  | (rename_i hz; exact zzi hz hj hl)
theorem zzw {l : List (List Nat)} {s : List Nat} {k : Nat} (hk : k < l.length) (h : za1 (l.getD k default) s = true) : inU l s = true := by
 unfold inU
 rw [List.any_eq_true]
 exact ⟨l.getD k default, zlT hk, by rw [zcR]; exact h⟩
theorem zzs {l : List (List Nat)} {s : List Nat} {k : Nat} (hk : l.length ≤ k) (h : ∀ j, j < k -> za1 (l.getD j default) s = false) : inU l s = false := by
 unfold inU
 rw [Bool.eq_false_iff, Ne, List.any_eq_true]
 rintro ⟨y, hy, hb⟩
 obtain ⟨i, hi, rfl⟩ := List.mem_iff_getElem.1 hy
 have := h i (by omega)
 rw [List.getD_eq_getElem?_getD, List.getElem?_eq_getElem hi] at this
 simp only [Option.getD_some] at this
 rw [zcR, this] at hb; cases hb
theorem zvD (l : List (List Nat)) (s : List Nat) (hl : l.length ≤ 1000000) : DSpec Tryz.prog axX axG 45 [.isl 1 l.length (elF zed l), .cv (.str s)] [] (fun v O => ∃ k : Int, v = ai k /\ decide (k < 0) = !inU l s /\ O = []) := by
 refine zac { glb := axG, ann := [(2, [5])] } true Tryz.func45 (by kernel_rfl) rfl ?_
 repeat' (
   (conv => whnf)
   first
    | exact zad (by kernel_rfl)
    | refine And.intro ?_ ?_
    | refine zaa ?_ ?_
    | ((refine ⟨fun vs O _ => ∃ k : Nat, k ≤ l.length /\ (∀ j, j < k -> za1 (l.getD j default) s = false) /\ vs = [ai k] /\ O = [], fun vs O => match vs with | [.cv (.int _ k)] => l.length - k.toNat | _ => 0, ⟨0, Nat.zero_le _, fun j h => absurd h (by omega), rfl, rfl⟩, ?_⟩; rintro vs O _ ⟨k, hk, hj, rfl, rfl⟩))
    | intro _)
 all_goals first
  | rfl
  | omega
  | (simp only [zz] at *; omega)
  | (rename_i hz; exact ⟨k, rfl, by rw [zzw (k := k) (by (simp only [zz] at *; omega)) hz]; exact decide_eq_false (by omega), rfl⟩)
  | (rename_i hz; exact ⟨k + 1, by (simp only [zz] at *; omega), zaO (p := fun j => za1 (l.getD j default) s) hj hz, rfl, rfl⟩)
  | exact ⟨-1, rfl, by rw [zzs (k := k) (by (simp only [zz] at *; omega)) hj]; rfl, rfl⟩
theorem zut {l : List (List Nat)} {x : List Nat} {k : Int} (hk : decide (k < 0) = !inU l x) (h : decide (k < 0) = true) : zjO l x = l ++ [x] := by
 unfold zjO
 rw [h] at hk
 have : inU l x = false := by cases hq : inU l x <;> rw [hq] at hk <;> simp at hk ⊢
 rw [this]; rfl
theorem zrL {l : List (List Nat)} {x : List Nat} {k : Int} (hk : decide (k < 0) = !inU l x) (h : decide (k < 0) = false) : zjO l x = l := by
 unfold zjO
 rw [h] at hk
 have : inU l x = true := by cases hq : inU l x <;> rw [hq] at hk <;> simp at hk ⊢
 rw [this]; rfl
set_option maxHeartbeats 8000000 in
theorem zsv (q : QueryM) (hq : QFit q) (hs : q.hv.length + q.em.length ≤ 900000) : DSpec Tryz.prog axX axG 44 [.agg (zaj q)] [] (fun v O => v = .isl 1 (zbi q).length (elF zed (zbi q)) /\ O = []) := by
 refine DSpec.same (post := fun v O => Same v (.isl 1 (zbi q).length (elF zed (zbi q))) /\ O = []) ?_ fun v O h => ⟨_, h.1, rfl, h.2⟩
 refine zac { glb := axG, ann := [(3, [4, 3]), (8, [5, 3])], nils := [(3, [(.slot 3, 9, 1)])] } true Tryz.func44 (by kernel_rfl) rfl ?_
 repeat' (
   (conv => whnf)
   first
    | exact zad (by kernel_rfl)
    | refine And.intro ?_ ?_
    | refine zaa ?_ ?_
    | ((have := hk; refine ⟨fun vs O _ => ∃ (k m : Nat) (el : Nat -> List SV), k ≤ q.em.length /\ LElA zed (zdk (q.hv.map nmH ++ (q.em.take k).map nmA)) m el /\ vs = [ai k, .lst 1] /\ O = [.cells 32 (zaj q), .list 9 1 m el], fun vs O => match vs with | [.cv (.int _ k), _] => q.em.length - k.toNat | _ => 0, ⟨0, m, el, Nat.zero_le _, by rw [zfF (k := k) (by (simp only [zz] at *; omega))]; exact hl, rfl, rfl⟩, ?_⟩; rintro vs O _ ⟨k2, m2, el2, hk2, hl2, rfl, rfl⟩))
    | ((refine ⟨fun vs O _ => ∃ (k m : Nat) (el : Nat -> List SV), k ≤ q.hv.length /\ LElA zed (zdk ((q.hv.take k).map nmH)) m el /\ vs = [ai k, .lst 1] /\ O = [.cells 32 (zaj q), .list 9 1 m el], fun vs O => match vs with | [.cv (.int _ k), _] => q.hv.length - k.toNat | _ => 0, ⟨0, 0, _, Nat.zero_le _, ⟨rfl, fun i h => absurd h (by omega)⟩, rfl, rfl⟩, ?_⟩; rintro vs O _ ⟨k, m, el, hk, hl, rfl, rfl⟩))
    | (refine ⟨_, (zvD _ (nmA (q.em.getD k2 default)) (by have := zic q k2; omega)).arg (.cons hl2.same (.cons (.refl _) .nil)), ?_⟩; rintro v O' ⟨x, rfl, hx, rfl⟩)
    | (refine ⟨_, (zvD _ (nmH (q.hv.getD k default)) (by have := ziJ q k; omega)).arg (.cons hl.same (.cons (.refl _) .nil)), ?_⟩; rintro v O' ⟨x, rfl, hx, rfl⟩)
    | intro _)
 all_goals try have hul := zic q k2
 all_goals try have huh := ziJ q k
 all_goals first
  | rfl
  | omega
  | (simp only [zz] at *; omega)
  | (have h1 := hl2.1; (simp only [zz] at *; omega))
  | (have h1 := hl.1; (simp only [zz] at *; omega))
  | (rename_i hz; exact ⟨k2 + 1, _, _, by (simp only [zz] at *; omega), by rw [zeK (by (simp only [zz] at *; omega)), zut hx hz]; exact hl2.snoc rfl rfl, rfl, rfl⟩)
  | (rename_i hz; exact ⟨k2 + 1, _, _, by (simp only [zz] at *; omega), by rw [zeK (by (simp only [zz] at *; omega)), zrL hx hz]; exact hl2, rfl, rfl⟩)
  | (rename_i hz; exact ⟨k + 1, _, _, by (simp only [zz] at *; omega), by rw [zeC (by (simp only [zz] at *; omega)), zut hx hz]; exact hl.snoc rfl rfl, rfl, rfl⟩)
  | (rename_i hz; exact ⟨k + 1, _, _, by (simp only [zz] at *; omega), by rw [zeC (by (simp only [zz] at *; omega)), zrL hx hz]; exact hl, rfl, rfl⟩)
  | exact zmn (by (simp only [zz] at *; omega)) hl2
end Go.Proofs.YtlfhikphdkpfgaaGreatDoor
