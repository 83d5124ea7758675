import Derived.Test.YtlfhikphdkpfgaaGreatDoorAp
set_option linter.unusedSimpArgs false
set_option linter.unusedVariables false
set_option maxRecDepth 100000
namespace Go.Proofs.YtlfhikphdkpfgaaGreatDoor
open Go Go.Cx
noncomputable def zeA (n : NodeM) (k : Nat) : Bool := (zaV n k).2 && !isE (nmP (zaV n k))
theorem zsJ {n : NodeM} {p : AtomM × Bool} (h : p ∈ zap n) : ∃ k, k < (zaf n).length /\ p = zaV n k := by
 obtain ⟨k, hk⟩ := List.mem_iff_getElem?.1 h
 have hlt := (List.getElem?_eq_some_iff.1 hk).1
 rw [zdy] at hlt
 have := zhV (n := n) hlt (Nat.le_refl _)
 rw [zel (Nat.le_refl _), hk] at this
 cases this
 exact ⟨k, hlt, rfl⟩
theorem zve {n : NodeM} {k : Nat} (hk : k < (zaf n).length) : zaV n k ∈ zap n := by
 have := zhV (n := n) hk (Nat.le_refl _)
 rw [zel (Nat.le_refl _)] at this
 exact List.mem_of_getElem? this
theorem zyD {n : NodeM} {k : Nat} (hk : k < (zaf n).length) (h : zeA n k = true) : zbO (zap n) = true := by
 unfold zbO
 rw [List.any_eq_true]
 refine ⟨_, zve hk, ?_⟩
 unfold zeA at h
 rw [Bool.and_comm]; exact h
theorem zAH {n : NodeM} {k : Nat} (hk : (zaf n).length ≤ k) (h : ∀ j, j < k -> zeA n j = false) : zbO (zap n) = false := by
 unfold zbO
 rw [Bool.eq_false_iff, Ne, List.any_eq_true]
 rintro ⟨p, hp, hb⟩
 obtain ⟨j, hj, rfl⟩ := zsJ hp
 have := h j (by omega)
 unfold zeA at this
 rw [Bool.and_comm, hb] at this; cases this
noncomputable def zju (q : QueryM) (s : List Nat) : Bool := !inU (zhh q.p) s
noncomputable def zd8 (q : QueryM) : Bool := !zbO (zap q.p) && !((zbi q).any (zju q))
theorem zwg (n : NodeM) : (zhh n).length ≤ (zaf n).length := by
 unfold zhh
 cases zni n with
 | true => exact Nat.zero_le _
 | false => have := zmw (zap n); rw [zdy] at this; exact this
theorem zAm {q : QueryM} {k : Nat} (hk : k < (zaf q.p).length) (h : zeA q.p k = true) : zd8 q = false := by unfold zd8; rw [zyD hk h]; rfl
theorem zAx {q : QueryM} {u : Nat} {x : Int} (hu : u < (zbi q).length) (hx : decide (x < 0) = !inU (zhh q.p) ((zbi q).getD u default)) (h : decide (x < 0) = true) : zd8 q = false := by
 rw [h] at hx
 have : (zbi q).any (zju q) = true := by
  rw [List.any_eq_true]
  exact ⟨_, zlT hu, hx.symm⟩
 unfold zd8; rw [this]; simp
theorem zAs {q : QueryM} {k u : Nat} (hk : (zaf q.p).length ≤ k) (hj : ∀ j, j < k -> zeA q.p j = false) (hu : (zbi q).length ≤ u) (hv : ∀ j, j < u -> zju q ((zbi q).getD j default) = false) : zd8 q = true := by
 have : (zbi q).any (zju q) = false := by
  rw [Bool.eq_false_iff, Ne, List.any_eq_true]
  rintro ⟨y, hy, hb⟩
  obtain ⟨i, hi, rfl⟩ := List.mem_iff_getElem.1 hy
  have := hv i (by omega)
  rw [List.getD_eq_getElem?_getD, List.getElem?_eq_getElem hi] at this
  simp only [Option.getD_some] at this
  rw [this] at hb; cases hb
 unfold zd8; rw [zAH hk hj, this]; rfl
theorem zBc {q : QueryM} {u : Nat} {x : Int} (hv : ∀ j, j < u -> zju q ((zbi q).getD j default) = false) (hx : decide (x < 0) = !inU (zhh q.p) ((zbi q).getD u default)) (h : decide (x < 0) = false) : ∀ j, j < u + 1 -> zju q ((zbi q).getD j default) = false := fun j hj => by
 rcases Nat.lt_succ_iff_lt_or_eq.1 hj with h1 | rfl
 ·exact hv j h1
 ·rw [h] at hx; exact hx.symm
set_option maxHeartbeats 8000000 in
theorem zu2 (q : QueryM) (hq : QFit q) (hs : q.hv.length + q.em.length ≤ 900000) : DSpec Tryz.prog axX axG 41 [.agg (zaj q)] [] (fun v O => v = ab (zd8 q) /\ O = []) := by
 have hal := zi4 hq.toNFit
 have hnl := zfE q.p
 have hrl := zwg q.p
 have hul := zpU q
 refine zac { glb := axG, ann := [(4, [7]), (11, [11])] } true Tryz.func41 (by kernel_rfl) rfl ?_
 repeat' (
   (conv => whnf)
   first
    | exact zad (by kernel_rfl)
    | refine And.intro ?_ ?_
    | refine zaa ?_ ?_
    | (refine ⟨_, zhN q.p hq.toNFit, ?_⟩; rintro v O' ⟨rfl, rfl⟩)
    | (refine ⟨_, zkk q.p hq.toNFit, ?_⟩; rintro v O' ⟨rfl, rfl⟩)
    | (refine ⟨_, zly q hq, ?_⟩; rintro v O' ⟨rfl, rfl⟩)
    | (refine ⟨_, zsv q hq hs, ?_⟩; rintro v O' ⟨rfl, rfl⟩)
    | ((have := hj; refine ⟨fun vs O _ => ∃ u : Nat, u ≤ (zbi q).length /\ (∀ j, j < u -> zju q ((zbi q).getD j default) = false) /\ vs = [ai u] /\ O = [.cells 32 (zaj q)], fun vs O => match vs with | [.cv (.int _ u)] => (zbi q).length - u.toNat | _ => 0, ⟨0, Nat.zero_le _, fun j h => absurd h (by omega), rfl, rfl⟩, ?_⟩; rintro vs O _ ⟨u, hu, hv, rfl, rfl⟩))
    | ((refine ⟨fun vs O _ => ∃ k : Nat, k ≤ (zaf q.p).length /\ (∀ j, j < k -> zeA q.p j = false) /\ vs = [ai k] /\ O = [.cells 32 (zaj q)], fun vs O => match vs with | [.cv (.int _ k)] => (zaf q.p).length - k.toNat | _ => 0, ⟨0, Nat.zero_le _, fun j h => absurd h (by omega), rfl, rfl⟩, ?_⟩; rintro vs O _ ⟨k, hk, hj, rfl, rfl⟩))
    | (refine ⟨_, zvD (zhh q.p) ((zbi q).getD u default) (by omega), ?_⟩; rintro v O' ⟨x, rfl, hx, rfl⟩)
    | intro _)
 all_goals try have hwa : zeA q.p k = ((zgW q.p).getD ((k : Int).toNat) default && !isE (nm ((zaf q.p).getD ((k : Int).toNat) default).name)) := rfl
 all_goals first
  | rfl
  | omega
  | (simp only [zz] at *; omega)
  | exact abF (zAm (k := k) (by (simp only [zz] at *; omega)) (hwa.trans (by (simp only [isE, *, Bool.true_and, Bool.and_true, Bool.false_and, Bool.and_false, Bool.true_or, Bool.or_true, Bool.false_or, Bool.or_false, Bool.not_true, Bool.not_false, Bool.not_not, cond_true, cond_false]; first | done | rfl))))
  | exact ⟨k + 1, by (simp only [zz] at *; omega), zaO hj (hwa.trans (by (simp only [isE, *, Bool.true_and, Bool.and_true, Bool.false_and, Bool.and_false, Bool.true_or, Bool.or_true, Bool.false_or, Bool.or_false, Bool.not_true, Bool.not_false, Bool.not_not, cond_true, cond_false]; first | done | rfl))), rfl, rfl⟩
  | (rename_i hz; exact abF (zAx (u := u) (by (simp only [zz] at *; omega)) hx hz))
  | (rename_i hz; exact ⟨u + 1, by (simp only [zz] at *; omega), zBc hv hx hz, rfl, rfl⟩)
  | exact congrArg (fun b => SV.cv (CV.bool b)) (zAs (k := k) (u := u) (by (simp only [zz] at *; omega)) hj (by (simp only [zz] at *; omega)) hv).symm
noncomputable def znZ (q : QueryM) : Int := bif zcn q != 0 then zcn q else bif zhr q then 6 else bif decide (zpe q.p > 6) then 22 else bif zb4 q then 2 else bif zcB q then 9 else bif zni q.p then 8 else bif zd8 q then 0 else 12
theorem zqd {q : QueryM} (h : (zcn q != 0) = false) : zao 200 q.p = true := by
 cases hb : zao 200 q.p with
 | true => rfl
 | false => rw [zA3 (by rw [hb]; rfl)] at h; cases h
theorem zuE (q : QueryM) : zfL q = bif zni q.p then 8 else bif zd8 q then 0 else 12 := by
 unfold zfL
 cases hd : zni q.p with
 | true => rfl
 | false =>
  have hb : (zzH q) = (zju q) := by
   funext s
   unfold zzH zju zhh
   rw [hd]; rfl
  rw [hb]
  unfold zd8
  cases zbO (zap q.p) <;> cases (zbi q).any (zju q) <;> rfl
theorem zp4 (q : QueryM) : znZ q = zaE q := by
 have h0 : zfG q 0 = zcn q := rfl
 have h1 : zfG q 1 = bif zhr q then 6 else 0 := rfl
 have h2 : zfG q 2 = bif decide (zpe q.p > 6) then 22 else 0 := rfl
 have h3 : zfG q 3 = bif zb4 q then 2 else 0 := rfl
 have h4 : zfG q 4 = bif zcB q then 9 else 0 := rfl
 have h5 : zfG q 5 = zfL q := rfl
 unfold znZ zaE
 rw [h0, h1, h2, h3, h4, h5, zuE]
 cases zcn q != 0 <;> cases zhr q <;> cases decide (zpe q.p > 6) <;> cases zb4 q <;> cases zcB q <;> rfl
set_option maxHeartbeats 8000000 in
theorem zeo (q : QueryM) (hq : QFit q) (hs : q.hv.length + q.em.length ≤ 900000) : DSpec Tryz.prog axX axG 9 [.agg (zaj q)] [] (fun v O => v = ai (zaE q) /\ O = []) := by
 rw [<- zp4]
 refine zac { glb := axG } true Tryz.func9 (by kernel_rfl) rfl ?_
 repeat' (
   (conv => whnf)
   first
    | exact zad (by kernel_rfl)
    | refine And.intro ?_ ?_
    | refine zaa ?_ ?_
    | (refine ⟨_, zvM q hq, ?_⟩; rintro v O' ⟨rfl, rfl⟩)
    | (refine ⟨_, zxe q hq (zqd (by assumption)), ?_⟩; rintro v O' ⟨rfl, rfl⟩)
    | (refine ⟨_, zql q.p hq.toNFit, ?_⟩; rintro v O' ⟨rfl, rfl⟩)
    | (refine ⟨_, zly q hq, ?_⟩; rintro v O' ⟨rfl, rfl⟩)
    | (refine ⟨_, zr8 q hq, ?_⟩; rintro v O' ⟨rfl, rfl⟩)
    | (refine ⟨_, zsq q.p hq.fit ⟨200, zqd (by assumption)⟩ true, ?_⟩; rintro v O' ⟨rfl, rfl⟩)
    | (refine ⟨_, zu2 q hq hs, ?_⟩; rintro v O' ⟨rfl, rfl⟩)
    | intro _)
 all_goals try have hst := zzv q
 all_goals first
  | rfl
  | (simp only [znZ, *, Bool.true_and, Bool.and_true, Bool.false_and, Bool.and_false, Bool.true_or, Bool.or_true, Bool.false_or, Bool.or_false, Bool.not_true, Bool.not_false, Bool.not_not, cond_true, cond_false]; first | done | rfl)
  | (simp only [hst, Bool.not_not] at *; (simp only [znZ, *, Bool.true_and, Bool.and_true, Bool.false_and, Bool.and_false, Bool.true_or, Bool.or_true, Bool.false_or, Bool.or_false, Bool.not_true, Bool.not_false, Bool.not_not, cond_true, cond_false]; first | done | rfl))
  | (simp only [hst, Bool.not_not, Bool.not_eq_true', Bool.not_eq_false'] at *; (simp only [znZ, *, Bool.true_and, Bool.and_true, Bool.false_and, Bool.and_false, Bool.true_or, Bool.or_true, Bool.false_or, Bool.or_false, Bool.not_true, Bool.not_false, Bool.not_not, cond_true, cond_false]; first | done | rfl))
theorem zqF (n : NodeM) (hn : NFit n) : DSpec Tryz.prog axX axG 11 [.agg (zah n)] [] (fun v O => v = ai (zaE (zvs n)) /\ O = []) := by
 have h := (zeo (zvs n) (zpy hn) (by simp [zvs])).arg (args' := [.agg [ai n.kind, ai n.mn, ai n.mx, ai n.atom.kind, ab n.atom.bnd, au n.atom.bound, .isl 2 n.atom.cs.length (zdx n.atom.cs), zrz n.atom.name, .isl 9 n.kids.length (zbY n.kids), au 0, .cv .nils, .cv .nils]]) (.cons (.agg (.cons (.refl _) (.cons (.refl _) (.cons (.refl _) (.cons (.refl _) (.cons (.refl _) (.cons (.refl _) (.cons (.refl _) (.cons (.refl _) (.cons (.refl _) (.cons (.refl _) (.cons .nils (.cons .nils .nil))))))))))))) .nil)
 refine zac { glb := axG } true Tryz.func11 (by kernel_rfl) rfl ?_
 repeat' (
   (conv => whnf)
   first
    | exact zad (by kernel_rfl)
    | refine And.intro ?_ ?_
    | refine zaa ?_ ?_
    | (refine ⟨_, h, ?_⟩; rintro v O' ⟨rfl, rfl⟩)
    | intro _)
 all_goals first
  | rfl
theorem zqX {q : QueryM} (h : (zaE q != 0) = false) : zni q.p = false /\ zbO (zap q.p) = false := by
 have h1 : znZ q = 0 := by rw [zp4]; simpa using h
 unfold znZ at h1
 cases h2 : zcn q != 0 with
 | true => rw [h2] at h1; simp only [cond_true] at h1; rw [h1] at h2; cases h2
 | false =>
  rw [h2] at h1
  cases h3 : zhr q <;> rw [h3] at h1 <;> simp only [cond_true, cond_false] at h1 <;> try (exact absurd h1 (by decide))
  cases h4 : decide (zpe q.p > 6) <;> rw [h4] at h1 <;> simp only [cond_true, cond_false] at h1 <;> try (exact absurd h1 (by decide))
  cases h5 : zb4 q <;> rw [h5] at h1 <;> simp only [cond_true, cond_false] at h1 <;> try (exact absurd h1 (by decide))
  cases h6 : zcB q <;> rw [h6] at h1 <;> simp only [cond_true, cond_false] at h1 <;> try (exact absurd h1 (by decide))
  cases h7 : zni q.p <;> rw [h7] at h1 <;> simp only [cond_true, cond_false] at h1 <;> try (exact absurd h1 (by decide))
  cases h8 : zd8 q <;> rw [h8] at h1 <;> simp only [cond_true, cond_false] at h1 <;> try (exact absurd h1 (by decide))
  refine ⟨rfl, ?_⟩
  unfold zd8 at h8
  rw [Bool.and_eq_true] at h8
  simpa using h8.1
theorem zrA {l : zhz} (h : zbO l = false) : za2 l = zbk l := by
 unfold za2 zbk
 congr 1
 refine List.filter_congr fun p hp => ?_
 unfold zbO at h
 rw [List.any_eq_false] at h
 have := h p hp
 cases h1 : isE (nmP p) with
 | true => rfl
 | false =>
  rw [h1] at this
  cases h2 : p.2 with
  | true => rw [h2] at this; simp at this
  | false => rfl
theorem zsh {n : NodeM} : zbk (zap n) = zmI (zaf n) (zaf n).length := by
 unfold zmI zbk
 rw [List.take_of_length_le (Nat.le_refl _)]
 have hz : (zap n).map (·.1) = zaf n := by
  unfold zap
  rw [List.map_fst_zip]
  rw [zfE]; exact Nat.le_refl _
 have : (zaf n).filter (fun a => !isE (nm a.name)) = ((zap n).filter fun p => !isE (nmP p)).map (·.1) := by
  rw [<- hz, List.filter_map]; rfl
 rw [this, List.map_map]; rfl
theorem zej {q : QueryM} (h : (zaE q != 0) = false) : zhh q.p = zmI (zaf q.p) (zaf q.p).length := by
 obtain ⟨h1, h2⟩ := zqX h
 unfold zhh
 rw [h1]
 show za2 (zap q.p) = _
 rw [zrA h2, zsh]
theorem zpn (q : QueryM) (hq : QFit q) (hs : q.hv.length + q.em.length ≤ 900000) : DSpec Tryz.prog axX axG 13 [.agg (zaj q)] [] (fun v O => v = .tup [.isl 1 (zaW q).length (elF zed (zaW q)), ai (zaE q)] /\ O = []) := by
 refine DSpec.same (post := fun v O => Same v (.tup [.isl 1 (zaW q).length (elF zed (zaW q)), ai (zaE q)]) /\ O = []) ?_ fun v O h => ⟨_, h.1, rfl, h.2⟩
 refine zac { glb := axG } true Tryz.func13 (by kernel_rfl) rfl ?_
 repeat' (
   (conv => whnf)
   first
    | exact zad (by kernel_rfl)
    | refine And.intro ?_ ?_
    | refine zaa ?_ ?_
    | (refine ⟨_, zeo q hq hs, ?_⟩; rintro v O' ⟨rfl, rfl⟩)
    | (refine ⟨_, zly q hq, ?_⟩; rintro v O' ⟨rfl, rfl⟩)
    | intro _)
 all_goals first
  | rfl
  | (rename_i hz; exact zpu hz)
  | (rename_i hz; rw [show zaW q = zhh q.p by unfold zaW; rw [hz, zej hz]; rfl, show zaE q = 0 by simpa using hz]; exact .refl _)
theorem zAr {q : QueryM} {s : List Nat} {k : Nat} (h : (zaE q != 0) = false) (hk : k < (zaf q.p).length) (hz : ixB q s k = true) : inU (zhh q.p) s = true := by
 unfold ixB at hz
 rw [Bool.and_eq_true] at hz
 rw [zej h]
 unfold inU
 rw [List.any_eq_true]
 refine ⟨nm ((zaf q.p).getD k default).name, ?_, by rw [zcR]; exact hz.2⟩
 unfold zmI
 rw [List.take_of_length_le (Nat.le_refl _)]
 refine List.mem_map.2 ⟨_, List.mem_filter.2 ⟨zlT hk, ?_⟩, rfl⟩
 rw [zlq hz.2]; exact hz.1
theorem zxc {q : QueryM} {s : List Nat} (h : (zaE q != 0) = false) (hz : inU (zhh q.p) s = true) : isE s = false := by
 rw [zej h] at hz
 unfold inU at hz
 rw [List.any_eq_true] at hz
 obtain ⟨y, hy, hb⟩ := hz
 unfold zmI at hy
 obtain ⟨a, ha, rfl⟩ := List.mem_map.1 hy
 have := (List.mem_filter.1 ha).2
 rw [zlq hb]
 simpa using this
theorem zzu {q : QueryM} {s : List Nat} {x : Int} (h : (zaE q != 0) = false) (hx : decide (x < 0) = !inU (zaW q) s) (hz : decide (x < 0) = true) : zgh q s = (0, 12) := by
 refine zxr (k := (zaf q.p).length) h (Nat.le_refl _) fun j hj => ?_
 rw [Bool.eq_false_iff]
 intro hi
 have := zAr h hj hi
 rw [show zaW q = zhh q.p by unfold zaW; rw [h, zej h]; rfl, hz, this] at hx; cases hx
theorem zyf {q : QueryM} {s : List Nat} {x : Int} (h : (zaE q != 0) = false) (hx : decide (x < 0) = !inU (zaW q) s) (hz : decide (x < 0) = false) : isE s = false := by
 rw [show zaW q = zhh q.p by unfold zaW; rw [h, zej h]; rfl, hz] at hx
 exact zxc h (by simpa using hx.symm)
theorem zqE (q : QueryM) : (zaW q).length ≤ (zaf q.p).length := by
 unfold zaW
 cases zaE q != 0 with
 | true => exact Nat.zero_le _
 | false => exact zkR _ _
set_option maxHeartbeats 8000000 in
theorem zvg (q : QueryM) (hq : QFit q) (hs : q.hv.length + q.em.length ≤ 900000) (s : List Nat) : DSpec Tryz.prog axX axG 18 [.agg (zaj q), .cv (.str s)] [] (fun v O => v = zwq (zgh q s) /\ O = []) := by
 have hal := zi4 hq.toNFit
 have hwl := zqE q
 refine zac { glb := axG, ann := [(8, [10])] } true Tryz.func18 (by kernel_rfl) rfl ?_
 repeat' (
   (conv => whnf)
   first
    | exact zad (by kernel_rfl)
    | refine And.intro ?_ ?_
    | refine zaa ?_ ?_
    | (refine ⟨_, zpn q hq hs, ?_⟩; rintro v O' ⟨rfl, rfl⟩)
    | (refine ⟨_, zvD (zaW q) s (by omega), ?_⟩; rintro v O' ⟨x, rfl, hx, rfl⟩)
    | (refine ⟨_, zhN q.p hq.toNFit, ?_⟩; rintro v O' ⟨rfl, rfl⟩)
    | ((refine ⟨fun vs O _ => ∃ k : Nat, k ≤ (zaf q.p).length /\ (∀ j, j < k -> ixB q s j = false) /\ vs = [ai k] /\ O = [.cells 32 (zaj q)], fun vs O => match vs with | [.cv (.int _ k)] => (zaf q.p).length - k.toNat | _ => 0, ⟨0, Nat.zero_le _, fun j h => absurd h (by omega), rfl, rfl⟩, ?_⟩; rintro vs O _ ⟨k, hk, hj, rfl, rfl⟩))
    | intro _)
 all_goals try have hix : ixB q s k = (!isE s && za1 (nm ((zaf q.p).getD ((k : Int).toNat) default).name) s) := rfl
 all_goals try have hfull := zyf (q := q) (s := s) (by assumption) hx (by assumption)
 all_goals first
  | rfl
  | omega
  | (simp only [zz] at *; omega)
  | (rename_i hz; exact (congrArg zwq (zw0 hz)).symm)
  | (rename_i hz; exact (congrArg zwq (zzu (by assumption) hx hz)).symm)
  | exact (congrArg zwq (zzA (k := k) (by assumption) (by (simp only [zz] at *; omega)) (by rw [hix]; (simp only [*, Bool.true_and, Bool.and_true, Bool.false_and, Bool.and_false, Bool.true_or, Bool.or_true, Bool.false_or, Bool.or_false, Bool.not_true, Bool.not_false, Bool.not_not, cond_true, cond_false]; first | done | rfl)) hj)).symm
  | exact ⟨k + 1, by (simp only [zz] at *; omega), zaO hj (by rw [hix]; (simp only [*, Bool.true_and, Bool.and_true, Bool.false_and, Bool.and_false, Bool.true_or, Bool.or_true, Bool.false_or, Bool.or_false, Bool.not_true, Bool.not_false, Bool.not_not, cond_true, cond_false]; first | done | rfl)), rfl, rfl⟩
  | exact (congrArg zwq (zxr (k := k) (by assumption) (by (simp only [zz] at *; omega)) hj)).symm
theorem zx4 (q : QueryM) (hq : QFit q) (hs : q.hv.length + q.em.length ≤ 900000) : DSpec Tryz.prog axX axG 16 [.agg (zaj q)] [] (fun v O => v = .tup [.isl 1 (zdK q).length (elF zed (zdK q)), ai (zaE q)] /\ O = []) := by
 refine DSpec.same (post := fun v O => Same v (.tup [.isl 1 (zdK q).length (elF zed (zdK q)), ai (zaE q)]) /\ O = []) ?_ fun v O h => ⟨_, h.1, rfl, h.2⟩
 refine zac { glb := axG } true Tryz.func16 (by kernel_rfl) rfl ?_
 repeat' (
   (conv => whnf)
   first
    | exact zad (by kernel_rfl)
    | refine And.intro ?_ ?_
    | refine zaa ?_ ?_
    | (refine ⟨_, zeo q hq hs, ?_⟩; rintro v O' ⟨rfl, rfl⟩)
    | (refine ⟨_, zsv q hq hs, ?_⟩; rintro v O' ⟨rfl, rfl⟩)
    | intro _)
 all_goals first
  | rfl
  | (rename_i hz; exact zr3 hz)
  | (rename_i hz; exact zwK hz)
theorem zxA (q : QueryM) (hq : QFit q) (hs : q.hv.length + q.em.length ≤ 900000) : DSpec Tryz.prog axX axG 20 [.agg (zaj q)] [] (fun v O => v = zqI q /\ O = []) := by
 refine zac { glb := axG } true Tryz.func20 (by kernel_rfl) rfl ?_
 repeat' (
   (conv => whnf)
   first
    | exact zad (by kernel_rfl)
    | refine And.intro ?_ ?_
    | refine zaa ?_ ?_
    | (refine ⟨_, zeo q hq hs, ?_⟩; rintro v O' ⟨rfl, rfl⟩)
    | (refine ⟨_, zhN q.p hq.toNFit, ?_⟩; rintro v O' ⟨rfl, rfl⟩)
    | (refine ⟨_, zql q.p hq.toNFit, ?_⟩; rintro v O' ⟨rfl, rfl⟩)
    | intro _)
 all_goals first
  | rfl
  | (rename_i hz; unfold zqI; rw [hz]; rfl)
end Go.Proofs.YtlfhikphdkpfgaaGreatDoor
