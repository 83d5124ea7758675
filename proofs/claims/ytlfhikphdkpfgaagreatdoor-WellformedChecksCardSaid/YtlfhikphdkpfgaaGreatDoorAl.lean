import Derived.Test.YtlfhikphdkpfgaaGreatDoorAk
set_option linter.unusedSimpArgs false
set_option linter.unusedVariables false
set_option maxRecDepth 100000
namespace Go.Proofs.YtlfhikphdkpfgaaGreatDoor
open Go Go.Cx
theorem zlo (n : NodeM) (hn : Fit n) : DSpec Tryz.prog axX axG 68 [.agg (zah n)] [] (fun v O => v = ai (zaC n) /\ O = []) := by
 have h := zo9 200 (by decide) 1 (by decide) n hn
 refine zac { glb := axG } true Tryz.func68 (by kernel_rfl) rfl ?_
 repeat' (
   (conv => whnf)
   first
    | exact zad (by kernel_rfl)
    | refine And.intro ?_ ?_
    | refine zaa ?_ ?_
    | (refine ⟨_, h, ?_⟩; rintro v O' ⟨rfl, rfl⟩)
    | intro _)
 all_goals first
  | rfl
  | omega
  | (rename_i hz; unfold zaC; rw [Bool.not_eq_true'] at hz; rw [hz]; rfl)
  | (rename_i hz; unfold zaC; rw [Bool.not_eq_false'] at hz; rw [hz]; rfl)
theorem zA3 {q : QueryM} (h : (!zao 200 q.p) = true) : zcn q = 3 := by
 rw [Bool.not_eq_true'] at h
 unfold zcn zaC; rw [h]; rfl
theorem zAv {q : QueryM} (h : zhx q = true) : zcn q = 3 := by
 unfold zcn
 cases hb : zao 200 q.p with
 | true => unfold zaC; rw [hb, h]; rfl
 | false => unfold zaC; rw [hb]; rfl
theorem zBm {q : QueryM} (h0 : (!zao 200 q.p) = false) (h : zhx q = false) : zcn q = 0 := by
 rw [Bool.not_eq_false'] at h0
 unfold zcn zaC; rw [h0, h]; rfl
theorem zBe {q : QueryM} (h : decide (q.within > 99999) = true) : zhx q = true := by unfold zhx; rw [h]; rfl
theorem zBl {q : QueryM} {k : Nat} (hk : k < q.hv.length) (h : zdY (q.hv.getD k default) = true) : zhx q = true := by
 have : q.hv.any zdY = true := (zck (p := zdY) hk h).symm.trans (by simp)
 unfold zhx; rw [this]; simp
theorem zA6 {q : QueryM} {k : Nat} (hk : k < q.em.length) (h : (!zjp (q.em.getD k default)) = true) : zhx q = true := by
 have : (q.em.any fun a => !zjp a) = true := (zck (p := fun a : AggM => !zjp a) hk h).symm.trans (by simp)
 unfold zhx; rw [this]; simp
theorem zBa {q : QueryM} {k u : Nat} (h0 : decide (q.within > 99999) = false) (hk : decide ((k : Int) < q.hv.length) = false) (hj : ∀ j, j < k -> zdY (q.hv.getD j default) = false) (hu : decide ((u : Int) < q.em.length) = false) (hv : ∀ j, j < u -> (!zjp (q.em.getD j default)) = false) : zhx q = false := by
 have a1 : q.hv.any zdY = false := (zcp (p := zdY) (by simp at hk; omega) hj).symm.trans rfl
 have a2 : (q.em.any fun a => !zjp a) = false := (zcp (p := fun a : AggM => !zjp a) (by simp at hu; omega) hv).symm.trans rfl
 unfold zhx; rw [h0, a1, a2]; rfl
set_option maxHeartbeats 4000000 in
theorem zvM (q : QueryM) (hq : QFit q) : DSpec Tryz.prog axX axG 35 [.agg (zaj q)] [] (fun v O => v = ai (zcn q) /\ O = []) := by
 have hh := hq.hv
 have hm := hq.em
 refine zac { glb := axG, ann := [(4, [3]), (9, [4])] } true Tryz.func35 (by kernel_rfl) rfl ?_
 repeat' (
   (conv => whnf)
   first
    | exact zad (by kernel_rfl)
    | refine And.intro ?_ ?_
    | refine zaa ?_ ?_
    | (refine ⟨_, zo9 200 (by decide) 1 (by decide) q.p hq.fit, ?_⟩; rintro v O' ⟨rfl, rfl⟩)
    | (refine ⟨_, zzo _, ?_⟩; rintro v O' ⟨rfl, rfl⟩)
    | (refine ⟨_, ztH _, ?_⟩; rintro v O' ⟨rfl, rfl⟩)
    | ((have := hj; refine ⟨fun vs O _ => ∃ u : Nat, u ≤ q.em.length /\ (∀ j, j < u -> (!zjp (q.em.getD j default)) = false) /\ vs = [ai u] /\ O = [.cells 32 (zaj q)], fun vs O => match vs with | [.cv (.int _ k)] => q.em.length - k.toNat | _ => 0, ⟨0, Nat.zero_le _, fun j h => absurd h (by omega), rfl, rfl⟩, ?_⟩; rintro vs O _ ⟨u, hu, hv, rfl, rfl⟩))
    | ((refine ⟨fun vs O _ => ∃ k : Nat, k ≤ q.hv.length /\ (∀ j, j < k -> zdY (q.hv.getD j default) = false) /\ vs = [ai k] /\ O = [.cells 32 (zaj q)], fun vs O => match vs with | [.cv (.int _ k)] => q.hv.length - k.toNat | _ => 0, ⟨0, Nat.zero_le _, fun j h => absurd h (by omega), rfl, rfl⟩, ?_⟩; rintro vs O _ ⟨k, hk, hj, rfl, rfl⟩))
    | intro _)
 all_goals try have hx : zdY (q.hv.getD ((k : Int).toNat) default) = (!zjp (q.hv.getD ((k : Int).toNat) default).agg || !opB (q.hv.getD ((k : Int).toNat) default).cond.op) := rfl
 all_goals first
  | rfl
  | omega
  | (simp only [zz] at *; omega)
  | (rename_i hz; exact congrArg ai (zA3 hz).symm)
  | (rename_i hz; exact congrArg ai (zAv (zBe hz)).symm)
  | (rename_i hz; exact congrArg ai (zAv (zA6 (k := u) (by (simp only [zz] at *; omega)) hz)).symm)
  | exact congrArg ai (zAv (zBl (k := k) (by (simp only [zz] at *; omega)) (hx.trans (by (simp only [*, Bool.true_and, Bool.and_true, Bool.false_and, Bool.and_false, Bool.true_or, Bool.or_true, Bool.false_or, Bool.or_false, Bool.not_true, Bool.not_false, Bool.not_not, cond_true, cond_false]; first | done | rfl))))).symm
  | exact ⟨k + 1, by (simp only [zz] at *; omega), zaO (p := fun j => zdY (q.hv.getD j default)) hj (hx.trans (by (simp only [*, Bool.true_and, Bool.and_true, Bool.false_and, Bool.and_false, Bool.true_or, Bool.or_true, Bool.false_or, Bool.or_false, Bool.not_true, Bool.not_false, Bool.not_not, cond_true, cond_false]; first | done | rfl))), rfl, rfl⟩
  | (rename_i hz; exact ⟨u + 1, by (simp only [zz] at *; omega), zaO (p := fun j => !zjp (q.em.getD j default)) hv hz, rfl, rfl⟩)
  | (rename_i h0 h1 _ hk2 _ hu2; exact congrArg ai (zBm h0 (zBa h1 hk2 hj hu2 hv)).symm)
def zal (n : NodeM) : List NodeM := (zaL 0 n).map (·.2)
theorem zdz (n : NodeM) : ∀ d, (zaL d n).map (·.2) = zal n := by
 induction n using zbH with | h n ih => ?_
 intro d
 unfold zal
 rw [zbg, zbg 0, List.map_cons, List.map_cons, List.map_flatMap, List.map_flatMap]
 congr 1
 have : ∀ l : List NodeM, (∀ m ∈ l, m ∈ n.kids) -> l.flatMap (fun a => (zaL (d + 1) a).map (·.2)) = l.flatMap (fun a => (zaL (0 + 1) a).map (·.2)) := by
  intro l
  induction l with
  | nil => intro _; rfl
  | cons m r ihl =>
   intro hm
   rw [List.flatMap_cons, List.flatMap_cons, ihl fun x hx => hm x (List.mem_cons_of_mem _ hx), ih m (hm m List.mem_cons_self), ih m (hm m List.mem_cons_self)]
 exact this _ fun m hm => hm
theorem zcf (n : NodeM) : zal n = n :: n.kids.flatMap zal := by
 conv => lhs; unfold zal
 rw [zbg, List.map_cons, List.map_flatMap]
 congr 1
 exact congrArg (fun f => n.kids.flatMap f) (funext fun m => zdz m _)
def zav (n : NodeM) : List NodeM := (zal n).filter zc1
theorem zoU {n : NodeM} (h : zc1 n = false) : zav n = n.kids.flatMap zav := by
 unfold zav
 rw [zcf, List.filter_cons, h, List.filter_flatMap]; rfl
theorem zoZ {n : NodeM} (h : zc1 n = true) (hk : n.kids = []) : zav n = [n] := by
 unfold zav
 rw [zcf, hk, List.filter_cons, h]; rfl
theorem zgA {d : Nat} {n : NodeM} (h : zao d n = true) (hl : zc1 n = true) : n.kids = [] := by
 cases d with
 | zero => simp [zao] at h
 | succ d =>
  unfold zc1 at hl
  rw [zao] at h
  cases h1 : (n.kind == 1) with
  | true =>
   rw [h1] at h
   simp only [cond_true, Bool.and_eq_true] at h
   have := h.2.2.2.2.2
   have : n.kids.length = 0 := by simpa using this
   exact List.eq_nil_of_length_eq_zero this
  | false =>
   cases h2 : (n.kind == 2) with
   | true =>
    rw [h1, h2] at h
    simp only [cond_true, cond_false, Bool.and_eq_true] at h
    have := h.2.2.2
    have : n.kids.length = 0 := by simpa using this
    exact List.eq_nil_of_length_eq_zero this
   | false => rw [h1, h2] at hl; cases hl
theorem zmh {d : Nat} {n m : NodeM} (h : zao d n = true) (hl : zc1 n = false) (hm : m ∈ n.kids) : ∃ d', zao d' m = true := by
 cases d with
 | zero => simp [zao] at h
 | succ d =>
  refine ⟨d, ?_⟩
  unfold zc1 at hl
  rw [Bool.or_eq_false_iff] at hl
  rw [zao, hl.1, hl.2] at h
  simp only [cond_false] at h
  cases h3 : (n.kind == 3 || n.kind == 4) with
  | false => rw [h3] at h; cases h
  | true =>
   rw [h3] at h
   simp only [cond_true, Bool.and_eq_true, Bool.not_eq_true'] at h
   have h5 := h.2.2.2.2
   rw [List.any_eq_false] at h5
   have := h5 m hm
   simpa using this
theorem zsS (n : NodeM) (d e : Int) : (zaL d n).length = (zaL e n).length := by
 have h1 := congrArg List.length (zdz n d)
 have h2 := congrArg List.length (zdz n e)
 rw [List.length_map] at h1 h2
 omega
theorem zdn (n : NodeM) : (zav n).length ≤ (zaL 1 n).length := by
 unfold zav
 refine Nat.le_trans (List.length_filter_le _ _) ?_
 rw [<- zdz n 1, List.length_map]; exact Nat.le_refl _
theorem zi3 {n : NodeM} {k : Nat} (hk : k ≤ n.kids.length) : ((n.kids.take k).flatMap zav).length ≤ (zaL 1 n).length := by
 have h1 : ∀ l : List NodeM, (l.flatMap zav).length ≤ (l.flatMap (zaL (1 + 1))).length := by
  intro l
  induction l with
  | nil => exact Nat.le_refl _
  | cons m r ih =>
   rw [List.flatMap_cons, List.flatMap_cons, List.length_append, List.length_append]
   have := zdn m
   have := zsS m 1 (1 + 1)
   omega
 have h2 := h1 (n.kids.take k)
 have h3 : ((n.kids.take k).flatMap (zaL (1 + 1))).length ≤ (n.kids.flatMap (zaL (1 + 1))).length := by
  conv => rhs; rw [<- List.take_append_drop k n.kids]
  rw [List.flatMap_append, List.length_append]; omega
 rw [zbg, List.length_cons]
 omega
theorem LElA.app {A : Type} [Inhabited A] {g : A -> List SV} {l l2 : List A} {n : Nat} {el : Nat -> List SV} (h : LElA g l n el) : LElA g (l ++ l2) (n + l2.length) (zdG n el (elF g l2)) := by
 obtain ⟨rfl, h⟩ := h
 refine ⟨by simp, fun i hi => ?_⟩
 unfold zdG
 split
 ·rename_i hq
  rw [h i hq, List.getD_eq_getElem?_getD, List.getD_eq_getElem?_getD, List.getElem?_append_left hq]
 ·rename_i hq
  unfold elF
  rw [List.getD_eq_getElem?_getD, List.getD_eq_getElem?_getD, List.getElem?_append_right (by omega)]
theorem ziE {n : NodeM} {k : Nat} (hk : k < n.kids.length) : (n.kids.take (k + 1)).flatMap zav = (n.kids.take k).flatMap zav ++ zav (atN n.kids k) := by
 rw [List.take_add_one, List.getElem?_eq_getElem hk, List.flatMap_append, zhb hk]; simp
theorem zgC {n m : NodeM} (h : (zaL 1 n).length ≤ 100000) (hm : m ∈ n.kids) : (zaL 1 m).length ≤ 100000 := by
 have h2 : (zaL (1 + 1) m).length ≤ (zaL 1 n).length := by
  rw [zbg 1 n, List.length_cons]
  have : ∀ l : List NodeM, m ∈ l -> (zaL (1 + 1) m).length ≤ (l.flatMap (zaL (1 + 1))).length := by
   intro l
   induction l with
   | nil => intro h; cases h
   | cons a r ih =>
    intro h
    rw [List.flatMap_cons, List.length_append]
    rcases List.mem_cons.1 h with rfl | h
    ·omega
    ·have := ih h; omega
  have := this n.kids hm
  omega
 rw [zsS m 1 (1 + 1)]; omega
set_option maxHeartbeats 8000000 in
theorem zpO : ∀ (n : NodeM) (hn : Fit n) (hs : ∃ d, zao d n = true) (hnum : (zaL 1 n).length ≤ 100000), DSpec Tryz.prog axX axG 76 [.agg (zah n)] [] (fun v O => v = .isl 9 (zav n).length (elF zah (zav n)) /\ O = []) := by
 intro n
 induction n using zbH with | h n ih => ?_
 intro hn hs hnum
 have hz := hn.self.1
 refine DSpec.same (post := fun v O => Same v (.isl 9 (zav n).length (elF zah (zav n))) /\ O = []) ?_ fun v O h => ⟨_, h.1, rfl, h.2⟩
 cases hl : zc1 n with
 | true =>
  obtain ⟨d, hd⟩ := hs
  rw [zoZ hl (zgA hd hl)]
  unfold zc1 at hl
  refine zac { glb := axG, ann := [(5, [4, 3])], nils := [(5, [(.slot 3, 28, 9)])] } true Tryz.func76 (by kernel_rfl) rfl ?_
  repeat' (
    (conv => whnf)
    first
     | exact zad (by kernel_rfl)
     | refine And.intro ?_ ?_
     | refine zaa ?_ ?_
     | ((exfalso; simp_all; done))
     | intro _)
  all_goals first
   | rfl
   | exact .isl fun i hi => (by obtain rfl : i = 0 := by simpa using hi
                                rfl)
   | (exfalso; simp_all; done)
 | false =>
  obtain ⟨d, hd⟩ := hs
  rw [zoU hl]
  have hsk := fun m (hm : m ∈ n.kids) => zmh hd hl hm
  unfold zc1 at hl
  rcases zbr n with he | he
  ·skip
   refine zac { glb := axG, ann := [(5, [4, 3])], nils := [(5, [(.slot 3, 28, 9)])] } true Tryz.func76 (by kernel_rfl) rfl ?_
   repeat' (
     (conv => whnf)
     first
      | exact zad (by kernel_rfl)
      | refine And.intro ?_ ?_
      | refine zaa ?_ ?_
      | ((refine ⟨fun vs O _ => ∃ (k m : Nat) (el : Nat -> List SV), k ≤ n.kids.length /\ LElA zah ((n.kids.take k).flatMap zav) m el /\ vs = [ai k, .lst 1] /\ O = [.cells 28 (zcg n (zbY n.kids)), .list 28 9 m el], fun vs O => match vs with | [.cv (.int _ k), _] => n.kids.length - k.toNat | _ => 0, ⟨0, 0, _, Nat.zero_le _, ⟨rfl, fun i h => absurd h (by omega)⟩, rfl, rfl⟩, ?_⟩; rintro vs O _ ⟨k, m, el, hk, hle, rfl, rfl⟩))
      | (refine ⟨_, ih (atN n.kids k) (zaY (by (simp only [zz] at *; omega))) (hn.kid (zaY (by (simp only [zz] at *; omega)))) (hsk _ (zaY (by (simp only [zz] at *; omega)))) (zgC hnum (zaY (by (simp only [zz] at *; omega)))), ?_⟩; rintro v O' ⟨rfl, rfl⟩)
      | intro _)
   all_goals try have htk := zi3 hk
   all_goals first
    | rfl
    | omega
    | (simp only [zz] at *; omega)
    | (exfalso; (simp only [zz] at *; omega))
    | (exfalso; simp_all; done)
    | (have h1 := hle.1; have h2 := zdn (atN n.kids k); have h3 := zgC hnum (zaY (l := n.kids) (k := k) (by (simp only [zz] at *; omega))); omega)
    | exact ⟨k + 1, _, _, by (simp only [zz] at *; omega), by rw [ziE (by (simp only [zz] at *; omega))]; exact hle.app, rfl, rfl⟩
    | (have hkk : k = n.kids.length := by (simp only [zz] at *; omega)
       subst hkk
       rw [List.take_of_length_le (Nat.le_refl _)] at hle
       obtain ⟨rfl, h2⟩ := hle
       exact .isl h2)
    | skip
  ·rw [he]
   refine zac { glb := axG, ann := [(5, [4, 3])], nils := [(5, [(.slot 3, 28, 9)])] } true Tryz.func76 (by kernel_rfl) rfl ?_
   repeat' (
     (conv => whnf)
     first
      | exact zad (by kernel_rfl)
      | refine And.intro ?_ ?_
      | refine zaa ?_ ?_
      | ((refine ⟨fun vs O _ => ∃ (k m : Nat) (el : Nat -> List SV), k ≤ n.kids.length /\ LElA zah ((n.kids.take k).flatMap zav) m el /\ vs = [ai k, .lst 1] /\ O = [.cells 28 (zcg n (fun i => zah (atN n.kids i))), .list 28 9 m el], fun vs O => match vs with | [.cv (.int _ k), _] => n.kids.length - k.toNat | _ => 0, ⟨0, 0, _, Nat.zero_le _, ⟨rfl, fun i h => absurd h (by omega)⟩, rfl, rfl⟩, ?_⟩; rintro vs O _ ⟨k, m, el, hk, hle, rfl, rfl⟩))
      | (refine ⟨_, ih (atN n.kids k) (zaY (by (simp only [zz] at *; omega))) (hn.kid (zaY (by (simp only [zz] at *; omega)))) (hsk _ (zaY (by (simp only [zz] at *; omega)))) (zgC hnum (zaY (by (simp only [zz] at *; omega)))), ?_⟩; rintro v O' ⟨rfl, rfl⟩)
      | intro _)
   all_goals try have htk := zi3 hk
   all_goals first
    | rfl
    | omega
    | (simp only [zz] at *; omega)
    | (exfalso; (simp only [zz] at *; omega))
    | (exfalso; simp_all; done)
    | (have h1 := hle.1; have h2 := zdn (atN n.kids k); have h3 := zgC hnum (zaY (l := n.kids) (k := k) (by (simp only [zz] at *; omega))); omega)
    | exact ⟨k + 1, _, _, by (simp only [zz] at *; omega), by rw [ziE (by (simp only [zz] at *; omega))]; exact hle.app, rfl, rfl⟩
    | (have hkk : k = n.kids.length := by (simp only [zz] at *; omega)
       subst hkk
       rw [List.take_of_length_le (Nat.le_refl _)] at hle
       obtain ⟨rfl, h2⟩ := hle
       exact .isl h2)
end Go.Proofs.YtlfhikphdkpfgaaGreatDoor
