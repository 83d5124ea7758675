import Derived.Test.YtlfhikphdkpfgaaDoorBb
set_option linter.unusedSimpArgs false
set_option linter.unusedVariables false
set_option maxRecDepth 100000
namespace Go.Proofs.YtlfhikphdkpfgaaDoor
open Go Go.Cx
def zjU (h : HaveM) : Bool := decide (((nm h.agg.name).length : Int) > 30)
def zjr (a : AggM) : Bool := decide (((nm a.name).length : Int) > 30)
def zb4 (q : QueryM) : Bool := !decide ((q.hv.length : Int) > 20) && (!decide ((q.em.length : Int) > 20) && (!decide (zgS 210 250 q.p < 0) && (!q.hv.any zjU && !q.em.any zjr)))
theorem zsA {A : Type} {d : A} {l : List A} {p : A -> Bool} {k : Nat} (hk : k < l.length) (h : p (l.getD k d) = true) : l.any p = true := by
 have := zdZ hk h; simpa using this.symm
theorem zrT {A : Type} {d : A} {l : List A} {p : A -> Bool} {k : Nat} (hk : l.length ≤ k) (h : ∀ j, j < k -> p (l.getD j d) = false) : l.any p = false := by
 have := zgh hk h; simpa using this.symm
theorem zyh {q : QueryM} (h : decide ((q.hv.length : Int) > 20) = true) : SV.cv (CV.bool false) = ab (zb4 q) := by unfold zb4; rw [h]; rfl
theorem zyu {q : QueryM} (h : decide ((q.em.length : Int) > 20) = true) : SV.cv (CV.bool false) = ab (zb4 q) := by unfold zb4; rw [h]; cases decide ((q.hv.length : Int) > 20) <;> rfl
theorem zye {q : QueryM} (h : decide (zgS 210 250 q.p < 0) = true) : SV.cv (CV.bool false) = ab (zb4 q) := by unfold zb4; rw [h]; cases decide ((q.hv.length : Int) > 20) <;> cases decide ((q.em.length : Int) > 20) <;> rfl
theorem zyD {q : QueryM} {k : Nat} (hk : k < q.hv.length) (h : zjU (q.hv.getD k default) = true) : SV.cv (CV.bool false) = ab (zb4 q) := by unfold zb4; rw [zsA hk h]; simp
theorem zyg {q : QueryM} {k : Nat} (hk : k < q.em.length) (h : zjr (q.em.getD k default) = true) : SV.cv (CV.bool false) = ab (zb4 q) := by unfold zb4; rw [zsA hk h]; simp
theorem zyq {q : QueryM} {k j : Nat} (h1 : decide ((q.hv.length : Int) > 20) = false) (h2 : decide ((q.em.length : Int) > 20) = false) (h3 : decide (zgS 210 250 q.p < 0) = false) (hk : q.hv.length ≤ k) (hj : ∀ i, i < k -> zjU (q.hv.getD i default) = false) (hk2 : q.em.length ≤ j) (hj2 : ∀ i, i < j -> zjr (q.em.getD i default) = false) : SV.cv (CV.bool true) = ab (zb4 q) := by
 unfold zb4; rw [h1, h2, h3, zrT hk hj, zrT hk2 hj2]; rfl
theorem zlp {n : NodeM} {o : Int} (ho : o ≤ 1000) (h : decide (zgS 210 o n < 0) = false) : NFit n /\ n.dep ≤ 210 /\ ((zaE 1 n).length : Int) ≤ o /\ Few n := by
 obtain ⟨h1, h2, h3, h4⟩ := zu0 210 n o ho (by (simp only [zz] at *; omega))
 have h5 : 0 ≤ zgS 210 o n := by (simp only [zz] at *; omega)
 exact ⟨⟨h4, by omega, by omega⟩, h1, by omega, h3⟩
theorem zvt {q : QueryM} (h : zb4 q = true) : QFit q /\ q.p.dep ≤ 210 /\ (zaE 1 q.p).length ≤ 250 /\ Few q.p /\ q.hv.length ≤ 20 /\ q.em.length ≤ 20 /\ (∀ x ∈ q.hv, x.agg.name.length ≤ 30) /\ (∀ x ∈ q.em, x.name.length ≤ 30) := by
 unfold zb4 at h
 simp only [Bool.and_eq_true, Bool.not_eq_true'] at h
 obtain ⟨h1, h2, h3, h4, h5⟩ := h
 obtain ⟨q1, q2, q3, q4⟩ := zlp (by omega) h3
 refine ⟨⟨q1, by (simp only [zz] at *; omega), by (simp only [zz] at *; omega)⟩, q2, by omega, q4, by (simp only [zz] at *; omega), by (simp only [zz] at *; omega), fun x hx => ?_, fun x hx => ?_⟩
 ·have := List.any_eq_false.1 h4 x hx
  unfold zjU nm at this; simp at this; omega
 ·have := List.any_eq_false.1 h5 x hx
  unfold zjr nm at this; simp at this; omega
set_option maxHeartbeats 4000000 in
theorem zoA (q : QueryM) : DSpec Tryd.prog axX axG 28 [.agg (zcs q)] [] (fun v O => v = ab (zb4 q) /\ O = []) := by
 have hf : DSpec Tryd.prog axX axG 42 [.agg (zaj q.p), ai 250, ai 1] [] (fun v O => v = ai (zgS 210 250 q.p) /\ O = []) := zug 210 (by omega) q.p 250 (by omega) (by omega)
 refine zac { glb := axG, ann := [(4, [3]), (9, [4])] } true Tryd.func28 (by kernel_rfl) rfl ?_
 repeat' (
   (conv => whnf)
   first
    | exact zad (by kernel_rfl)
    | refine And.intro ?_ ?_
    | refine zaa ?_ ?_
    | (refine ⟨_, hf, ?_⟩; rintro v O' ⟨rfl, rfl⟩)
    | ((have := hj1; refine ⟨fun vs O _ => ∃ k : Nat, k ≤ q.em.length /\ (∀ j, j < k -> zjr (q.em.getD j default) = false) /\ vs = [ai k] /\ O = [.cells 46 (zcs q)], fun vs O => match vs with | [.cv (.int _ k)] => q.em.length - k.toNat | _ => 0, ⟨0, Nat.zero_le _, fun j h => absurd h (by omega), rfl, rfl⟩, ?_⟩; rintro vs O _ ⟨k2, hk2, hj2, rfl, rfl⟩))
    | ((refine ⟨fun vs O _ => ∃ k : Nat, k ≤ q.hv.length /\ (∀ j, j < k -> zjU (q.hv.getD j default) = false) /\ vs = [ai k] /\ O = [.cells 46 (zcs q)], fun vs O => match vs with | [.cv (.int _ k)] => q.hv.length - k.toNat | _ => 0, ⟨0, Nat.zero_le _, fun j h => absurd h (by omega), rfl, rfl⟩, ?_⟩; rintro vs O _ ⟨k, hk, hj1, rfl, rfl⟩))
    | intro _)
 all_goals try have hw1 : zjU (q.hv.getD k default) = decide (((nm (q.hv.getD ((k : Int).toNat) default).agg.name).length : Int) > 30) := rfl
 all_goals try have hw2 : zjr (q.em.getD k2 default) = decide (((nm (q.em.getD ((k2 : Int).toNat) default).name).length : Int) > 30) := rfl
 all_goals first
  | rfl
  | omega
  | (simp only [zz] at *; omega)
  | exact zyh (by assumption)
  | exact zyu (by assumption)
  | exact zye (by assumption)
  | exact zyD (k := k) (by (simp only [zz] at *; omega)) (by rw [hw1]; (simp only [*, Bool.true_and, Bool.and_true, Bool.false_and, Bool.and_false, Bool.true_or, Bool.or_true, Bool.false_or, Bool.or_false, Bool.not_true, Bool.not_false, Bool.not_not, cond_true, cond_false]; first | done | rfl))
  | exact zyg (k := k2) (by (simp only [zz] at *; omega)) (by rw [hw2]; (simp only [*, Bool.true_and, Bool.and_true, Bool.false_and, Bool.and_false, Bool.true_or, Bool.or_true, Bool.false_or, Bool.or_false, Bool.not_true, Bool.not_false, Bool.not_not, cond_true, cond_false]; first | done | rfl))
  | exact ⟨k + 1, by (simp only [zz] at *; omega), zdg hj1 (by rw [hw1]; (simp only [*, Bool.true_and, Bool.and_true, Bool.false_and, Bool.and_false, Bool.true_or, Bool.or_true, Bool.false_or, Bool.or_false, Bool.not_true, Bool.not_false, Bool.not_not, cond_true, cond_false]; first | done | rfl)), rfl, rfl⟩
  | exact ⟨k2 + 1, by (simp only [zz] at *; omega), zdg hj2 (by rw [hw2]; (simp only [*, Bool.true_and, Bool.and_true, Bool.false_and, Bool.and_false, Bool.true_or, Bool.or_true, Bool.false_or, Bool.or_false, Bool.not_true, Bool.not_false, Bool.not_not, cond_true, cond_false]; first | done | rfl)), rfl, rfl⟩
  | exact zyq (by assumption) (by assumption) (by assumption) (by (simp only [zz] at *; omega)) hj1 (by (simp only [zz] at *; omega)) hj2
theorem zbY : DSpec Tryd.prog axX axG 29 [] [] (fun v O => v = SV.cv (.bool true) /\ O = []) := zy9 rfl
set_option maxHeartbeats 8000000 in
theorem zsO (a b : QueryM) : DSpec Tryd.prog axX axG 6 [.agg (zcs a), .agg (zcs b)] [] (fun v _ => v = .cv (.bool true)) := by
 have hA := zoA a
 have hB := zoA b
 cases ha : zb4 a with
 | false =>
  rw [ha] at hA
  refine zac { glb := axG } true Tryd.func6 (by kernel_rfl) rfl ?_
  repeat' (
    (conv => whnf)
    first
     | exact zad (by kernel_rfl)
     | refine And.intro ?_ ?_
     | refine zaa ?_ ?_
     | (refine ⟨_, hA, ?_⟩; rintro v O' ⟨rfl, rfl⟩)
     | (refine ⟨_, hB, ?_⟩; rintro v O' ⟨rfl, rfl⟩)
     | (refine ⟨_, zbY, ?_⟩; rintro v O' ⟨rfl, rfl⟩)
     | intro _)
  all_goals first
   | rfl
 | true =>
  rw [ha] at hA
  cases hb : zb4 b with
  | false =>
   rw [hb] at hB
   refine zac { glb := axG } true Tryd.func6 (by kernel_rfl) rfl ?_
   repeat' (
     (conv => whnf)
     first
      | exact zad (by kernel_rfl)
      | refine And.intro ?_ ?_
      | refine zaa ?_ ?_
      | (refine ⟨_, hA, ?_⟩; rintro v O' ⟨rfl, rfl⟩)
      | (refine ⟨_, hB, ?_⟩; rintro v O' ⟨rfl, rfl⟩)
      | (refine ⟨_, zbY, ?_⟩; rintro v O' ⟨rfl, rfl⟩)
      | intro _)
   all_goals first
    | rfl
  | true =>
   rw [hb] at hB
   obtain ⟨fa, da, _⟩ := zvt ha
   obtain ⟨fb, db, _⟩ := zvt hb
   have h1 := zsR 210 a b da fa fb
   have h2 := zvw 210 a b da fa fb
   have h3 := zsR 210 a a da fa fa
   have h4 := zsR 210 b a db fb fa
   rw [zp8 210 a da] at h3
   rw [zqr 210 b a] at h4
   generalize zgs 210 a b = s at h1 h2 h4
   cases s
   all_goals
    refine zac { glb := axG } true Tryd.func6 (by kernel_rfl) rfl ?_
    repeat' (
      (conv => whnf)
      first
       | exact zad (by kernel_rfl)
       | refine And.intro ?_ ?_
       | refine zaa ?_ ?_
       | (refine ⟨_, hA, ?_⟩; rintro v O' ⟨rfl, rfl⟩)
       | (refine ⟨_, hB, ?_⟩; rintro v O' ⟨rfl, rfl⟩)
       | (refine ⟨_, zbY, ?_⟩; rintro v O' ⟨rfl, rfl⟩)
       | (refine ⟨_, h1, ?_⟩; rintro v O' ⟨rfl, rfl⟩)
       | (refine ⟨_, h2, ?_⟩; rintro v O' ⟨rfl, rfl⟩)
       | (refine ⟨_, h3, ?_⟩; rintro v O' ⟨rfl, rfl⟩)
       | (refine ⟨_, h4, ?_⟩; rintro v O' ⟨rfl, rfl⟩)
       | intro _)
    all_goals first
     | rfl
end Go.Proofs.YtlfhikphdkpfgaaDoor
