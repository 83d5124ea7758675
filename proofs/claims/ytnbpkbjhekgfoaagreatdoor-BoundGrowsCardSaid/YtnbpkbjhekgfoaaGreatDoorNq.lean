import Derived.Test.YtnbpkbjhekgfoaaGreatDoorNo
import Derived.Test.YtnbpkbjhekgfoaaGreatDoorNi
set_option linter.unusedSimpArgs false
set_option linter.unusedVariables false
namespace Go.Proofs.YtnbpkbjhekgfoaaGreatDoor
open Go Go.Cx
def setT (c : ConfM) (u : Nat) (x : TenM) : ConfM := match u with
 | 0 => { c with t0 := x }
 | 1 => { c with t1 := x }
 | 2 => { c with t2 := x }
 | 3 => { c with t3 := x }
 | 4 => { c with t4 := x }
 | _ => { c with t5 := x }
theorem ten_setT {c : ConfM} {u i : Nat} {x : TenM} (hu : u < 6) (hi : i < 6) : (setT c u x).ten i = if i = u then x else c.ten i := by
 obtain rfl | rfl | rfl | rfl | rfl | rfl : u = 0 ∨ u = 1 ∨ u = 2 ∨ u = 3 ∨ u = 4 ∨ u = 5 := by omega
 all_goals
  obtain rfl | rfl | rfl | rfl | rfl | rfl : i = 0 ∨ i = 1 ∨ i = 2 ∨ i = 3 ∨ i = 4 ∨ i = 5 := by omega
  all_goals rfl
theorem setT_rest (c : ConfM) (u : Nat) (x : TenM) : (setT c u x).cl = c.cl ∧ (setT c u x).rl = c.rl ∧ (setT c u x).hz = c.hz := by
 unfold setT; split <;> exact ⟨rfl, rfl, rfl⟩
theorem chk_mk {c : ConfM} (l1 : c.cl.length ≤ 8) (l2 : c.rl.length ≤ 8) (h1 : ∀ i, i < c.cl.length → errC c.cl i = 0) (h2 : ∀ i, i < 6 → okT (c.ten i) = true) (h3 : ∀ i, i < c.rl.length → errR (c.rl.getD i default) = 0) (h4 : inB c.hz 1 10000 = true) : chk c = (0, 0) := by
 rw [chk_end (by simp; omega) (by simp; omega) h1 (fun i hi => by unfold errT; rw [if_pos (h2 i hi)]) h3]
 exact if_pos h4
theorem chk_setT {c : ConfM} {u : Nat} {x : TenM} (h : (chk c).1 = 0) (hu : u < 6) (hx : okT x = true) : chk (setT c u x) = (0, 0) := by
 have hc := chk_all h
 obtain ⟨e1, e2, e3⟩ := setT_rest c u x
 refine chk_mk (by rw [e1]; exact hc.cl) (by rw [e2]; exact hc.rl) (by rw [e1]; exact hc.ec) (fun i hi => ?_) (by rw [e2]; exact hc.er) (by rw [e3]; exact hc.hz)
 rw [ten_setT hu hi]
 split
 ·exact hx
 ·exact hc.ot i hi
theorem chk_hz {c : ConfM} {z : Int} (h : (chk c).1 = 0) (hz : inB z 1 10000 = true) : chk { c with hz := z } = (0, 0) := by
 have hc := chk_all h
 refine chk_mk hc.cl hc.rl hc.ec (fun i hi => ?_) hc.er hz
 have : ConfM.ten { c with hz := z } i = c.ten i := by unfold ConfM.ten; split <;> rfl
 rw [this]; exact hc.ot i hi
theorem ten_hz (c : ConfM) (z : Int) (i : Nat) : ConfM.ten { c with hz := z } i = c.ten i := by unfold ConfM.ten; split <;> rfl
theorem pl_same {c c' : ConfM} (h : (chk c).1 = 0) (h' : (chk c').1 = 0) (hq : c'.cl = c.cl) : pl c' = pl c := by rw [pl_sum h, pl_sum h', hq]
def moreC (x : ClsM) : ClsM := ⟨x.lab, min 64 (x.size + 1), x.rate⟩
def wideC (c : ConfM) (j : Nat) : ConfM := { c with cl := c.cl.set j (moreC (c.cl.getD j default)) }
theorem sum_set {y : ClsM} : ∀ {l : List ClsM} {j : Nat}, (j < l.length → (l.getD j default).size ≤ y.size) → (l.map ClsM.size).sum ≤ ((l.set j y).map ClsM.size).sum
 | [], _, _ => by simp
 | x :: l, 0, h => by
  have := h (by simp)
  simp at this ⊢
  omega
 | x :: l, j + 1, h => by
  have ih := sum_set (y := y) (l := l) (j := j) fun hj => by simpa using h (by simpa using hj)
  simp only [List.set_cons_succ, List.map_cons, List.sum_cons]
  omega
theorem chk_wide {c : ConfM} {j : Nat} (h : (chk c).1 = 0) (hj : j < c.cl.length) : chk (wideC c j) = (0, 0) := by
 have hc := chk_all h
 have ho : okC (moreC (c.cl.getD j default)) = true := by
  have := hc.oc j hj
  unfold okC moreC at *
  simp only [Bool.and_eq_true] at this ⊢
  refine ⟨?_, this.2⟩
  have h1 := this.1
  unfold inB at h1 ⊢
  simp only [Bool.and_eq_true, decide_eq_true_eq] at h1 ⊢
  omega
 refine chk_mk (by simp [wideC]; exact hc.cl) hc.rl (errC_of (fun x hx => ?_) ?_) (fun i hi => ?_) hc.er hc.hz
 ·rcases List.mem_or_eq_of_mem_set hx with h1 | h1
  ·obtain ⟨i, hi, rfl⟩ := getD_mem h1
   exact hc.oc i hi
  ·rw [h1]; exact ho
 ·have hp := List.pairwise_map.2 (labs_pw hc.ec)
  refine List.pairwise_map.1 ?_
  have : (wideC c j).cl.map ClsM.lab = c.cl.map ClsM.lab := by
   show (c.cl.set j _).map ClsM.lab = _
   rw [List.map_set]
   have : (moreC (c.cl.getD j default)).lab = (c.cl.map ClsM.lab)[j]'(by simpa using hj) := by
    rw [List.getElem_map, List.getD_eq_getElem?_getD, List.getElem?_eq_getElem hj]; rfl
   rw [this, List.set_getElem_self]
  rw [this]; exact hp
 ·have : (wideC c j).ten i = c.ten i := by unfold ConfM.ten wideC; split <;> rfl
  rw [this]; exact hc.ot i hi
theorem pl_wide {c : ConfM} {j : Nat} (h : (chk c).1 = 0) (hj : j < c.cl.length) : pl c ≤ pl (wideC c j) := by
 rw [pl_sum h, pl_sum (by rw [chk_wide h hj])]
 refine sum_set (l := c.cl) fun _ => ?_
 have := (chk_all h).oc j hj
 unfold okC inB at this
 simp only [Bool.and_eq_true, decide_eq_true_eq] at this
 show _ ≤ min 64 _
 omega
theorem up_le {a a' b b' : Int} (h0 : 0 ≤ a) (h : a ≤ a') (h1 : 1 ≤ b') (hb : b' ≤ b) : (a + b - 1).tdiv b ≤ (a' + b' - 1).tdiv b' := by
 obtain ⟨p1, p2, p3, p4⟩ := dv (a := a + b - 1) (b := b) (by omega) (by omega)
 obtain ⟨q1, q2, q3, q4⟩ := dv (a := a' + b' - 1) (b := b') (by omega) h1
 have h2 : (a' + b' - 1).tdiv b' * b' ≤ (a' + b' - 1).tdiv b' * b := Int.mul_le_mul_of_nonneg_left hb q1
 have h3 : (a + b - 1).tdiv b * b < ((a' + b' - 1).tdiv b' + 1) * b := by rw [Int.add_mul]; omega
 have := Int.lt_of_mul_lt_mul_right h3 (by omega)
 omega
theorem pat_le {x y : TenM} {p q : Int} (hx : okT x = true) (hy : okT y = true) (h0 : 0 ≤ p) (h : p ≤ q) (hb : y.bud ≤ x.bud) (hq : x.qs ≤ y.qs) : pat x p ≤ pat y q := by
 have hb2 := okT_bud hy
 have q0 : 0 ≤ x.qs := by unfold okT at hx; (simp only [inB, List.getD_eq_getElem?_getD, Bool.and_eq_true, Bool.or_eq_true, Bool.and_eq_false_iff, Bool.or_eq_false_iff, Bool.not_eq_true', Bool.not_eq_false', decide_eq_true_eq, decide_eq_false_iff_not, beq_iff_eq, bne_iff_ne, bne_eq_false_iff_eq, beq_eq_false_iff_ne, Bool.false_eq_true, Bool.true_eq_false, ne_eq, true_iff, iff_true, false_iff, iff_false, Bool.not_eq_true, Bool.not_eq_false] at *; omega)
 have m0 : 0 ≤ x.qs * (p + 1) := Int.mul_nonneg q0 (by omega)
 have m1 : x.qs * (p + 1) ≤ x.qs * (q + 1) := Int.mul_le_mul_of_nonneg_left (by omega) q0
 have m2 : x.qs * (q + 1) ≤ y.qs * (q + 1) := Int.mul_le_mul_of_nonneg_right hq (by omega)
 have := up_le m0 (show x.qs * (p + 1) ≤ y.qs * (q + 1) by omega) hb2.1 hb
 unfold pat
 omega
theorem pat_one {x : TenM} {p : Int} (hx : okT x = true) (h0 : 0 ≤ p) : 1 ≤ pat x p := by
 have hb := okT_bud hx
 have q0 : 0 ≤ x.qs := by unfold okT at hx; (simp only [inB, List.getD_eq_getElem?_getD, Bool.and_eq_true, Bool.or_eq_true, Bool.and_eq_false_iff, Bool.or_eq_false_iff, Bool.not_eq_true', Bool.not_eq_false', decide_eq_true_eq, decide_eq_false_iff_not, beq_iff_eq, bne_iff_ne, bne_eq_false_iff_eq, beq_eq_false_iff_ne, Bool.false_eq_true, Bool.true_eq_false, ne_eq, true_iff, iff_true, false_iff, iff_false, Bool.not_eq_true, Bool.not_eq_false] at *; omega)
 have m0 : 0 ≤ x.qs * (p + 1) := Int.mul_nonneg q0 (by omega)
 have := (dv (a := x.qs * (p + 1) + x.bud - 1) (b := x.bud) (by omega) hb.1).1
 unfold pat
 omega
theorem maxF_ge {f : Nat → Int} : ∀ {k i : Nat}, i < k → f i ≤ maxF f k
 | 0, _, h => absurd h (Nat.not_lt_zero _)
 | k + 1, i, h => by
  unfold maxF
  rcases Nat.lt_succ_iff_lt_or_eq.1 h with h1 | rfl
  ·have := maxF_ge (f := f) h1; omega
  ·omega
def richT (x : TenM) : TenM := { x with bud := min 64 (x.bud + 1) }
def manyT (x : TenM) : TenM := { x with qs := min 4 (x.qs + 1) }
theorem richT_ok {x : TenM} (h : okT x = true) : okT (richT x) = true := by
 unfold okT richT inB at *
 simp only [Bool.and_eq_true, decide_eq_true_eq] at h ⊢
 omega
theorem manyT_ok {x : TenM} (h : okT x = true) : okT (manyT x) = true := by
 unfold okT manyT inB at *
 simp only [Bool.and_eq_true, decide_eq_true_eq] at h ⊢
 omega
structure Grows (c : ConfM) (u j : Nat) : Prop where
 c1 : chk (setT c u (richT (c.ten u))) = (0, 0)
 c2 : chk (setT c u (manyT (c.ten u))) = (0, 0)
 c3 : chk (wideC c j) = (0, 0)
 p1 : pat (richT (c.ten u)) (pl (setT c u (richT (c.ten u)))) ≤ pat (c.ten u) (pl c)
 p2 : pat (c.ten u) (pl c) ≤ pat (manyT (c.ten u)) (pl (setT c u (manyT (c.ten u))))
 p3 : pat (c.ten u) (pl c) ≤ pat (c.ten u) (pl (wideC c j))
 one : 1 ≤ pat (c.ten u) (pl c)
 le : pat (c.ten u) (pl c) ≤ maxF (fun i => pat (c.ten i) (pl c)) 6
 top : maxF (fun i => pat (c.ten i) (pl c)) 6 ≤ 3000
theorem grows {c : ConfM} {u j : Nat} (h : (chk c).1 = 0) (hu : u < 6) (hj : j < c.cl.length) : Grows c u j := by
 have ho := (chk_ok h).ot u hu
 have hp := pl_bd c
 have hr := richT_ok ho
 have hm := manyT_ok ho
 have c1 := chk_setT h hu hr
 have c2 := chk_setT h hu hm
 have c3 := chk_wide h hj
 have e1 := pl_same h (by rw [c1]) (setT_rest c u (richT (c.ten u))).1
 have e2 := pl_same h (by rw [c2]) (setT_rest c u (manyT (c.ten u))).1
 have hb := okT_bud ho
 have hq : 0 ≤ (c.ten u).qs ∧ (c.ten u).qs ≤ 4 := by
  unfold okT inB at ho
  simp only [Bool.and_eq_true, decide_eq_true_eq] at ho
  omega
 have ht := hor_in (c := c) (by rw [horOf_ok (by simpa using h)]; rfl)
 rw [horOf_ok (by simpa using h)] at ht
 refine ⟨c1, c2, c3, ?_, ?_, pat_le ho ho hp.1 (pl_wide h hj) (Int.le_refl _) (Int.le_refl _), pat_one ho hp.1, maxF_ge hu, ht.2⟩
 ·rw [e1]; exact pat_le hr ho hp.1 (Int.le_refl _) (by show (c.ten u).bud ≤ min 64 ((c.ten u).bud + 1); omega) (Int.le_refl _)
 ·rw [e2]; exact pat_le ho hm hp.1 (Int.le_refl _) (Int.le_refl _) (by show (c.ten u).qs ≤ min 4 ((c.ten u).qs + 1); omega)
theorem hz_all {c : ConfM} {z : Int} (h : (chk c).1 = 0) (hz : inB z 1 10000 = true) : (chk { c with hz := z }).1 = 0 ∧ horOf { c with hz := z } = (maxF (fun i => pat (c.ten i) (pl c)) 6, 0) := by
 have hc := chk_hz h hz
 have h0 : (chk { c with hz := z }).1 = 0 := by rw [hc]
 refine ⟨h0, ?_⟩
 rw [horOf_ok (by simpa using h0), pl_same h h0 rfl]
 simp only [ten_hz]
end Go.Proofs.YtnbpkbjhekgfoaaGreatDoor
