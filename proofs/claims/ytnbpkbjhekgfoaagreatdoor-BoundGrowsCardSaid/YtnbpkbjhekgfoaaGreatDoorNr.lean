import Derived.Test.YtnbpkbjhekgfoaaGreatDoorNq
import Derived.Test.YtnbpkbjhekgfoaaGreatDoorNi
set_option linter.unusedSimpArgs false
set_option linter.unusedVariables false
namespace Go.Proofs.YtnbpkbjhekgfoaaGreatDoor
open Go Go.Cx
theorem lim_of' {c : ConfM} (h : (chk c).1 = 0) : Lim c := ⟨by have := (chk_ok h).cl; omega, by have := (chk_ok h).rl; omega⟩
theorem pat_is {c : ConfM} {u : Nat} (h : (chk c).1 = 0) (hu : u < 6) : DSpec Tryz.prog noX [] 7 [.agg (confS c), ci (1 + (u : Int))] [] (fun v O => v = .tup [ci (pat (c.ten u) (pl c)), ci 0] ∧ O = []) :=
 (Patience_d c (lim_of' h) (1 + (u : Int))).mono fun v O hv => ⟨hv.1.trans (by rw [Int.add_comm, pat_at h u hu]; rfl), hv.2⟩
theorem all_is {c : ConfM} {z : Int} (h : (chk c).1 = 0) (hz : inB z 1 10000 = true) : DSpec Tryz.prog noX [] 10 [.agg (confS { c with hz := z })] [] (fun v O => v = .tup [cb (decide (z ≥ maxF (fun i => pat (c.ten i) (pl c)) 6)), ci 0] ∧ O = []) := by
 obtain ⟨h1, h2⟩ := hz_all h hz
 exact (All_d { c with hz := z } (lim_of' h1)).mono fun v O hv => ⟨hv.1.trans (by unfold allR; rw [h2]; rfl), hv.2⟩
theorem own_same {cr : ConfM} {t : SV} {n1 n3 : Nat} {e1 e3 : Nat → List SV} (h1 : n1 = cr.cl.length) (g1 : ∀ i, i < n1 → e1 i = clsEl cr.cl i) (h3 : n3 = cr.rl.length) (g3 : ∀ i, i < n3 → e3 i = rulesEl cr.rl i) : SameL [.agg (confW cr (.isl 3 n1 e1) (.isl 7 n3 e3)), t] [.agg (confS cr), t] := by
 subst h1 h3
 refine .cons (.agg (.cons (.isl g1) ?_)) (.cons (.refl _) .nil)
 repeat (first | exact SameL.cons (.isl g3) SameL.all | refine SameL.cons (.refl _) ?_)
theorem cat_zero {e x : Nat → List SV} (i : Nat) : catEl 0 e x i = x i := by
 unfold catEl; rw [if_neg (Nat.not_lt_zero i)]; rfl
theorem set_getD {l : List ClsM} {i j : Nat} {x : ClsM} (hj : j < l.length) : (l.set j x).getD i default = if i = j then x else l.getD i default := by
 by_cases hq : i = j
 ·subst hq
  rw [if_pos rfl, List.getD_eq_getElem?_getD, List.getElem?_set_self hj]; rfl
 ·rw [if_neg hq, List.getD_eq_getElem?_getD, List.getD_eq_getElem?_getD, List.getElem?_set_ne (fun h => hq h.symm)]
theorem wide_el {c : ConfM} {j : Nat} {e : Nat → List SV} (hj : j < c.cl.length) (i : Nat) : updEl j (clsS (moreC (c.cl.getD j default))) (catEl 0 e (clsEl c.cl)) i = clsEl (wideC c j).cl i := by
 show (if i = j then _ else _) = clsS ((c.cl.set j (moreC (c.cl.getD j default))).getD i default)
 rw [set_getD hj]
 by_cases hq : i = j
 ·rw [if_pos hq, if_pos hq]
 ·rw [if_neg hq, if_neg hq, cat_zero]; rfl
theorem all_less (z : Int) : SV.cv (CV.bool (!decide (z - 1 ≥ z))) = cb true := by rw [decide_eq_false (by omega)]; rfl
set_option maxRecDepth 100000 in
set_option maxHeartbeats 8000000 in
theorem BoundGrows_d (hbk : DSpec Tryz.prog noX [] 4 [] [] (fun v O => v = cb true ∧ O = [])) (n t cls : Int) : DSpec Tryz.prog noX [] 3 [ci n, ci t, ci cls] [] (fun v O => v = cb true) := by
 have hK := (modI_in (n := n) (m := 1099511627776) (by decide)).1
 have hcfg := Config_d n
 have hchk := cfg_chk hK
 have hlen := cfg_len hK
 generalize cfgOf (modI n 1099511627776) = c at hcfg hchk hlen
 have hmod := Mod_d t 6 (by decide) (by decide)
 have hm := modI_in (n := t) (m := 6) (by decide)
 generalize modI t 6 = u at hmod hm
 have hmod2 := Mod_d cls ((0 + c.cl.length : Nat) : Int) (by omega) (by omega)
 have hm2 := modI_in (n := cls) (m := ((0 + c.cl.length : Nat) : Int)) (by omega)
 generalize modI cls ((0 + c.cl.length : Nat) : Int) = j0 at hmod2 hm2
 obtain ⟨j, rfl⟩ : ∃ j : Nat, j0 = (j : Int) := ⟨j0.toNat, by omega⟩
 have hc0 : (chk c).1 = 0 := by rw [hchk]
 have hsz : 1 ≤ (c.cl.getD j default).size ∧ (c.cl.getD j default).size ≤ 64 := by
  have := (chk_ok hc0).oc j (by omega)
  unfold okC inB at this
  simp only [Bool.and_eq_true, decide_eq_true_eq] at this
  omega
 have htn : ∀ i, i < 6 → (1 ≤ (c.ten i).bud ∧ (c.ten i).bud ≤ 64) ∧ 0 ≤ (c.ten i).qs ∧ (c.ten i).qs ≤ 4 := fun i hi => by
  have := (chk_ok hc0).ot i hi
  unfold okT inB at this
  simp only [Bool.and_eq_true, decide_eq_true_eq] at this
  omega
 have hsz2 : 1 ≤ (c.cl.getD ((j : Int).toNat - 0) default).size ∧ (c.cl.getD ((j : Int).toNat - 0) default).size ≤ 64 := hsz
 have hhor : DSpec Tryz.prog noX [] 9 [.agg (confS c)] [] (fun v O => v = .tup [ci (maxF (fun i => pat (c.ten i) (pl c)) 6), ci 0] ∧ O = []) := (Horizon_d c (lim_of' hc0)).mono fun v O hv => ⟨hv.1.trans (by rw [horOf_ok (by simpa using hc0)]; rfl), hv.2⟩
 have hg0 := grows (c := c) (u := 0) (j := j) hc0 (by decide) (by omega)
 have hin : inB (maxF (fun i => pat (c.ten i) (pl c)) 6) 1 10000 = true := by
  have h1 := hg0.one; have h2 := hg0.le; have h3 := hg0.top
  unfold inB; simp only [Bool.and_eq_true, decide_eq_true_eq]; omega
 have hall := all_is (z := maxF (fun i => pat (c.ten i) (pl c)) 6) hc0 hin
 have hown := OwnConfig_d c (by omega) (by omega)
 obtain rfl | rfl | rfl | rfl | rfl | rfl : u = ((0 : Nat) : Int) ∨ u = ((1 : Nat) : Int) ∨ u = ((2 : Nat) : Int) ∨ u = ((3 : Nat) : Int) ∨ u = ((4 : Nat) : Int) ∨ u = ((5 : Nat) : Int) := by omega
 ·have hg := grows (c := c) (u := 0) (j := j) hc0 (by decide) (by omega)
  have ht : (1 ≤ c.t0.bud ∧ c.t0.bud ≤ 64) ∧ 0 ≤ c.t0.qs ∧ c.t0.qs ≤ 4 := htn 0 (by decide)
  have d0 := pat_is (u := 0) hc0 (by decide)
  have d1 := (pat_is (c := setT c 0 (richT (c.ten 0))) (u := 0) (by rw [hg.c1]) (by decide)).arg (own_same (n1 := 0 + c.cl.length) (n3 := 0 + c.rl.length) (e1 := catEl 0 (cutEl 3 []) (clsEl c.cl)) (e3 := catEl 0 (cutEl 7 []) (rulesEl c.rl)) (Nat.zero_add _) (fun i _ => cat_zero i) (Nat.zero_add _) (fun i _ => cat_zero i))
  have d2 := (pat_is (c := setT c 0 (manyT (c.ten 0))) (u := 0) (by rw [hg.c2]) (by decide)).arg (own_same (n1 := 0 + c.cl.length) (n3 := 0 + c.rl.length) (e1 := catEl 0 (cutEl 3 []) (clsEl c.cl)) (e3 := catEl 0 (cutEl 7 []) (rulesEl c.rl)) (Nat.zero_add _) (fun i _ => cat_zero i) (Nat.zero_add _) (fun i _ => cat_zero i))
  have d3 := (pat_is (c := wideC c j) (u := 0) (by rw [hg.c3]) (by decide)).arg (own_same (n1 := 0 + c.cl.length) (n3 := 0 + c.rl.length) (e1 := updEl j (clsS (moreC (c.cl.getD j default))) (catEl 0 (cutEl 3 []) (clsEl c.cl))) (e3 := catEl 0 (cutEl 7 []) (rulesEl c.rl)) (by simp [wideC]) (fun i _ => wide_el (by omega) i) (Nat.zero_add _) (fun i _ => cat_zero i))
  have hp1 : pat ((setT c 0 (richT (c.ten 0))).ten 0) (pl (setT c 0 (richT (c.ten 0)))) ≤ pat (c.ten 0) (pl c) := hg.p1
  have hp2 : pat (c.ten 0) (pl c) ≤ pat ((setT c 0 (manyT (c.ten 0))).ten 0) (pl (setT c 0 (manyT (c.ten 0)))) := hg.p2
  have hp3 : pat (c.ten 0) (pl c) ≤ pat ((wideC c j).ten 0) (pl (wideC c j)) := hg.p3
  have hone := hg.one
  have hle := hg.le
  have htop := hg.top
  refine dspec_of {} true Tryz.func3 (by kernel_rfl) rfl ?_
  repeat' (
    (conv => whnf)
    first
     | exact closedB (by kernel_rfl)
     | refine And.intro ?_ ?_
     | refine splitB_intro ?_ ?_
     | (refine ⟨_, hbk, ?_⟩; rintro v O' ⟨rfl, rfl⟩)
     | (refine ⟨_, hcfg, ?_⟩; rintro v O' ⟨rfl, rfl⟩)
     | (refine ⟨_, hmod, ?_⟩; rintro v O' ⟨rfl, rfl⟩)
     | (refine ⟨_, hmod2, ?_⟩; rintro v O' ⟨rfl, rfl⟩)
     | (refine ⟨_, hown, ?_⟩; rintro v O' ⟨rfl, rfl⟩)
     | (refine ⟨_, d0, ?_⟩; rintro v O' ⟨rfl, rfl⟩)
     | (refine ⟨_, d1, ?_⟩; rintro v O' ⟨rfl, rfl⟩)
     | (refine ⟨_, d2, ?_⟩; rintro v O' ⟨rfl, rfl⟩)
     | (refine ⟨_, d3, ?_⟩; rintro v O' ⟨rfl, rfl⟩)
     | (refine ⟨_, hhor, ?_⟩; rintro v O' ⟨rfl, rfl⟩)
     | (refine ⟨_, hall, ?_⟩; rintro v O' ⟨rfl, rfl⟩)
     | (refine ⟨_, all_is (z := maxF (fun i => pat (c.ten i) (pl c)) 6 - 1) hc0 (by have h := hin; (simp only [inB, List.getD_eq_getElem?_getD, Bool.and_eq_true, Bool.or_eq_true, Bool.and_eq_false_iff, Bool.or_eq_false_iff, Bool.not_eq_true', Bool.not_eq_false', decide_eq_true_eq, decide_eq_false_iff_not, beq_iff_eq, bne_iff_ne, bne_eq_false_iff_eq, beq_eq_false_iff_ne, Bool.false_eq_true, Bool.true_eq_false, ne_eq, true_iff, iff_true, false_iff, iff_false, Bool.not_eq_true, Bool.not_eq_false] at *; omega)), ?_⟩; rintro v O' ⟨rfl, rfl⟩)
     | intro _)
  all_goals first
   | rfl
   | omega
   | (simp only [inB, List.getD_eq_getElem?_getD, Bool.and_eq_true, Bool.or_eq_true, Bool.and_eq_false_iff, Bool.or_eq_false_iff, Bool.not_eq_true', Bool.not_eq_false', decide_eq_true_eq, decide_eq_false_iff_not, beq_iff_eq, bne_iff_ne, bne_eq_false_iff_eq, beq_eq_false_iff_ne, Bool.false_eq_true, Bool.true_eq_false, ne_eq, true_iff, iff_true, false_iff, iff_false, Bool.not_eq_true, Bool.not_eq_false] at *; omega)
   | (exfalso; (simp only [inB, List.getD_eq_getElem?_getD, Bool.and_eq_true, Bool.or_eq_true, Bool.and_eq_false_iff, Bool.or_eq_false_iff, Bool.not_eq_true', Bool.not_eq_false', decide_eq_true_eq, decide_eq_false_iff_not, beq_iff_eq, bne_iff_ne, bne_eq_false_iff_eq, beq_eq_false_iff_ne, Bool.false_eq_true, Bool.true_eq_false, ne_eq, true_iff, iff_true, false_iff, iff_false, Bool.not_eq_true, Bool.not_eq_false] at *; omega))
   | exact Nat.le_of_ble_eq_true rfl
   | exact all_less _
   | (rename_i hz; cases hz; done)
 ·have hg := grows (c := c) (u := 1) (j := j) hc0 (by decide) (by omega)
  have ht : (1 ≤ c.t1.bud ∧ c.t1.bud ≤ 64) ∧ 0 ≤ c.t1.qs ∧ c.t1.qs ≤ 4 := htn 1 (by decide)
  have d0 := pat_is (u := 1) hc0 (by decide)
  have d1 := (pat_is (c := setT c 1 (richT (c.ten 1))) (u := 1) (by rw [hg.c1]) (by decide)).arg (own_same (n1 := 0 + c.cl.length) (n3 := 0 + c.rl.length) (e1 := catEl 0 (cutEl 3 []) (clsEl c.cl)) (e3 := catEl 0 (cutEl 7 []) (rulesEl c.rl)) (Nat.zero_add _) (fun i _ => cat_zero i) (Nat.zero_add _) (fun i _ => cat_zero i))
  have d2 := (pat_is (c := setT c 1 (manyT (c.ten 1))) (u := 1) (by rw [hg.c2]) (by decide)).arg (own_same (n1 := 0 + c.cl.length) (n3 := 0 + c.rl.length) (e1 := catEl 0 (cutEl 3 []) (clsEl c.cl)) (e3 := catEl 0 (cutEl 7 []) (rulesEl c.rl)) (Nat.zero_add _) (fun i _ => cat_zero i) (Nat.zero_add _) (fun i _ => cat_zero i))
  have d3 := (pat_is (c := wideC c j) (u := 1) (by rw [hg.c3]) (by decide)).arg (own_same (n1 := 0 + c.cl.length) (n3 := 0 + c.rl.length) (e1 := updEl j (clsS (moreC (c.cl.getD j default))) (catEl 0 (cutEl 3 []) (clsEl c.cl))) (e3 := catEl 0 (cutEl 7 []) (rulesEl c.rl)) (by simp [wideC]) (fun i _ => wide_el (by omega) i) (Nat.zero_add _) (fun i _ => cat_zero i))
  have hp1 : pat ((setT c 1 (richT (c.ten 1))).ten 1) (pl (setT c 1 (richT (c.ten 1)))) ≤ pat (c.ten 1) (pl c) := hg.p1
  have hp2 : pat (c.ten 1) (pl c) ≤ pat ((setT c 1 (manyT (c.ten 1))).ten 1) (pl (setT c 1 (manyT (c.ten 1)))) := hg.p2
  have hp3 : pat (c.ten 1) (pl c) ≤ pat ((wideC c j).ten 1) (pl (wideC c j)) := hg.p3
  have hone := hg.one
  have hle := hg.le
  have htop := hg.top
  refine dspec_of {} true Tryz.func3 (by kernel_rfl) rfl ?_
  repeat' (
    (conv => whnf)
    first
     | exact closedB (by kernel_rfl)
     | refine And.intro ?_ ?_
     | refine splitB_intro ?_ ?_
     | (refine ⟨_, hbk, ?_⟩; rintro v O' ⟨rfl, rfl⟩)
     | (refine ⟨_, hcfg, ?_⟩; rintro v O' ⟨rfl, rfl⟩)
     | (refine ⟨_, hmod, ?_⟩; rintro v O' ⟨rfl, rfl⟩)
     | (refine ⟨_, hmod2, ?_⟩; rintro v O' ⟨rfl, rfl⟩)
     | (refine ⟨_, hown, ?_⟩; rintro v O' ⟨rfl, rfl⟩)
     | (refine ⟨_, d0, ?_⟩; rintro v O' ⟨rfl, rfl⟩)
     | (refine ⟨_, d1, ?_⟩; rintro v O' ⟨rfl, rfl⟩)
     | (refine ⟨_, d2, ?_⟩; rintro v O' ⟨rfl, rfl⟩)
     | (refine ⟨_, d3, ?_⟩; rintro v O' ⟨rfl, rfl⟩)
     | (refine ⟨_, hhor, ?_⟩; rintro v O' ⟨rfl, rfl⟩)
     | (refine ⟨_, hall, ?_⟩; rintro v O' ⟨rfl, rfl⟩)
     | (refine ⟨_, all_is (z := maxF (fun i => pat (c.ten i) (pl c)) 6 - 1) hc0 (by have h := hin; (simp only [inB, List.getD_eq_getElem?_getD, Bool.and_eq_true, Bool.or_eq_true, Bool.and_eq_false_iff, Bool.or_eq_false_iff, Bool.not_eq_true', Bool.not_eq_false', decide_eq_true_eq, decide_eq_false_iff_not, beq_iff_eq, bne_iff_ne, bne_eq_false_iff_eq, beq_eq_false_iff_ne, Bool.false_eq_true, Bool.true_eq_false, ne_eq, true_iff, iff_true, false_iff, iff_false, Bool.not_eq_true, Bool.not_eq_false] at *; omega)), ?_⟩; rintro v O' ⟨rfl, rfl⟩)
     | intro _)
  all_goals first
   | rfl
   | omega
   | (simp only [inB, List.getD_eq_getElem?_getD, Bool.and_eq_true, Bool.or_eq_true, Bool.and_eq_false_iff, Bool.or_eq_false_iff, Bool.not_eq_true', Bool.not_eq_false', decide_eq_true_eq, decide_eq_false_iff_not, beq_iff_eq, bne_iff_ne, bne_eq_false_iff_eq, beq_eq_false_iff_ne, Bool.false_eq_true, Bool.true_eq_false, ne_eq, true_iff, iff_true, false_iff, iff_false, Bool.not_eq_true, Bool.not_eq_false] at *; omega)
   | (exfalso; (simp only [inB, List.getD_eq_getElem?_getD, Bool.and_eq_true, Bool.or_eq_true, Bool.and_eq_false_iff, Bool.or_eq_false_iff, Bool.not_eq_true', Bool.not_eq_false', decide_eq_true_eq, decide_eq_false_iff_not, beq_iff_eq, bne_iff_ne, bne_eq_false_iff_eq, beq_eq_false_iff_ne, Bool.false_eq_true, Bool.true_eq_false, ne_eq, true_iff, iff_true, false_iff, iff_false, Bool.not_eq_true, Bool.not_eq_false] at *; omega))
   | exact Nat.le_of_ble_eq_true rfl
   | exact all_less _
   | (rename_i hz; cases hz; done)
 ·have hg := grows (c := c) (u := 2) (j := j) hc0 (by decide) (by omega)
  have ht : (1 ≤ c.t2.bud ∧ c.t2.bud ≤ 64) ∧ 0 ≤ c.t2.qs ∧ c.t2.qs ≤ 4 := htn 2 (by decide)
  have d0 := pat_is (u := 2) hc0 (by decide)
  have d1 := (pat_is (c := setT c 2 (richT (c.ten 2))) (u := 2) (by rw [hg.c1]) (by decide)).arg (own_same (n1 := 0 + c.cl.length) (n3 := 0 + c.rl.length) (e1 := catEl 0 (cutEl 3 []) (clsEl c.cl)) (e3 := catEl 0 (cutEl 7 []) (rulesEl c.rl)) (Nat.zero_add _) (fun i _ => cat_zero i) (Nat.zero_add _) (fun i _ => cat_zero i))
  have d2 := (pat_is (c := setT c 2 (manyT (c.ten 2))) (u := 2) (by rw [hg.c2]) (by decide)).arg (own_same (n1 := 0 + c.cl.length) (n3 := 0 + c.rl.length) (e1 := catEl 0 (cutEl 3 []) (clsEl c.cl)) (e3 := catEl 0 (cutEl 7 []) (rulesEl c.rl)) (Nat.zero_add _) (fun i _ => cat_zero i) (Nat.zero_add _) (fun i _ => cat_zero i))
  have d3 := (pat_is (c := wideC c j) (u := 2) (by rw [hg.c3]) (by decide)).arg (own_same (n1 := 0 + c.cl.length) (n3 := 0 + c.rl.length) (e1 := updEl j (clsS (moreC (c.cl.getD j default))) (catEl 0 (cutEl 3 []) (clsEl c.cl))) (e3 := catEl 0 (cutEl 7 []) (rulesEl c.rl)) (by simp [wideC]) (fun i _ => wide_el (by omega) i) (Nat.zero_add _) (fun i _ => cat_zero i))
  have hp1 : pat ((setT c 2 (richT (c.ten 2))).ten 2) (pl (setT c 2 (richT (c.ten 2)))) ≤ pat (c.ten 2) (pl c) := hg.p1
  have hp2 : pat (c.ten 2) (pl c) ≤ pat ((setT c 2 (manyT (c.ten 2))).ten 2) (pl (setT c 2 (manyT (c.ten 2)))) := hg.p2
  have hp3 : pat (c.ten 2) (pl c) ≤ pat ((wideC c j).ten 2) (pl (wideC c j)) := hg.p3
  have hone := hg.one
  have hle := hg.le
  have htop := hg.top
  refine dspec_of {} true Tryz.func3 (by kernel_rfl) rfl ?_
  repeat' (
    (conv => whnf)
    first
     | exact closedB (by kernel_rfl)
     | refine And.intro ?_ ?_
     | refine splitB_intro ?_ ?_
     | (refine ⟨_, hbk, ?_⟩; rintro v O' ⟨rfl, rfl⟩)
     | (refine ⟨_, hcfg, ?_⟩; rintro v O' ⟨rfl, rfl⟩)
     | (refine ⟨_, hmod, ?_⟩; rintro v O' ⟨rfl, rfl⟩)
     | (refine ⟨_, hmod2, ?_⟩; rintro v O' ⟨rfl, rfl⟩)
     | (refine ⟨_, hown, ?_⟩; rintro v O' ⟨rfl, rfl⟩)
     | (refine ⟨_, d0, ?_⟩; rintro v O' ⟨rfl, rfl⟩)
     | (refine ⟨_, d1, ?_⟩; rintro v O' ⟨rfl, rfl⟩)
     | (refine ⟨_, d2, ?_⟩; rintro v O' ⟨rfl, rfl⟩)
     | (refine ⟨_, d3, ?_⟩; rintro v O' ⟨rfl, rfl⟩)
     | (refine ⟨_, hhor, ?_⟩; rintro v O' ⟨rfl, rfl⟩)
     | (refine ⟨_, hall, ?_⟩; rintro v O' ⟨rfl, rfl⟩)
     | (refine ⟨_, all_is (z := maxF (fun i => pat (c.ten i) (pl c)) 6 - 1) hc0 (by have h := hin; (simp only [inB, List.getD_eq_getElem?_getD, Bool.and_eq_true, Bool.or_eq_true, Bool.and_eq_false_iff, Bool.or_eq_false_iff, Bool.not_eq_true', Bool.not_eq_false', decide_eq_true_eq, decide_eq_false_iff_not, beq_iff_eq, bne_iff_ne, bne_eq_false_iff_eq, beq_eq_false_iff_ne, Bool.false_eq_true, Bool.true_eq_false, ne_eq, true_iff, iff_true, false_iff, iff_false, Bool.not_eq_true, Bool.not_eq_false] at *; omega)), ?_⟩; rintro v O' ⟨rfl, rfl⟩)
     | intro _)
  all_goals first
   | rfl
   | omega
   | (simp only [inB, List.getD_eq_getElem?_getD, Bool.and_eq_true, Bool.or_eq_true, Bool.and_eq_false_iff, Bool.or_eq_false_iff, Bool.not_eq_true', Bool.not_eq_false', decide_eq_true_eq, decide_eq_false_iff_not, beq_iff_eq, bne_iff_ne, bne_eq_false_iff_eq, beq_eq_false_iff_ne, Bool.false_eq_true, Bool.true_eq_false, ne_eq, true_iff, iff_true, false_iff, iff_false, Bool.not_eq_true, Bool.not_eq_false] at *; omega)
   | (exfalso; (simp only [inB, List.getD_eq_getElem?_getD, Bool.and_eq_true, Bool.or_eq_true, Bool.and_eq_false_iff, Bool.or_eq_false_iff, Bool.not_eq_true', Bool.not_eq_false', decide_eq_true_eq, decide_eq_false_iff_not, beq_iff_eq, bne_iff_ne, bne_eq_false_iff_eq, beq_eq_false_iff_ne, Bool.false_eq_true, Bool.true_eq_false, ne_eq, true_iff, iff_true, false_iff, iff_false, Bool.not_eq_true, Bool.not_eq_false] at *; omega))
   | exact Nat.le_of_ble_eq_true rfl
   | exact all_less _
   | (rename_i hz; cases hz; done)
 ·have hg := grows (c := c) (u := 3) (j := j) hc0 (by decide) (by omega)
  have ht : (1 ≤ c.t3.bud ∧ c.t3.bud ≤ 64) ∧ 0 ≤ c.t3.qs ∧ c.t3.qs ≤ 4 := htn 3 (by decide)
  have d0 := pat_is (u := 3) hc0 (by decide)
  have d1 := (pat_is (c := setT c 3 (richT (c.ten 3))) (u := 3) (by rw [hg.c1]) (by decide)).arg (own_same (n1 := 0 + c.cl.length) (n3 := 0 + c.rl.length) (e1 := catEl 0 (cutEl 3 []) (clsEl c.cl)) (e3 := catEl 0 (cutEl 7 []) (rulesEl c.rl)) (Nat.zero_add _) (fun i _ => cat_zero i) (Nat.zero_add _) (fun i _ => cat_zero i))
  have d2 := (pat_is (c := setT c 3 (manyT (c.ten 3))) (u := 3) (by rw [hg.c2]) (by decide)).arg (own_same (n1 := 0 + c.cl.length) (n3 := 0 + c.rl.length) (e1 := catEl 0 (cutEl 3 []) (clsEl c.cl)) (e3 := catEl 0 (cutEl 7 []) (rulesEl c.rl)) (Nat.zero_add _) (fun i _ => cat_zero i) (Nat.zero_add _) (fun i _ => cat_zero i))
  have d3 := (pat_is (c := wideC c j) (u := 3) (by rw [hg.c3]) (by decide)).arg (own_same (n1 := 0 + c.cl.length) (n3 := 0 + c.rl.length) (e1 := updEl j (clsS (moreC (c.cl.getD j default))) (catEl 0 (cutEl 3 []) (clsEl c.cl))) (e3 := catEl 0 (cutEl 7 []) (rulesEl c.rl)) (by simp [wideC]) (fun i _ => wide_el (by omega) i) (Nat.zero_add _) (fun i _ => cat_zero i))
  have hp1 : pat ((setT c 3 (richT (c.ten 3))).ten 3) (pl (setT c 3 (richT (c.ten 3)))) ≤ pat (c.ten 3) (pl c) := hg.p1
  have hp2 : pat (c.ten 3) (pl c) ≤ pat ((setT c 3 (manyT (c.ten 3))).ten 3) (pl (setT c 3 (manyT (c.ten 3)))) := hg.p2
  have hp3 : pat (c.ten 3) (pl c) ≤ pat ((wideC c j).ten 3) (pl (wideC c j)) := hg.p3
  have hone := hg.one
  have hle := hg.le
  have htop := hg.top
  refine dspec_of {} true Tryz.func3 (by kernel_rfl) rfl ?_
  repeat' (
    (conv => whnf)
    first
     | exact closedB (by kernel_rfl)
     | refine And.intro ?_ ?_
     | refine splitB_intro ?_ ?_
     | (refine ⟨_, hbk, ?_⟩; rintro v O' ⟨rfl, rfl⟩)
     | (refine ⟨_, hcfg, ?_⟩; rintro v O' ⟨rfl, rfl⟩)
     | (refine ⟨_, hmod, ?_⟩; rintro v O' ⟨rfl, rfl⟩)
     | (refine ⟨_, hmod2, ?_⟩; rintro v O' ⟨rfl, rfl⟩)
     | (refine ⟨_, hown, ?_⟩; rintro v O' ⟨rfl, rfl⟩)
     | (refine ⟨_, d0, ?_⟩; rintro v O' ⟨rfl, rfl⟩)
     | (refine ⟨_, d1, ?_⟩; rintro v O' ⟨rfl, rfl⟩)
     | (refine ⟨_, d2, ?_⟩; rintro v O' ⟨rfl, rfl⟩)
     | (refine ⟨_, d3, ?_⟩; rintro v O' ⟨rfl, rfl⟩)
     | (refine ⟨_, hhor, ?_⟩; rintro v O' ⟨rfl, rfl⟩)
     | (refine ⟨_, hall, ?_⟩; rintro v O' ⟨rfl, rfl⟩)
     | (refine ⟨_, all_is (z := maxF (fun i => pat (c.ten i) (pl c)) 6 - 1) hc0 (by have h := hin; (simp only [inB, List.getD_eq_getElem?_getD, Bool.and_eq_true, Bool.or_eq_true, Bool.and_eq_false_iff, Bool.or_eq_false_iff, Bool.not_eq_true', Bool.not_eq_false', decide_eq_true_eq, decide_eq_false_iff_not, beq_iff_eq, bne_iff_ne, bne_eq_false_iff_eq, beq_eq_false_iff_ne, Bool.false_eq_true, Bool.true_eq_false, ne_eq, true_iff, iff_true, false_iff, iff_false, Bool.not_eq_true, Bool.not_eq_false] at *; omega)), ?_⟩; rintro v O' ⟨rfl, rfl⟩)
     | intro _)
  all_goals first
   | rfl
   | omega
   | (simp only [inB, List.getD_eq_getElem?_getD, Bool.and_eq_true, Bool.or_eq_true, Bool.and_eq_false_iff, Bool.or_eq_false_iff, Bool.not_eq_true', Bool.not_eq_false', decide_eq_true_eq, decide_eq_false_iff_not, beq_iff_eq, bne_iff_ne, bne_eq_false_iff_eq, beq_eq_false_iff_ne, Bool.false_eq_true, Bool.true_eq_false, ne_eq, true_iff, iff_true, false_iff, iff_false, Bool.not_eq_true, Bool.not_eq_false] at *; omega)
   | (exfalso; (simp only [inB, List.getD_eq_getElem?_getD, Bool.and_eq_true, Bool.or_eq_true, Bool.and_eq_false_iff, Bool.or_eq_false_iff, Bool.not_eq_true', Bool.not_eq_false', decide_eq_true_eq, decide_eq_false_iff_not, beq_iff_eq, bne_iff_ne, bne_eq_false_iff_eq, beq_eq_false_iff_ne, Bool.false_eq_true, Bool.true_eq_false, ne_eq, true_iff, iff_true, false_iff, iff_false, Bool.not_eq_true, Bool.not_eq_false] at *; omega))
   | exact Nat.le_of_ble_eq_true rfl
   | exact all_less _
   | (rename_i hz; cases hz; done)
 ·have hg := grows (c := c) (u := 4) (j := j) hc0 (by decide) (by omega)
  have ht : (1 ≤ c.t4.bud ∧ c.t4.bud ≤ 64) ∧ 0 ≤ c.t4.qs ∧ c.t4.qs ≤ 4 := htn 4 (by decide)
  have d0 := pat_is (u := 4) hc0 (by decide)
  have d1 := (pat_is (c := setT c 4 (richT (c.ten 4))) (u := 4) (by rw [hg.c1]) (by decide)).arg (own_same (n1 := 0 + c.cl.length) (n3 := 0 + c.rl.length) (e1 := catEl 0 (cutEl 3 []) (clsEl c.cl)) (e3 := catEl 0 (cutEl 7 []) (rulesEl c.rl)) (Nat.zero_add _) (fun i _ => cat_zero i) (Nat.zero_add _) (fun i _ => cat_zero i))
  have d2 := (pat_is (c := setT c 4 (manyT (c.ten 4))) (u := 4) (by rw [hg.c2]) (by decide)).arg (own_same (n1 := 0 + c.cl.length) (n3 := 0 + c.rl.length) (e1 := catEl 0 (cutEl 3 []) (clsEl c.cl)) (e3 := catEl 0 (cutEl 7 []) (rulesEl c.rl)) (Nat.zero_add _) (fun i _ => cat_zero i) (Nat.zero_add _) (fun i _ => cat_zero i))
  have d3 := (pat_is (c := wideC c j) (u := 4) (by rw [hg.c3]) (by decide)).arg (own_same (n1 := 0 + c.cl.length) (n3 := 0 + c.rl.length) (e1 := updEl j (clsS (moreC (c.cl.getD j default))) (catEl 0 (cutEl 3 []) (clsEl c.cl))) (e3 := catEl 0 (cutEl 7 []) (rulesEl c.rl)) (by simp [wideC]) (fun i _ => wide_el (by omega) i) (Nat.zero_add _) (fun i _ => cat_zero i))
  have hp1 : pat ((setT c 4 (richT (c.ten 4))).ten 4) (pl (setT c 4 (richT (c.ten 4)))) ≤ pat (c.ten 4) (pl c) := hg.p1
  have hp2 : pat (c.ten 4) (pl c) ≤ pat ((setT c 4 (manyT (c.ten 4))).ten 4) (pl (setT c 4 (manyT (c.ten 4)))) := hg.p2
  have hp3 : pat (c.ten 4) (pl c) ≤ pat ((wideC c j).ten 4) (pl (wideC c j)) := hg.p3
  have hone := hg.one
  have hle := hg.le
  have htop := hg.top
  refine dspec_of {} true Tryz.func3 (by kernel_rfl) rfl ?_
  repeat' (
    (conv => whnf)
    first
     | exact closedB (by kernel_rfl)
     | refine And.intro ?_ ?_
     | refine splitB_intro ?_ ?_
     | (refine ⟨_, hbk, ?_⟩; rintro v O' ⟨rfl, rfl⟩)
     | (refine ⟨_, hcfg, ?_⟩; rintro v O' ⟨rfl, rfl⟩)
     | (refine ⟨_, hmod, ?_⟩; rintro v O' ⟨rfl, rfl⟩)
     | (refine ⟨_, hmod2, ?_⟩; rintro v O' ⟨rfl, rfl⟩)
     | (refine ⟨_, hown, ?_⟩; rintro v O' ⟨rfl, rfl⟩)
     | (refine ⟨_, d0, ?_⟩; rintro v O' ⟨rfl, rfl⟩)
     | (refine ⟨_, d1, ?_⟩; rintro v O' ⟨rfl, rfl⟩)
     | (refine ⟨_, d2, ?_⟩; rintro v O' ⟨rfl, rfl⟩)
     | (refine ⟨_, d3, ?_⟩; rintro v O' ⟨rfl, rfl⟩)
     | (refine ⟨_, hhor, ?_⟩; rintro v O' ⟨rfl, rfl⟩)
     | (refine ⟨_, hall, ?_⟩; rintro v O' ⟨rfl, rfl⟩)
     | (refine ⟨_, all_is (z := maxF (fun i => pat (c.ten i) (pl c)) 6 - 1) hc0 (by have h := hin; (simp only [inB, List.getD_eq_getElem?_getD, Bool.and_eq_true, Bool.or_eq_true, Bool.and_eq_false_iff, Bool.or_eq_false_iff, Bool.not_eq_true', Bool.not_eq_false', decide_eq_true_eq, decide_eq_false_iff_not, beq_iff_eq, bne_iff_ne, bne_eq_false_iff_eq, beq_eq_false_iff_ne, Bool.false_eq_true, Bool.true_eq_false, ne_eq, true_iff, iff_true, false_iff, iff_false, Bool.not_eq_true, Bool.not_eq_false] at *; omega)), ?_⟩; rintro v O' ⟨rfl, rfl⟩)
     | intro _)
  all_goals first
   | rfl
   | omega
   | (simp only [inB, List.getD_eq_getElem?_getD, Bool.and_eq_true, Bool.or_eq_true, Bool.and_eq_false_iff, Bool.or_eq_false_iff, Bool.not_eq_true', Bool.not_eq_false', decide_eq_true_eq, decide_eq_false_iff_not, beq_iff_eq, bne_iff_ne, bne_eq_false_iff_eq, beq_eq_false_iff_ne, Bool.false_eq_true, Bool.true_eq_false, ne_eq, true_iff, iff_true, false_iff, iff_false, Bool.not_eq_true, Bool.not_eq_false] at *; omega)
   | (exfalso; (simp only [inB, List.getD_eq_getElem?_getD, Bool.and_eq_true, Bool.or_eq_true, Bool.and_eq_false_iff, Bool.or_eq_false_iff, Bool.not_eq_true', Bool.not_eq_false', decide_eq_true_eq, decide_eq_false_iff_not, beq_iff_eq, bne_iff_ne, bne_eq_false_iff_eq, beq_eq_false_iff_ne, Bool.false_eq_true, Bool.true_eq_false, ne_eq, true_iff, iff_true, false_iff, iff_false, Bool.not_eq_true, Bool.not_eq_false] at *; omega))
   | exact Nat.le_of_ble_eq_true rfl
   | exact all_less _
   | (rename_i hz; cases hz; done)
 ·have hg := grows (c := c) (u := 5) (j := j) hc0 (by decide) (by omega)
  have ht : (1 ≤ c.t5.bud ∧ c.t5.bud ≤ 64) ∧ 0 ≤ c.t5.qs ∧ c.t5.qs ≤ 4 := htn 5 (by decide)
  have d0 := pat_is (u := 5) hc0 (by decide)
  have d1 := (pat_is (c := setT c 5 (richT (c.ten 5))) (u := 5) (by rw [hg.c1]) (by decide)).arg (own_same (n1 := 0 + c.cl.length) (n3 := 0 + c.rl.length) (e1 := catEl 0 (cutEl 3 []) (clsEl c.cl)) (e3 := catEl 0 (cutEl 7 []) (rulesEl c.rl)) (Nat.zero_add _) (fun i _ => cat_zero i) (Nat.zero_add _) (fun i _ => cat_zero i))
  have d2 := (pat_is (c := setT c 5 (manyT (c.ten 5))) (u := 5) (by rw [hg.c2]) (by decide)).arg (own_same (n1 := 0 + c.cl.length) (n3 := 0 + c.rl.length) (e1 := catEl 0 (cutEl 3 []) (clsEl c.cl)) (e3 := catEl 0 (cutEl 7 []) (rulesEl c.rl)) (Nat.zero_add _) (fun i _ => cat_zero i) (Nat.zero_add _) (fun i _ => cat_zero i))
  have d3 := (pat_is (c := wideC c j) (u := 5) (by rw [hg.c3]) (by decide)).arg (own_same (n1 := 0 + c.cl.length) (n3 := 0 + c.rl.length) (e1 := updEl j (clsS (moreC (c.cl.getD j default))) (catEl 0 (cutEl 3 []) (clsEl c.cl))) (e3 := catEl 0 (cutEl 7 []) (rulesEl c.rl)) (by simp [wideC]) (fun i _ => wide_el (by omega) i) (Nat.zero_add _) (fun i _ => cat_zero i))
  have hp1 : pat ((setT c 5 (richT (c.ten 5))).ten 5) (pl (setT c 5 (richT (c.ten 5)))) ≤ pat (c.ten 5) (pl c) := hg.p1
  have hp2 : pat (c.ten 5) (pl c) ≤ pat ((setT c 5 (manyT (c.ten 5))).ten 5) (pl (setT c 5 (manyT (c.ten 5)))) := hg.p2
  have hp3 : pat (c.ten 5) (pl c) ≤ pat ((wideC c j).ten 5) (pl (wideC c j)) := hg.p3
  have hone := hg.one
  have hle := hg.le
  have htop := hg.top
  refine dspec_of {} true Tryz.func3 (by kernel_rfl) rfl ?_
  repeat' (
    (conv => whnf)
    first
     | exact closedB (by kernel_rfl)
     | refine And.intro ?_ ?_
     | refine splitB_intro ?_ ?_
     | (refine ⟨_, hbk, ?_⟩; rintro v O' ⟨rfl, rfl⟩)
     | (refine ⟨_, hcfg, ?_⟩; rintro v O' ⟨rfl, rfl⟩)
     | (refine ⟨_, hmod, ?_⟩; rintro v O' ⟨rfl, rfl⟩)
     | (refine ⟨_, hmod2, ?_⟩; rintro v O' ⟨rfl, rfl⟩)
     | (refine ⟨_, hown, ?_⟩; rintro v O' ⟨rfl, rfl⟩)
     | (refine ⟨_, d0, ?_⟩; rintro v O' ⟨rfl, rfl⟩)
     | (refine ⟨_, d1, ?_⟩; rintro v O' ⟨rfl, rfl⟩)
     | (refine ⟨_, d2, ?_⟩; rintro v O' ⟨rfl, rfl⟩)
     | (refine ⟨_, d3, ?_⟩; rintro v O' ⟨rfl, rfl⟩)
     | (refine ⟨_, hhor, ?_⟩; rintro v O' ⟨rfl, rfl⟩)
     | (refine ⟨_, hall, ?_⟩; rintro v O' ⟨rfl, rfl⟩)
     | (refine ⟨_, all_is (z := maxF (fun i => pat (c.ten i) (pl c)) 6 - 1) hc0 (by have h := hin; (simp only [inB, List.getD_eq_getElem?_getD, Bool.and_eq_true, Bool.or_eq_true, Bool.and_eq_false_iff, Bool.or_eq_false_iff, Bool.not_eq_true', Bool.not_eq_false', decide_eq_true_eq, decide_eq_false_iff_not, beq_iff_eq, bne_iff_ne, bne_eq_false_iff_eq, beq_eq_false_iff_ne, Bool.false_eq_true, Bool.true_eq_false, ne_eq, true_iff, iff_true, false_iff, iff_false, Bool.not_eq_true, Bool.not_eq_false] at *; omega)), ?_⟩; rintro v O' ⟨rfl, rfl⟩)
     | intro _)
  all_goals first
   | rfl
   | omega
   | (simp only [inB, List.getD_eq_getElem?_getD, Bool.and_eq_true, Bool.or_eq_true, Bool.and_eq_false_iff, Bool.or_eq_false_iff, Bool.not_eq_true', Bool.not_eq_false', decide_eq_true_eq, decide_eq_false_iff_not, beq_iff_eq, bne_iff_ne, bne_eq_false_iff_eq, beq_eq_false_iff_ne, Bool.false_eq_true, Bool.true_eq_false, ne_eq, true_iff, iff_true, false_iff, iff_false, Bool.not_eq_true, Bool.not_eq_false] at *; omega)
   | (exfalso; (simp only [inB, List.getD_eq_getElem?_getD, Bool.and_eq_true, Bool.or_eq_true, Bool.and_eq_false_iff, Bool.or_eq_false_iff, Bool.not_eq_true', Bool.not_eq_false', decide_eq_true_eq, decide_eq_false_iff_not, beq_iff_eq, bne_iff_ne, bne_eq_false_iff_eq, beq_eq_false_iff_ne, Bool.false_eq_true, Bool.true_eq_false, ne_eq, true_iff, iff_true, false_iff, iff_false, Bool.not_eq_true, Bool.not_eq_false] at *; omega))
   | exact Nat.le_of_ble_eq_true rfl
   | exact all_less _
   | (rename_i hz; cases hz; done)
end Go.Proofs.YtnbpkbjhekgfoaaGreatDoor
