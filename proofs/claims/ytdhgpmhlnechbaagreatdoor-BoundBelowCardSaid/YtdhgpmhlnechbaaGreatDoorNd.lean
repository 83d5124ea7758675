import Derived.Test.YtdhgpmhlnechbaaGreatDoorNc
/-
  Numbers of a configuration. Part d: the reference's check of a configuration.
-/
set_option linter.unusedSimpArgs false
set_option linter.unusedVariables false
namespace Go.Proofs.YtdhgpmhlnechbaaGreatDoor
open Go Go.Cx

theorem seenB_yes {l : List ClsM} {n k : Nat} {x : Int} (hk : k < n) (hn : n ≤ l.length) (h : (l.getD k default).lab = x) : seenB l n x = true := by
  unfold seenB
  rw [List.any_eq_true]
  refine ⟨l.getD k default, ?_, by simpa using h⟩
  rw [List.mem_iff_getElem?]
  exact ⟨k, by rw [List.getElem?_take_of_lt hk, List.getD_eq_getElem?_getD, List.getElem?_eq_getElem (by omega)]; rfl⟩
theorem seenB_no {l : List ClsM} {n : Nat} {x : Int} (hn : n ≤ l.length) (h : ∀ k, k < n → (l.getD k default).lab ≠ x) : seenB l n x = false := by
  unfold seenB
  rw [Bool.eq_false_iff, Ne, List.any_eq_true]
  rintro ⟨y, hy, hq⟩
  obtain ⟨k, hk⟩ := List.mem_iff_getElem?.1 hy
  have hlt : k < n := by
    have := (List.getElem?_eq_some_iff.1 hk).1
    rw [List.length_take] at this; omega
  rw [List.getElem?_take_of_lt hlt] at hk
  exact h k hlt (by rw [List.getD_eq_getElem?_getD, hk]; simpa using hq)
theorem errC_bad {l : List ClsM} {i : Nat} (h : okC (l.getD i default) = false) : errC l i = 2 := by
  unfold errC; rw [h]; rfl
theorem errC_old {l : List ClsM} {i : Nat} (h : okC (l.getD i default) = true) (hs : seenB l i (l.getD i default).lab = true) : errC l i = 8 := by
  unfold errC; rw [h, hs]; rfl
theorem errC_new {l : List ClsM} {i : Nat} (h : okC (l.getD i default) = true) (hs : seenB l i (l.getD i default).lab = false) : errC l i = 0 := by
  unfold errC; rw [h, hs]; rfl
set_option maxRecDepth 100000 in
theorem rclass_d (c : ConfM) (i : Nat) (hi : i < c.cl.length) (h1 : c.cl.length ≤ 9223372036854775807) : DSpec Tryz.prog noX [] 54 [.isl 3 c.cl.length (clsEl c.cl), ci i] [] (fun v O => v = ci (errC c.cl i) ∧ O = []) := by
  refine dspec_of { ann := [(4, [5])] } true Tryz.func54 (by kernel_rfl) rfl ?_
  repeat' (
      (conv => whnf)
      first
        | exact closedB (by kernel_rfl)
        | refine And.intro ?_ ?_
        | refine splitB_intro ?_ ?_
        | ((refine ⟨fun vs O _ => ∃ k : Nat, k ≤ i ∧ (∀ j, j < k → (c.cl.getD j default).lab ≠ (c.cl.getD i default).lab) ∧ vs = [ci k] ∧ O = [], fun vs O => match vs with | [.cv (.int _ k)] => i - k.toNat | _ => 0, ⟨0, Nat.zero_le _, fun j h => absurd h (by omega), rfl, rfl⟩, ?_⟩; rintro vs O _ ⟨k, hk, hj, rfl, rfl⟩))
        | (refine ⟨_, from_d _ _ _, ?_⟩; rintro v O' ⟨rfl, rfl⟩)
        | intro _)
  all_goals first
    | rfl
    | omega
    | (simp only [inB, List.getD_eq_getElem?_getD, Bool.and_eq_true, Bool.or_eq_true, Bool.and_eq_false_iff, Bool.or_eq_false_iff, Bool.not_eq_true', Bool.not_eq_false', decide_eq_true_eq, decide_eq_false_iff_not, beq_iff_eq, bne_iff_ne, bne_eq_false_iff_eq, beq_eq_false_iff_ne, Bool.false_eq_true, Bool.true_eq_false, ne_eq, true_iff, iff_true, false_iff, iff_false, Bool.not_eq_true, Bool.not_eq_false] at *; omega)
    | exact congrArg ci (errC_bad (by simp_all [okC])).symm
    | (rename_i hz; exact congrArg ci (errC_old (by simp_all [okC]) (seenB_yes (k := k) (by (simp only [inB, List.getD_eq_getElem?_getD, Bool.and_eq_true, Bool.or_eq_true, Bool.and_eq_false_iff, Bool.or_eq_false_iff, Bool.not_eq_true', Bool.not_eq_false', decide_eq_true_eq, decide_eq_false_iff_not, beq_iff_eq, bne_iff_ne, bne_eq_false_iff_eq, beq_eq_false_iff_ne, Bool.false_eq_true, Bool.true_eq_false, ne_eq, true_iff, iff_true, false_iff, iff_false, Bool.not_eq_true, Bool.not_eq_false] at *; omega)) (by omega) (by simpa using hz))).symm)
    | exact congrArg ci (errC_new (by simp_all [okC]) (seenB_no (by omega) fun j h => hj j (by (simp only [inB, List.getD_eq_getElem?_getD, Bool.and_eq_true, Bool.or_eq_true, Bool.and_eq_false_iff, Bool.or_eq_false_iff, Bool.not_eq_true', Bool.not_eq_false', decide_eq_true_eq, decide_eq_false_iff_not, beq_iff_eq, bne_iff_ne, bne_eq_false_iff_eq, beq_eq_false_iff_ne, Bool.false_eq_true, Bool.true_eq_false, ne_eq, true_iff, iff_true, false_iff, iff_false, Bool.not_eq_true, Bool.not_eq_false] at *; omega)))).symm
    | (rename_i hz; exact ⟨k + 1, by (simp only [inB, List.getD_eq_getElem?_getD, Bool.and_eq_true, Bool.or_eq_true, Bool.and_eq_false_iff, Bool.or_eq_false_iff, Bool.not_eq_true', Bool.not_eq_false', decide_eq_true_eq, decide_eq_false_iff_not, beq_iff_eq, bne_iff_ne, bne_eq_false_iff_eq, beq_eq_false_iff_ne, Bool.false_eq_true, Bool.true_eq_false, ne_eq, true_iff, iff_true, false_iff, iff_false, Bool.not_eq_true, Bool.not_eq_false] at *; omega), fun j h => by rcases Nat.lt_succ_iff_lt_or_eq.1 h with h | rfl; exact hj _ h; simpa using hz, rfl, rfl⟩)
set_option maxRecDepth 100000 in
theorem rtenant_d (t : TenM) : DSpec Tryz.prog noX [] 55 [.agg (tenS t)] [] (fun v O => v = cb (okT t) ∧ O = []) := by
  refine dspec_of {} true Tryz.func55 (by kernel_rfl) rfl ?_
  repeat' (
      (conv => whnf)
      first
        | exact closedB (by kernel_rfl)
        | refine And.intro ?_ ?_
        | refine splitB_intro ?_ ?_
        | (refine ⟨_, from_d _ _ _, ?_⟩; rintro v O' ⟨rfl, rfl⟩)
        | intro _)
  all_goals first
    | rfl
    | omega
    | (unfold okT; simp only [*]; rfl)
set_option maxRecDepth 100000 in
theorem rrule_d (r : RuleM) : DSpec Tryz.prog noX [] 56 [.agg (ruleS r)] [] (fun v O => v = ci (errR r) ∧ O = []) := by
  refine dspec_of {} true Tryz.func56 (by kernel_rfl) rfl ?_
  repeat' (
      (conv => whnf)
      first
        | exact closedB (by kernel_rfl)
        | refine And.intro ?_ ?_
        | refine splitB_intro ?_ ?_
        | (refine ⟨_, from_d _ _ _, ?_⟩; rintro v O' ⟨rfl, rfl⟩)
        | (refine ⟨_, below_d _ _, ?_⟩; rintro v O' ⟨rfl, rfl⟩)
        | intro _)
  all_goals first
    | rfl
    | omega
    | (refine congrArg ci ?_; unfold errR; split <;> (try split) <;> (try split) <;> first | rfl | (exfalso; simp only [okR, inB] at *; simp only [inB, List.getD_eq_getElem?_getD, Bool.and_eq_true, Bool.or_eq_true, Bool.and_eq_false_iff, Bool.or_eq_false_iff, Bool.not_eq_true', Bool.not_eq_false', decide_eq_true_eq, decide_eq_false_iff_not, beq_iff_eq, bne_iff_ne, bne_eq_false_iff_eq, beq_eq_false_iff_ne, Bool.false_eq_true, Bool.true_eq_false, ne_eq, true_iff, iff_true, false_iff, iff_false, Bool.not_eq_true, Bool.not_eq_false] at *; grind))
theorem stepZ {f : Nat → Int} {k : Nat} (h : ∀ j, j < k → f j = 0) (hk : f k = 0) : ∀ j, j < k + 1 → f j = 0 := fun j hj => by
  rcases Nat.lt_succ_iff_lt_or_eq.1 hj with h1 | rfl
  · exact h j h1
  · exact hk
theorem chk_t' {c : ConfM} (ha : decide ((c.cl.length : Int) > 8) = false) (hb : decide ((c.rl.length : Int) > 8) = false) {n : Nat} (h0 : ∀ i, i < c.cl.length → errC c.cl i = 0) (hn : n < 6) (hj : ∀ i, i < n → errT (c.ten i) = 0) (he : (!okT (c.ten n)) = true) : chk c = (2, (n : Int)) := by
  have h := errT2 he
  rw [chk_t ha hb h0 hn hj (by rw [h]; rfl), h]
set_option maxRecDepth 100000 in
set_option maxHeartbeats 4000000 in
theorem rCheck_d (c : ConfM) (h1 : c.cl.length ≤ 9223372036854775807) (h2 : c.rl.length ≤ 9223372036854775807) : DSpec Tryz.prog noX [] 37 [.agg (confS c)] [] (fun v O => v = chkS (chk c) ∧ O = []) := by
  refine dspec_of { ann := [(4, [4]), (10, [6]), (15, [7])] } true Tryz.func37 (by kernel_rfl) rfl ?_
  repeat' (
      (conv => whnf)
      first
        | exact closedB (by kernel_rfl)
        | refine And.intro ?_ ?_
        | refine splitB_intro ?_ ?_
        | ((have := hj2; refine ⟨fun vs O _ => ∃ k : Nat, k ≤ c.rl.length ∧ (∀ j, j < k → errR (c.rl.getD j default) = 0) ∧ vs = [ci k] ∧ O = [.cells 30 (confS c)], fun vs O => match vs with | [.cv (.int _ k)] => c.rl.length - k.toNat | _ => 0, ⟨0, Nat.zero_le _, fun j h => absurd h (by omega), rfl, rfl⟩, ?_⟩; rintro vs O _ ⟨k3, hk3, hj3, rfl, rfl⟩))
        | ((have := hj1; refine ⟨fun vs O _ => ∃ k : Nat, k ≤ 6 ∧ (∀ j, j < k → errT (c.ten j) = 0) ∧ vs = [ci k] ∧ O = [.cells 30 (confS c)], fun vs O => match vs with | [.cv (.int _ k)] => 6 - k.toNat | _ => 0, ⟨0, Nat.zero_le _, fun j h => absurd h (by omega), rfl, rfl⟩, ?_⟩; rintro vs O _ ⟨k2, hk2, hj2, rfl, rfl⟩; obtain rfl | rfl | rfl | rfl | rfl | rfl | rfl : k2 = 0 ∨ k2 = 1 ∨ k2 = 2 ∨ k2 = 3 ∨ k2 = 4 ∨ k2 = 5 ∨ k2 = 6 := by omega))
        | ((refine ⟨fun vs O _ => ∃ k : Nat, k ≤ c.cl.length ∧ (∀ j, j < k → errC c.cl j = 0) ∧ vs = [ci k] ∧ O = [.cells 30 (confS c)], fun vs O => match vs with | [.cv (.int _ k)] => c.cl.length - k.toNat | _ => 0, ⟨0, Nat.zero_le _, fun j h => absurd h (by omega), rfl, rfl⟩, ?_⟩; rintro vs O _ ⟨k1, hk1, hj1, rfl, rfl⟩))
        | (refine ⟨_, rclass_d c k1 (by (simp only [inB, List.getD_eq_getElem?_getD, Bool.and_eq_true, Bool.or_eq_true, Bool.and_eq_false_iff, Bool.or_eq_false_iff, Bool.not_eq_true', Bool.not_eq_false', decide_eq_true_eq, decide_eq_false_iff_not, beq_iff_eq, bne_iff_ne, bne_eq_false_iff_eq, beq_eq_false_iff_ne, Bool.false_eq_true, Bool.true_eq_false, ne_eq, true_iff, iff_true, false_iff, iff_false, Bool.not_eq_true, Bool.not_eq_false] at *; omega)) h1, ?_⟩; rintro v O' ⟨rfl, rfl⟩)
        | (refine ⟨_, rtenant_d c.t0, ?_⟩; rintro v O' ⟨rfl, rfl⟩)
        | (refine ⟨_, rtenant_d c.t1, ?_⟩; rintro v O' ⟨rfl, rfl⟩)
        | (refine ⟨_, rtenant_d c.t2, ?_⟩; rintro v O' ⟨rfl, rfl⟩)
        | (refine ⟨_, rtenant_d c.t3, ?_⟩; rintro v O' ⟨rfl, rfl⟩)
        | (refine ⟨_, rtenant_d c.t4, ?_⟩; rintro v O' ⟨rfl, rfl⟩)
        | (refine ⟨_, rtenant_d c.t5, ?_⟩; rintro v O' ⟨rfl, rfl⟩)
        | (refine ⟨_, rrule_d (c.rl.getD k3 default), ?_⟩; rintro v O' ⟨rfl, rfl⟩)
        | intro _)
  all_goals first
    | rfl
    | omega
    | (simp only [inB, List.getD_eq_getElem?_getD, Bool.and_eq_true, Bool.or_eq_true, Bool.and_eq_false_iff, Bool.or_eq_false_iff, Bool.not_eq_true', Bool.not_eq_false', decide_eq_true_eq, decide_eq_false_iff_not, beq_iff_eq, bne_iff_ne, bne_eq_false_iff_eq, beq_eq_false_iff_ne, Bool.false_eq_true, Bool.true_eq_false, ne_eq, true_iff, iff_true, false_iff, iff_false, Bool.not_eq_true, Bool.not_eq_false] at *; omega)
    | exact (congrArg chkS (chk_full1 (by assumption))).symm
    | exact (congrArg chkS (chk_full2 (by assumption))).symm
    | (rename_i hh; first
        | exact (congrArg chkS (chk_cl (by assumption) (by assumption) (by (simp only [inB, List.getD_eq_getElem?_getD, Bool.and_eq_true, Bool.or_eq_true, Bool.and_eq_false_iff, Bool.or_eq_false_iff, Bool.not_eq_true', Bool.not_eq_false', decide_eq_true_eq, decide_eq_false_iff_not, beq_iff_eq, bne_iff_ne, bne_eq_false_iff_eq, beq_eq_false_iff_ne, Bool.false_eq_true, Bool.true_eq_false, ne_eq, true_iff, iff_true, false_iff, iff_false, Bool.not_eq_true, Bool.not_eq_false] at *; omega)) hj1 hh)).symm
        | exact ⟨k1 + 1, by (simp only [inB, List.getD_eq_getElem?_getD, Bool.and_eq_true, Bool.or_eq_true, Bool.and_eq_false_iff, Bool.or_eq_false_iff, Bool.not_eq_true', Bool.not_eq_false', decide_eq_true_eq, decide_eq_false_iff_not, beq_iff_eq, bne_iff_ne, bne_eq_false_iff_eq, beq_eq_false_iff_ne, Bool.false_eq_true, Bool.true_eq_false, ne_eq, true_iff, iff_true, false_iff, iff_false, Bool.not_eq_true, Bool.not_eq_false] at *; omega), stepZ hj1 (by simpa using hh), rfl, rfl⟩
        | exact (congrArg chkS (chk_t' (n := 0) (by assumption) (by assumption) (fun j h => hj1 j (by (simp only [inB, List.getD_eq_getElem?_getD, Bool.and_eq_true, Bool.or_eq_true, Bool.and_eq_false_iff, Bool.or_eq_false_iff, Bool.not_eq_true', Bool.not_eq_false', decide_eq_true_eq, decide_eq_false_iff_not, beq_iff_eq, bne_iff_ne, bne_eq_false_iff_eq, beq_eq_false_iff_ne, Bool.false_eq_true, Bool.true_eq_false, ne_eq, true_iff, iff_true, false_iff, iff_false, Bool.not_eq_true, Bool.not_eq_false] at *; omega))) (by decide) hj2 hh)).symm
        | exact (congrArg chkS (chk_t' (n := 1) (by assumption) (by assumption) (fun j h => hj1 j (by (simp only [inB, List.getD_eq_getElem?_getD, Bool.and_eq_true, Bool.or_eq_true, Bool.and_eq_false_iff, Bool.or_eq_false_iff, Bool.not_eq_true', Bool.not_eq_false', decide_eq_true_eq, decide_eq_false_iff_not, beq_iff_eq, bne_iff_ne, bne_eq_false_iff_eq, beq_eq_false_iff_ne, Bool.false_eq_true, Bool.true_eq_false, ne_eq, true_iff, iff_true, false_iff, iff_false, Bool.not_eq_true, Bool.not_eq_false] at *; omega))) (by decide) hj2 hh)).symm
        | exact (congrArg chkS (chk_t' (n := 2) (by assumption) (by assumption) (fun j h => hj1 j (by (simp only [inB, List.getD_eq_getElem?_getD, Bool.and_eq_true, Bool.or_eq_true, Bool.and_eq_false_iff, Bool.or_eq_false_iff, Bool.not_eq_true', Bool.not_eq_false', decide_eq_true_eq, decide_eq_false_iff_not, beq_iff_eq, bne_iff_ne, bne_eq_false_iff_eq, beq_eq_false_iff_ne, Bool.false_eq_true, Bool.true_eq_false, ne_eq, true_iff, iff_true, false_iff, iff_false, Bool.not_eq_true, Bool.not_eq_false] at *; omega))) (by decide) hj2 hh)).symm
        | exact (congrArg chkS (chk_t' (n := 3) (by assumption) (by assumption) (fun j h => hj1 j (by (simp only [inB, List.getD_eq_getElem?_getD, Bool.and_eq_true, Bool.or_eq_true, Bool.and_eq_false_iff, Bool.or_eq_false_iff, Bool.not_eq_true', Bool.not_eq_false', decide_eq_true_eq, decide_eq_false_iff_not, beq_iff_eq, bne_iff_ne, bne_eq_false_iff_eq, beq_eq_false_iff_ne, Bool.false_eq_true, Bool.true_eq_false, ne_eq, true_iff, iff_true, false_iff, iff_false, Bool.not_eq_true, Bool.not_eq_false] at *; omega))) (by decide) hj2 hh)).symm
        | exact (congrArg chkS (chk_t' (n := 4) (by assumption) (by assumption) (fun j h => hj1 j (by (simp only [inB, List.getD_eq_getElem?_getD, Bool.and_eq_true, Bool.or_eq_true, Bool.and_eq_false_iff, Bool.or_eq_false_iff, Bool.not_eq_true', Bool.not_eq_false', decide_eq_true_eq, decide_eq_false_iff_not, beq_iff_eq, bne_iff_ne, bne_eq_false_iff_eq, beq_eq_false_iff_ne, Bool.false_eq_true, Bool.true_eq_false, ne_eq, true_iff, iff_true, false_iff, iff_false, Bool.not_eq_true, Bool.not_eq_false] at *; omega))) (by decide) hj2 hh)).symm
        | exact (congrArg chkS (chk_t' (n := 5) (by assumption) (by assumption) (fun j h => hj1 j (by (simp only [inB, List.getD_eq_getElem?_getD, Bool.and_eq_true, Bool.or_eq_true, Bool.and_eq_false_iff, Bool.or_eq_false_iff, Bool.not_eq_true', Bool.not_eq_false', decide_eq_true_eq, decide_eq_false_iff_not, beq_iff_eq, bne_iff_ne, bne_eq_false_iff_eq, beq_eq_false_iff_ne, Bool.false_eq_true, Bool.true_eq_false, ne_eq, true_iff, iff_true, false_iff, iff_false, Bool.not_eq_true, Bool.not_eq_false] at *; omega))) (by decide) hj2 hh)).symm
        | exact ⟨0 + 1, by decide, stepZ hj2 (errT0 hh), rfl, rfl⟩
        | exact ⟨1 + 1, by decide, stepZ hj2 (errT0 hh), rfl, rfl⟩
        | exact ⟨2 + 1, by decide, stepZ hj2 (errT0 hh), rfl, rfl⟩
        | exact ⟨3 + 1, by decide, stepZ hj2 (errT0 hh), rfl, rfl⟩
        | exact ⟨4 + 1, by decide, stepZ hj2 (errT0 hh), rfl, rfl⟩
        | exact ⟨5 + 1, by decide, stepZ hj2 (errT0 hh), rfl, rfl⟩
        | exact (congrArg chkS (chk_r (by assumption) (by assumption) (fun j h => hj1 j (by (simp only [inB, List.getD_eq_getElem?_getD, Bool.and_eq_true, Bool.or_eq_true, Bool.and_eq_false_iff, Bool.or_eq_false_iff, Bool.not_eq_true', Bool.not_eq_false', decide_eq_true_eq, decide_eq_false_iff_not, beq_iff_eq, bne_iff_ne, bne_eq_false_iff_eq, beq_eq_false_iff_ne, Bool.false_eq_true, Bool.true_eq_false, ne_eq, true_iff, iff_true, false_iff, iff_false, Bool.not_eq_true, Bool.not_eq_false] at *; omega))) hj2 (by (simp only [inB, List.getD_eq_getElem?_getD, Bool.and_eq_true, Bool.or_eq_true, Bool.and_eq_false_iff, Bool.or_eq_false_iff, Bool.not_eq_true', Bool.not_eq_false', decide_eq_true_eq, decide_eq_false_iff_not, beq_iff_eq, bne_iff_ne, bne_eq_false_iff_eq, beq_eq_false_iff_ne, Bool.false_eq_true, Bool.true_eq_false, ne_eq, true_iff, iff_true, false_iff, iff_false, Bool.not_eq_true, Bool.not_eq_false] at *; omega)) hj3 hh)).symm
        | exact ⟨k3 + 1, by (simp only [inB, List.getD_eq_getElem?_getD, Bool.and_eq_true, Bool.or_eq_true, Bool.and_eq_false_iff, Bool.or_eq_false_iff, Bool.not_eq_true', Bool.not_eq_false', decide_eq_true_eq, decide_eq_false_iff_not, beq_iff_eq, bne_iff_ne, bne_eq_false_iff_eq, beq_eq_false_iff_ne, Bool.false_eq_true, Bool.true_eq_false, ne_eq, true_iff, iff_true, false_iff, iff_false, Bool.not_eq_true, Bool.not_eq_false] at *; omega), stepZ (f := fun j => errR (c.rl.getD j default)) hj3 (by simpa using hh), rfl, rfl⟩)
    | exact (congrArg chkS ((chk_end (by assumption) (by assumption) (fun j h => hj1 j (by (simp only [inB, List.getD_eq_getElem?_getD, Bool.and_eq_true, Bool.or_eq_true, Bool.and_eq_false_iff, Bool.or_eq_false_iff, Bool.not_eq_true', Bool.not_eq_false', decide_eq_true_eq, decide_eq_false_iff_not, beq_iff_eq, bne_iff_ne, bne_eq_false_iff_eq, beq_eq_false_iff_ne, Bool.false_eq_true, Bool.true_eq_false, ne_eq, true_iff, iff_true, false_iff, iff_false, Bool.not_eq_true, Bool.not_eq_false] at *; omega))) hj2 (fun j h => hj3 j (by (simp only [inB, List.getD_eq_getElem?_getD, Bool.and_eq_true, Bool.or_eq_true, Bool.and_eq_false_iff, Bool.or_eq_false_iff, Bool.not_eq_true', Bool.not_eq_false', decide_eq_true_eq, decide_eq_false_iff_not, beq_iff_eq, bne_iff_ne, bne_eq_false_iff_eq, beq_eq_false_iff_ne, Bool.false_eq_true, Bool.true_eq_false, ne_eq, true_iff, iff_true, false_iff, iff_false, Bool.not_eq_true, Bool.not_eq_false] at *; omega)))).trans (if_pos (by ((try (refine congrArg (fun b => SV.cv (CV.bool b)) ?_)); (try rw [Bool.eq_iff_iff]); simp only [inB, List.getD_eq_getElem?_getD, Bool.and_eq_true, Bool.or_eq_true, Bool.and_eq_false_iff, Bool.or_eq_false_iff, Bool.not_eq_true', Bool.not_eq_false', decide_eq_true_eq, decide_eq_false_iff_not, beq_iff_eq, bne_iff_ne, bne_eq_false_iff_eq, beq_eq_false_iff_ne, Bool.false_eq_true, Bool.true_eq_false, ne_eq, true_iff, iff_true, false_iff, iff_false, Bool.not_eq_true, Bool.not_eq_false] at *; first | done | omega))))).symm
    | exact (congrArg chkS ((chk_end (by assumption) (by assumption) (fun j h => hj1 j (by (simp only [inB, List.getD_eq_getElem?_getD, Bool.and_eq_true, Bool.or_eq_true, Bool.and_eq_false_iff, Bool.or_eq_false_iff, Bool.not_eq_true', Bool.not_eq_false', decide_eq_true_eq, decide_eq_false_iff_not, beq_iff_eq, bne_iff_ne, bne_eq_false_iff_eq, beq_eq_false_iff_ne, Bool.false_eq_true, Bool.true_eq_false, ne_eq, true_iff, iff_true, false_iff, iff_false, Bool.not_eq_true, Bool.not_eq_false] at *; omega))) hj2 (fun j h => hj3 j (by (simp only [inB, List.getD_eq_getElem?_getD, Bool.and_eq_true, Bool.or_eq_true, Bool.and_eq_false_iff, Bool.or_eq_false_iff, Bool.not_eq_true', Bool.not_eq_false', decide_eq_true_eq, decide_eq_false_iff_not, beq_iff_eq, bne_iff_ne, bne_eq_false_iff_eq, beq_eq_false_iff_ne, Bool.false_eq_true, Bool.true_eq_false, ne_eq, true_iff, iff_true, false_iff, iff_false, Bool.not_eq_true, Bool.not_eq_false] at *; omega)))).trans (if_neg (by ((try (refine congrArg (fun b => SV.cv (CV.bool b)) ?_)); (try rw [Bool.eq_iff_iff]); simp only [inB, List.getD_eq_getElem?_getD, Bool.and_eq_true, Bool.or_eq_true, Bool.and_eq_false_iff, Bool.or_eq_false_iff, Bool.not_eq_true', Bool.not_eq_false', decide_eq_true_eq, decide_eq_false_iff_not, beq_iff_eq, bne_iff_ne, bne_eq_false_iff_eq, beq_eq_false_iff_ne, Bool.false_eq_true, Bool.true_eq_false, ne_eq, true_iff, iff_true, false_iff, iff_false, Bool.not_eq_true, Bool.not_eq_false] at *; first | done | omega))))).symm
end Go.Proofs.YtdhgpmhlnechbaaGreatDoor
