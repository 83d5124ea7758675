import Derived.Test.YtfbdhfkkgmbfpaaNh
/-
  Numbers of a configuration. Part i: the work of a tick, whether all are served in time.
-/
set_option linter.unusedSimpArgs false
set_option linter.unusedVariables false
namespace Go.Proofs.Ytfbdhfkkgmbfpaa
open Go Go.Cx

@[reducible] noncomputable def allR (c : ConfM) : SV := .tup [cb ((horOf c).2 == 0 && decide (c.hz ≥ (horOf c).1)), ci (horOf c).2]
theorem hor_in {c : ConfM} (h : ((horOf c).2 == 0) = true) : 0 ≤ (horOf c).1 ∧ (horOf c).1 ≤ 3000 := by
  cases hq : (chk c).1 != 0 with
  | true => rw [horOf_err hq] at h; simp at h; simp [h] at hq
  | false =>
    rw [horOf_ok hq]
    have hp := fun i hi => pat_in (ten_ok (i := i) hq hi) (pl_bd c).1 (pl_bd c).2
    have : ∀ k, k ≤ 6 → 0 ≤ maxF (fun i => pat (c.ten i) (pl c)) k ∧ maxF (fun i => pat (c.ten i) (pl c)) k ≤ 3000 := by
      intro k
      induction k with
      | zero => intro _; simp [maxF]
      | succ k ih =>
        intro hk
        have h1 := ih (by omega)
        have h2 := hp k (by omega)
        unfold maxF
        omega
    exact this 6 (Nat.le_refl _)
set_option maxRecDepth 100000 in
theorem All_d (c : ConfM) (hc : Lim c) : DSpec Try.prog noX [] 13 [.agg (confS c)] [] (fun v O => v = allR c ∧ O = []) := by
  refine dspec_of {} true Try.func13 (by kernel_rfl) rfl ?_
  repeat' (
      (conv => whnf)
      first
        | exact closedB (by kernel_rfl)
        | refine And.intro ?_ ?_
        | refine splitB_intro ?_ ?_
        | (refine ⟨_, Horizon_d c hc, ?_⟩; rintro v O' ⟨rfl, rfl⟩)
        | intro _)
  all_goals first
    | rfl
    | (have := hor_in (c := c) (by assumption); omega)
    | (unfold allR; simp only [*]; rfl)
set_option maxRecDepth 100000 in
theorem rAll_d (c : ConfM) (hc : Lim c) : DSpec Try.prog noX [] 14 [.agg (confS c)] [] (fun v O => v = allR c ∧ O = []) := by
  refine dspec_of {} true Try.func14 (by kernel_rfl) rfl ?_
  repeat' (
      (conv => whnf)
      first
        | exact closedB (by kernel_rfl)
        | refine And.intro ?_ ?_
        | refine splitB_intro ?_ ?_
        | (refine ⟨_, rHorizon_d c hc, ?_⟩; rintro v O' ⟨rfl, rfl⟩)
        | intro _)
  all_goals first
    | rfl
    | (have := hor_in (c := c) (by assumption); omega)
    | (unfold allR; simp only [*]; rfl)
def sumF (f : Nat → Int) : Nat → Int
  | 0 => 0
  | k + 1 => sumF f k + f k
theorem sumF_bd {f : Nat → Int} {n : Nat} (h : ∀ i, i < n → 0 ≤ f i ∧ f i ≤ 64) : ∀ k, k ≤ n → 0 ≤ sumF f k ∧ sumF f k ≤ 64 * k
  | 0, _ => by simp [sumF]
  | k + 1, hk => by
    have h1 := sumF_bd h k (by omega)
    have h2 := h k (by omega)
    unfold sumF
    omega
def fEl (f : Nat → Int) : Nat → List SV := fun i => [ci (f i)]
set_option maxRecDepth 100000 in
theorem total_d (f : Nat → Int) (h : ∀ i, i < 6 → 0 ≤ f i ∧ f i ≤ 64) : DSpec Try.prog noX [] 34 [.isl 1 6 (fEl f)] [] (fun v O => v = ci (sumF f 6) ∧ O = []) := by
  refine dspec_of { ann := [(3, [8, 3])] } true Try.func34 (by kernel_rfl) rfl ?_
  repeat' (
      (conv => whnf)
      first
        | exact closedB (by kernel_rfl)
        | refine And.intro ?_ ?_
        | refine splitB_intro ?_ ?_
        | ((refine ⟨fun vs O _ => ∃ k : Nat, k ≤ 6 ∧ vs = [ci k, ci (sumF f k)] ∧ O = [], fun vs O => match vs with | [.cv (.int _ k), _] => 6 - k.toNat | _ => 0, ⟨0, by decide, rfl, rfl⟩, ?_⟩; rintro vs O _ ⟨k, hk, rfl, rfl⟩))
        | intro _)
  all_goals first
    | rfl
    | omega
    | (simp only [inB, List.getD_eq_getElem?_getD, Bool.and_eq_true, Bool.or_eq_true, Bool.and_eq_false_iff, Bool.or_eq_false_iff, Bool.not_eq_true', Bool.not_eq_false', decide_eq_true_eq, decide_eq_false_iff_not, beq_iff_eq, bne_iff_ne, bne_eq_false_iff_eq, beq_eq_false_iff_ne, Bool.false_eq_true, Bool.true_eq_false, ne_eq, true_iff, iff_true, false_iff, iff_false, Bool.not_eq_true, Bool.not_eq_false] at *; omega)
    | (have h1 := sumF_bd h k hk; have h2 := h k (by (simp only [inB, List.getD_eq_getElem?_getD, Bool.and_eq_true, Bool.or_eq_true, Bool.and_eq_false_iff, Bool.or_eq_false_iff, Bool.not_eq_true', Bool.not_eq_false', decide_eq_true_eq, decide_eq_false_iff_not, beq_iff_eq, bne_iff_ne, bne_eq_false_iff_eq, beq_eq_false_iff_ne, Bool.false_eq_true, Bool.true_eq_false, ne_eq, true_iff, iff_true, false_iff, iff_false, Bool.not_eq_true, Bool.not_eq_false] at *; omega)); simp only [Int.toNat_natCast]; omega)
    | exact ⟨k + 1, by (simp only [inB, List.getD_eq_getElem?_getD, Bool.and_eq_true, Bool.or_eq_true, Bool.and_eq_false_iff, Bool.or_eq_false_iff, Bool.not_eq_true', Bool.not_eq_false', decide_eq_true_eq, decide_eq_false_iff_not, beq_iff_eq, bne_iff_ne, bne_eq_false_iff_eq, beq_eq_false_iff_ne, Bool.false_eq_true, Bool.true_eq_false, ne_eq, true_iff, iff_true, false_iff, iff_false, Bool.not_eq_true, Bool.not_eq_false] at *; omega), rfl, rfl⟩
    | (have hk : k = 6 := by (simp only [inB, List.getD_eq_getElem?_getD, Bool.and_eq_true, Bool.or_eq_true, Bool.and_eq_false_iff, Bool.or_eq_false_iff, Bool.not_eq_true', Bool.not_eq_false', decide_eq_true_eq, decide_eq_false_iff_not, beq_iff_eq, bne_iff_ne, bne_eq_false_iff_eq, beq_eq_false_iff_ne, Bool.false_eq_true, Bool.true_eq_false, ne_eq, true_iff, iff_true, false_iff, iff_false, Bool.not_eq_true, Bool.not_eq_false] at *; omega)
       subst hk; rfl)
noncomputable def workOf (c : ConfM) : Int × Int := if (chk c).1 = 0 then (sumF (fun i => (c.ten i).bud) 6, 0) else (0, (chk c).1)
theorem workOf_err {c : ConfM} (h : ((chk c).1 != 0) = true) : workOf c = (0, (chk c).1) := by
  unfold workOf; rw [if_neg (by simpa using h)]
theorem workOf_ok {c : ConfM} (h : ((chk c).1 != 0) = false) : workOf c = (sumF (fun i => (c.ten i).bud) 6, 0) := by
  unfold workOf; rw [if_pos (by simpa using h)]
theorem bud_bd {c : ConfM} (h : (chk c).1 = 0) (i : Nat) (hi : i < 6) : 0 ≤ (c.ten i).bud ∧ (c.ten i).bud ≤ 64 := by
  have := okT_bud ((chk_ok h).ot i hi); omega
/-- An own list that holds numbers. -/
def Ints (f : Nat → Int) (n : Nat) (el : Nat → List SV) : Prop := ∀ i, i < n → el i = fEl f i
theorem Ints.snoc {f : Nat → Int} {n : Nat} {el : Nat → List SV} (h : Ints f n el) : Ints f (n + 1) (catEl n el (cutEl 1 [ci (f n)])) := fun i hi => by
  unfold catEl
  split
  · rename_i hq; exact h i hq
  · rename_i hq
    have : i = n := by omega
    subst this
    simp [cutEl, fEl]
set_option maxRecDepth 100000 in
set_option maxHeartbeats 4000000 in
theorem Work_d (c : ConfM) (hc : Lim c) : DSpec Try.prog noX [] 17 [.agg (confS c)] [] (fun v O => v = twoR (workOf c) ∧ O = []) := by
  refine dspec_of { ann := [(6, [16, 6])], nils := [(6, [(.slot 6, 3, 1)])] } true Try.func17 (by kernel_rfl) rfl ?_
  repeat' (
      (conv => whnf)
      first
        | exact closedB (by kernel_rfl)
        | refine And.intro ?_ ?_
        | refine splitB_intro ?_ ?_
        | ((refine ⟨fun vs O _ => ∃ (k : Nat) (el : Nat → List SV), k ≤ 6 ∧ Ints (fun i => (c.ten i).bud) k el ∧ vs = [ci k, .lst 1] ∧ O = [.cells 29 (confS c), .list 3 1 k el], fun vs O => match vs with | [.cv (.int _ k), _] => 6 - k.toNat | _ => 0, ⟨0, _, by decide, fun i h => absurd h (by omega), rfl, rfl⟩, ?_⟩; rintro vs O _ ⟨k, el, hk, hn, rfl, rfl⟩; obtain rfl | rfl | rfl | rfl | rfl | rfl | rfl : k = 0 ∨ k = 1 ∨ k = 2 ∨ k = 3 ∨ k = 4 ∨ k = 5 ∨ k = 6 := by omega))
        | (refine ⟨_, Check_d c hc.cl hc.rl, ?_⟩; rintro v O' ⟨rfl, rfl⟩)
        | (refine ⟨_, (total_d (fun i => (c.ten i).bud) (bud_bd (by simpa using (by assumption : ((chk c).1 != 0) = false)))).arg (.cons (.isl hn) .nil), ?_⟩; rintro v O' ⟨rfl, rfl⟩)
        | intro _)
  all_goals first
    | rfl
    | omega
    | (simp only [inB, List.getD_eq_getElem?_getD, Bool.and_eq_true, Bool.or_eq_true, Bool.and_eq_false_iff, Bool.or_eq_false_iff, Bool.not_eq_true', Bool.not_eq_false', decide_eq_true_eq, decide_eq_false_iff_not, beq_iff_eq, bne_iff_ne, bne_eq_false_iff_eq, beq_eq_false_iff_ne, Bool.false_eq_true, Bool.true_eq_false, ne_eq, true_iff, iff_true, false_iff, iff_false, Bool.not_eq_true, Bool.not_eq_false] at *; omega)
    | exact (congrArg twoR (workOf_err (by assumption))).symm
    | exact (congrArg twoR (workOf_ok (by assumption))).symm
    | exact ⟨0 + 1, _, by decide, hn.snoc, rfl, rfl⟩
    | exact ⟨1 + 1, _, by decide, hn.snoc, rfl, rfl⟩
    | exact ⟨2 + 1, _, by decide, hn.snoc, rfl, rfl⟩
    | exact ⟨3 + 1, _, by decide, hn.snoc, rfl, rfl⟩
    | exact ⟨4 + 1, _, by decide, hn.snoc, rfl, rfl⟩
    | exact ⟨5 + 1, _, by decide, hn.snoc, rfl, rfl⟩
theorem rwork_err {c : ConfM} {k : Nat} (hk : k < 6) (hq : ((tenOf c ((k + 1 : Nat) : Int)).2 != 0) = true) : SV.tup [ci 0, ci (tenOf c ((k + 1 : Nat) : Int)).2] = twoR (workOf c) := by
  obtain ⟨h1, h2⟩ := ten_err hq (by ((try (refine congrArg (fun b => SV.cv (CV.bool b)) ?_)); (try rw [Bool.eq_iff_iff]); simp only [inB, List.getD_eq_getElem?_getD, Bool.and_eq_true, Bool.or_eq_true, Bool.and_eq_false_iff, Bool.or_eq_false_iff, Bool.not_eq_true', Bool.not_eq_false', decide_eq_true_eq, decide_eq_false_iff_not, beq_iff_eq, bne_iff_ne, bne_eq_false_iff_eq, beq_eq_false_iff_ne, Bool.false_eq_true, Bool.true_eq_false, ne_eq, true_iff, iff_true, false_iff, iff_false, Bool.not_eq_true, Bool.not_eq_false] at *; first | done | omega))
  rw [h2, workOf_err h1]; rfl
theorem rwork_end {c : ConfM} {k : Nat} (hk : k ≤ 6) (he : 0 < k → (chk c).1 = 0) (h : decide (((k + 1 : Nat) : Int) ≤ 6) = false) : workOf c = (sumF (fun i => (c.ten i).bud) k, 0) := by
  have : k = 6 := by (simp only [inB, List.getD_eq_getElem?_getD, Bool.and_eq_true, Bool.or_eq_true, Bool.and_eq_false_iff, Bool.or_eq_false_iff, Bool.not_eq_true', Bool.not_eq_false', decide_eq_true_eq, decide_eq_false_iff_not, beq_iff_eq, bne_iff_ne, bne_eq_false_iff_eq, beq_eq_false_iff_ne, Bool.false_eq_true, Bool.true_eq_false, ne_eq, true_iff, iff_true, false_iff, iff_false, Bool.not_eq_true, Bool.not_eq_false] at *; omega)
  subst this
  exact workOf_ok (by simpa using he (by decide))
set_option maxRecDepth 100000 in
set_option maxHeartbeats 4000000 in
theorem rWork_d (c : ConfM) (hc : Lim c) : DSpec Try.prog noX [] 18 [.agg (confS c)] [] (fun v O => v = twoR (workOf c) ∧ O = []) := by
  refine dspec_of { ann := [(3, [5, 4])] } true Try.func18 (by kernel_rfl) rfl ?_
  repeat' (
      (conv => whnf)
      first
        | exact closedB (by kernel_rfl)
        | refine And.intro ?_ ?_
        | refine splitB_intro ?_ ?_
        | ((refine ⟨fun vs O _ => ∃ k : Nat, k ≤ 6 ∧ (0 < k → (chk c).1 = 0) ∧ vs = [ci ((k + 1 : Nat) : Int), ci (sumF (fun i => (c.ten i).bud) k)] ∧ O = [.cells 29 (confS c)], fun vs O => match vs with | [.cv (.int _ k), _] => 7 - k.toNat | _ => 0, ⟨0, by decide, fun h => absurd h (by decide), rfl, rfl⟩, ?_⟩; rintro vs O _ ⟨k, hk, he, rfl, rfl⟩))
        | (refine ⟨_, rTenant_d c hc ((k + 1 : Nat) : Int), ?_⟩; rintro v O' ⟨rfl, rfl⟩)
        | intro _)
  all_goals first
    | rfl
    | omega
    | (simp only [inB, List.getD_eq_getElem?_getD, Bool.and_eq_true, Bool.or_eq_true, Bool.and_eq_false_iff, Bool.or_eq_false_iff, Bool.not_eq_true', Bool.not_eq_false', decide_eq_true_eq, decide_eq_false_iff_not, beq_iff_eq, bne_iff_ne, bne_eq_false_iff_eq, beq_eq_false_iff_ne, Bool.false_eq_true, Bool.true_eq_false, ne_eq, true_iff, iff_true, false_iff, iff_false, Bool.not_eq_true, Bool.not_eq_false] at *; omega)
    | (rename_i hq; exact rwork_err (by (simp only [inB, List.getD_eq_getElem?_getD, Bool.and_eq_true, Bool.or_eq_true, Bool.and_eq_false_iff, Bool.or_eq_false_iff, Bool.not_eq_true', Bool.not_eq_false', decide_eq_true_eq, decide_eq_false_iff_not, beq_iff_eq, bne_iff_ne, bne_eq_false_iff_eq, beq_eq_false_iff_ne, Bool.false_eq_true, Bool.true_eq_false, ne_eq, true_iff, iff_true, false_iff, iff_false, Bool.not_eq_true, Bool.not_eq_false] at *; omega)) hq)
    | (rename_i hq; have h0 := (tenOf_ok hq).1; have h1 := ten_at h0 k (by (simp only [inB, List.getD_eq_getElem?_getD, Bool.and_eq_true, Bool.or_eq_true, Bool.and_eq_false_iff, Bool.or_eq_false_iff, Bool.not_eq_true', Bool.not_eq_false', decide_eq_true_eq, decide_eq_false_iff_not, beq_iff_eq, bne_iff_ne, bne_eq_false_iff_eq, beq_eq_false_iff_ne, Bool.false_eq_true, Bool.true_eq_false, ne_eq, true_iff, iff_true, false_iff, iff_false, Bool.not_eq_true, Bool.not_eq_false] at *; omega)); rw [show ((k + 1 : Nat) : Int) = (k : Int) + 1 from rfl, h1]; have h2 := sumF_bd (f := fun i => (c.ten i).bud) (bud_bd h0) k hk; have h3 := bud_bd h0 k (by (simp only [inB, List.getD_eq_getElem?_getD, Bool.and_eq_true, Bool.or_eq_true, Bool.and_eq_false_iff, Bool.or_eq_false_iff, Bool.not_eq_true', Bool.not_eq_false', decide_eq_true_eq, decide_eq_false_iff_not, beq_iff_eq, bne_iff_ne, bne_eq_false_iff_eq, beq_eq_false_iff_ne, Bool.false_eq_true, Bool.true_eq_false, ne_eq, true_iff, iff_true, false_iff, iff_false, Bool.not_eq_true, Bool.not_eq_false] at *; omega)); dsimp only; omega)
    | (rename_i hq; have h0 := (tenOf_ok hq).1; exact ⟨k + 1, by (simp only [inB, List.getD_eq_getElem?_getD, Bool.and_eq_true, Bool.or_eq_true, Bool.and_eq_false_iff, Bool.or_eq_false_iff, Bool.not_eq_true', Bool.not_eq_false', decide_eq_true_eq, decide_eq_false_iff_not, beq_iff_eq, bne_iff_ne, bne_eq_false_iff_eq, beq_eq_false_iff_ne, Bool.false_eq_true, Bool.true_eq_false, ne_eq, true_iff, iff_true, false_iff, iff_false, Bool.not_eq_true, Bool.not_eq_false] at *; omega), fun _ => h0, by have h1 := ten_at h0 k (by (simp only [inB, List.getD_eq_getElem?_getD, Bool.and_eq_true, Bool.or_eq_true, Bool.and_eq_false_iff, Bool.or_eq_false_iff, Bool.not_eq_true', Bool.not_eq_false', decide_eq_true_eq, decide_eq_false_iff_not, beq_iff_eq, bne_iff_ne, bne_eq_false_iff_eq, beq_eq_false_iff_ne, Bool.false_eq_true, Bool.true_eq_false, ne_eq, true_iff, iff_true, false_iff, iff_false, Bool.not_eq_true, Bool.not_eq_false] at *; omega)); rw [show ((k + 1 : Nat) : Int) = (k : Int) + 1 from rfl, h1]; rfl, rfl⟩)
    | exact (congrArg twoR (rwork_end hk he (by assumption))).symm
set_option maxRecDepth 100000 in
theorem LightConfig_d (c : ConfM) (hc : Lim c) : DSpec Try.prog noX [] 5 [.agg (confS c)] [] (fun v O => v = cb (decide ((c.cl.length : Int) ≤ 12) && decide ((c.rl.length : Int) ≤ 12)) ∧ O = []) := by
  refine dspec_of {} true Try.func5 (by kernel_rfl) rfl ?_
  repeat' (
      (conv => whnf)
      first
        | exact closedB (by kernel_rfl)
        | refine And.intro ?_ ?_
        | refine splitB_intro ?_ ?_
        | intro _)
  all_goals first
    | rfl
    | (simp only [*]; rfl)
end Go.Proofs.Ytfbdhfkkgmbfpaa
