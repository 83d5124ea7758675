/-
  The law TokenReads: its walk.
-/
import Derived.Test.YtdpoebadaomfgaaKi
set_option linter.unusedSimpArgs false
set_option linter.unusedVariables false
namespace Go.Proofs.Ytdpoebadaomfgaa
open Go Go.Pw

set_option maxHeartbeats 4000000 in
set_option maxRecDepth 10000 in
theorem TokenReads_c (s : List UInt8) (x : Int) (h : Hp) : CSpec Try.prog 4 [.str s, .int .i64 x] [] h (fun sv o h' => sv = .bexp true ∧ h' = h) := by
  by_cases hl : s.length ≤ 300 ∨ (400 < s.length ∧ s.length ≤ 450)
  · by_cases he : (toks s).2.err = 0
    ·
      refine spec_of_swpF {} Try.func4 (enters_of Try.func4 (by kernel_rfl) rfl) rfl ?_
      repeat' (
          (conv => whnf)
          first
            | exact closedB (by kernel_rfl)
            | refine And.intro ?_ ?_
            | (refine ⟨_, Tokens_ok s he _, ?_⟩; rintro sv o' h' _ ⟨rfl, rfl, rfl⟩)
            | (refine ⟨_, TokensR_ok s he _, ?_⟩; rintro sv o' h' _ ⟨rfl, rfl, rfl⟩)
            | (refine ⟨_, next_c s x (by omega) _, ?_⟩; rintro sv o' h' _ ⟨rfl, rfl, rfl⟩)
            | (refine ⟨_, next_r s x (by omega) _, ?_⟩; rintro sv o' h' _ ⟨rfl, rfl, rfl⟩)
            | (refine ⟨_, equal_ll (toks s).1 (toks s).1 (toks_len s) _, ?_⟩; rintro sv o' h' _ ⟨rfl, rfl, rfl⟩)
            | (refine ⟨_, Word_c s _, ?_⟩; rintro sv o' h' _ ⟨rfl, rfl, rfl⟩)
            | (refine ⟨_, Word_r s _, ?_⟩; rintro sv o' h' _ ⟨rfl, rfl, rfl⟩)
            | (refine ⟨_, awake_c _, ?_⟩; rintro sv o' h' _ ⟨rfl, rfl, rfl⟩)
            | intro _)
      all_goals (try simp only [Bool.and_eq_true, Bool.or_eq_true, Bool.not_eq_true', Bool.not_eq_false', decide_eq_true_eq, decide_eq_false_iff_not, beq_iff_eq, bne_iff_ne, bne_eq_false_iff_eq, beq_eq_false_iff_ne, Bool.false_eq_true, Bool.true_eq_false, ne_eq] at *)
      all_goals first
        | rfl
        | omega
        | (exfalso; simp at *; done)
        | (exfalso; omega)
    ·
      refine spec_of_swpF {} Try.func4 (enters_of Try.func4 (by kernel_rfl) rfl) rfl ?_
      repeat' (
          (conv => whnf)
          first
            | exact closedB (by kernel_rfl)
            | refine And.intro ?_ ?_
            | (refine ⟨_, Tokens_bad s (by omega) he _, ?_⟩; rintro sv o' h' _ ⟨rfl, rfl, rfl⟩)
            | (refine ⟨_, TokensR_bad s (by omega) he _, ?_⟩; rintro sv o' h' _ ⟨rfl, rfl, rfl⟩)
            | (refine ⟨_, next_c s x (by omega) _, ?_⟩; rintro sv o' h' _ ⟨rfl, rfl, rfl⟩)
            | (refine ⟨_, next_r s x (by omega) _, ?_⟩; rintro sv o' h' _ ⟨rfl, rfl, rfl⟩)
            | (refine ⟨_, equal_nn _, ?_⟩; rintro sv o' h' _ ⟨rfl, rfl, rfl⟩)
            | (refine ⟨_, Word_c s _, ?_⟩; rintro sv o' h' _ ⟨rfl, rfl, rfl⟩)
            | (refine ⟨_, Word_r s _, ?_⟩; rintro sv o' h' _ ⟨rfl, rfl, rfl⟩)
            | (refine ⟨_, awake_c _, ?_⟩; rintro sv o' h' _ ⟨rfl, rfl, rfl⟩)
            | intro _)
      all_goals (try simp only [Bool.and_eq_true, Bool.or_eq_true, Bool.not_eq_true', Bool.not_eq_false', decide_eq_true_eq, decide_eq_false_iff_not, beq_iff_eq, bne_iff_ne, bne_eq_false_iff_eq, beq_eq_false_iff_ne, Bool.false_eq_true, Bool.true_eq_false, ne_eq] at *)
      all_goals first
        | rfl
        | omega
        | (exfalso; simp at *; done)
        | (exfalso; omega)
  ·
    refine spec_of_swpF {} Try.func4 (enters_of Try.func4 (by kernel_rfl) rfl) rfl ?_
    repeat' (
        (conv => whnf)
        first
          | exact closedB (by kernel_rfl)
          | refine And.intro ?_ ?_
          | (refine ⟨_, awake_c _, ?_⟩; rintro sv o' h' _ ⟨rfl, rfl, rfl⟩)
          | intro _)
    all_goals (try simp only [Bool.and_eq_true, Bool.or_eq_true, Bool.not_eq_true', Bool.not_eq_false', decide_eq_true_eq, decide_eq_false_iff_not, beq_iff_eq, bne_iff_ne, bne_eq_false_iff_eq, beq_eq_false_iff_ne, Bool.false_eq_true, Bool.true_eq_false, ne_eq] at *)
    all_goals first
      | rfl
      | omega
      | (exfalso; simp at *; omega)
end Go.Proofs.Ytdpoebadaomfgaa
