/-
  VariantKnown: closed facts of the program, each by itself (f). Conditions: none.
-/
import Derived.Test.YtelgaffeihgffaaGreatDoorCards
import Derived.ProofKit
import Derived.JoinedOf
import Derived.SevenTiedAt
import Derived.KernelRfl
set_option linter.unusedSimpArgs false
set_option linter.unusedVariables false
namespace Go.Proofs.YtelgaffeihgffaaGreatDoor
open Go Go.RowKit
theorem variantKnown_noGoes {P : Program} (h : P.funcs.any Func.goes = false) (f : FuncId) : P.goes f = false := by
  have h1 : ∀ g : FuncId, (P.funcs[g]?).any Func.goes = false := by
    intro g
    cases hq : P.funcs[g]? with
    | none => rfl
    | some x =>
      obtain ⟨hi, rfl⟩ := Array.getElem?_eq_some_iff.1 hq
      have := Array.any_eq_false.1 h g hi
      simpa using this
  unfold Program.goes
  rw [h, Bool.and_false, Bool.or_false, List.any_eq_false]
  intro g _
  simp [h1 g]
theorem variantKnown_noGoesBy {P : Program} (h : P.funcs.any Func.goes = false) (c : OpenClaim) : false = c.goesBy P := by
  have h := variantKnown_noGoes h
  symm
  unfold OpenClaim.goesBy Program.goesAt Program.goesFrom
  rw [Bool.or_eq_false_iff]
  constructor
  · cases P.funcNamed c.func with
    | none => rfl
    | some f => exact h f
  · split
    · rfl
    · rw [List.any_eq_false]
      intro g _
      simp [h g]
theorem variantKnown_none : Tryz.prog.funcs.any Func.goes = false := by kernel_rfl
theorem variantKnown_goes : false = Rows.variantKnownRow.goesBy Tryz.prog := variantKnown_noGoesBy variantKnown_none _
end Go.Proofs.YtelgaffeihgffaaGreatDoor
