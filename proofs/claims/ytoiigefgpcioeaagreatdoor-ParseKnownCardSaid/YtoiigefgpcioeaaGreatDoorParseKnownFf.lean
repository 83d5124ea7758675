/-
  ParseKnown: closed facts of the program, each by itself (f). Conditions: none.
-/
import Derived.Test.YtoiigefgpcioeaaGreatDoorCards
import Derived.ProofKit
import Derived.JoinedOf
import Derived.SevenTiedAt
import Derived.KernelRfl
set_option linter.unusedSimpArgs false
set_option linter.unusedVariables false
namespace Go.Proofs.YtoiigefgpcioeaaGreatDoor
open Go Go.RowKit
theorem parseKnown_noGoes {P : Program} (h : P.funcs.any Func.goes = false) (f : FuncId) : P.goes f = false := by
  have h1 : ∀ g : FuncId, (P.funcs[g]?).any Func.goes = false := by
    intro g
    cases hq : P.funcs[g]? with
    | none => rfl
    | some x =>
      obtain ⟨hi, rfl⟩ := Array.getElem?_eq_some_iff.1 hq
      have := Array.any_eq_false.1 h g hi
      simpa using this
  unfold Program.goes
  rw [h, Bool.and_false, Bool.or_false, List.any_eq_false]
  intro g _
  simp [h1 g]
theorem parseKnown_noGoesBy {P : Program} (h : P.funcs.any Func.goes = false) (c : OpenClaim) : false = c.goesBy P := by
  have h := parseKnown_noGoes h
  symm
  unfold OpenClaim.goesBy Program.goesAt Program.goesFrom
  rw [Bool.or_eq_false_iff]
  constructor
  · cases P.funcNamed c.func with
    | none => rfl
    | some f => exact h f
  · split
    · rfl
    · rw [List.any_eq_false]
      intro g _
      simp [h g]
theorem parseKnown_none : Tryz.prog.funcs.any Func.goes = false := by kernel_rfl
theorem parseKnown_goes : false = Rows.parseKnownRow.goesBy Tryz.prog := parseKnown_noGoesBy parseKnown_none _
end Go.Proofs.YtoiigefgpcioeaaGreatDoor
