/-
  The law WellformedKnown answers true. Conditions: the listed package variable holds what the program's text lays (tied by the card).
-/
import Derived.Test.YtpgbihleidcdkaaDoorWa
import Derived.Test.YtpgbihleidcdkaaDoorCards
import Derived.Test.YtpgbihleidcdkaaDoorTie
import Derived.ProofKit
import Derived.LaidLaws
import Derived.Handed
import Derived.SevenTiedAt
set_option linter.unusedSimpArgs false
set_option linter.unusedVariables false
namespace Go.Proofs.YtpgbihleidcdkaaDoor
open Go Go.Cx Go.ChangeShapes Go.WideShapes Go.ChangeAt Go.RowKit

theorem Tryd.own : ownKnob Tryd.prog.godebug = none := by kernel_rfl
theorem Tryd.mixed : Tryd.prog.follows .mixedOrders = true := by kernel_rfl

theorem rowsWK_ok {W : World} (h : laidMet Tryd.prog Rows.wellformedKnownRow.laid W) : RowsOk W rowsWK := by
  refine rowsOk_cons (by decide) (by kernel_rfl) ?_ (rowsOk_nil W)
  refine row_strings (P := Tryd.prog) (n := "partywall/ast.names") (t := 172) (e := 9) (k := 6) (by kernel_rfl) (by kernel_rfl) (by kernel_rfl) (by kernel_rfl) (by kernel_rfl) (by kernel_rfl) ?_
  exact Lib.laidMet.reads h (.head _)

noncomputable def laidWK (os : Os) : World :=
  let w0 := World.holding Tryd.prog os ⟨#[], #[], []⟩
  { w0 with heap := w0.heap.modify 3 fun
      | .cells _ t frozen => .cells ([[99, 111, 117, 110, 116], [115, 117, 109], [109, 105, 110], [109, 97, 120], [102, 105, 114, 115, 116], [108, 97, 115, 116]].map fun (s : List UInt8) => Value.string ⟨s.toArray⟩).toArray t frozen
      | o => o }
theorem laidWK_met (os : Os) (args : Array Value) : laidMet Tryd.prog Rows.wellformedKnownRow.laid ((laidWK os).forCall (fun _ _ => 0) ⟨#[], args, []⟩).memory :=
  laidMet_of_run' 8 (by kernel_rfl) (by kernel_rfl)

set_option maxRecDepth 100000 in
theorem wellformedKnown_lifted (os : Os) (started : os.Started) (H : Type) (enc : TypeId × Value → H) :
    ReturnsInHanded {} Tryd.checked os 3 .any (fun w args => (Rows.wellformedKnownSpec.pre enc Tryd.prog Tryd.f3 Rows.wellformedKnownRow.domain false w args ∧ laidMet Tryd.prog Rows.wellformedKnownRow.laid w) ∧ sizedMet enc Tryd.prog Tryd.f3 (OpenSpec.ofChange Rows.wellformedKnownSpec) false w args)
      (Rows.wellformedKnownSpec.post enc Tryd.prog Tryd.f3 false true false false) := by
  refine returnsInHanded_of_change_and (C := Tryd.checked) (X := fun w _ => laidMet Tryd.prog Rows.wellformedKnownRow.laid w) (fun _ _ _ hh h => h.of_heap hh) Tryd.own started (by kernel_rfl) Tryd.func3
    (ChangeSpec.witness_at (enc := enc) (C := Tryd.checked) (os := os) (X := fun w _ => laidMet Tryd.prog Rows.wellformedKnownRow.laid w) false (laidWK os) #[] 8 rfl (by kernel_rfl) (by kernel_rfl) (by kernel_rfl) (by kernel_rfl) (by kernel_rfl) (laidWK_met os _)) ?_
  intro W base args ds gs before hval0 hW _ _ hL _
  have hW' := hW
  obtain ⟨p, q, hA0, hV, rfl, hfz, hnd⟩ := hW
  have hA : DataW.TrodAll enc Tryd.prog W 0 (fun _ => true) true Tryd.f3.params.toList args.toList ds p := hA0
  rw [Tryd.params3] at hA
  obtain ⟨rfl, rfl, rfl⟩ := trodAll_none hA
  obtain ⟨rfl, rfl⟩ := trodVars_none hV
  refine (closed_calls noExt Tryd.mixed wellformedKnown_run (rowsWK_ok hL)).mono fun e W' ⟨he, hw⟩ => ?_
  subst he
  exact ⟨_, rfl, _, _, _, [], [], [], hW', trodAll_mk1 (shut_bool Tryd.underlying4 true), rfl, rfl, hw.frame _, fun h => by cases h⟩

theorem wellformedKnown_row : Rows.WellformedKnownSaid :=
  OpenClaim.holds_of_wide 3 Tryd.f3 rfl rfl rfl rfl rfl rfl rfl ⟨rfl, rfl, rfl, rfl, rfl⟩ rfl rfl rfl rfl rfl (by kernel_rfl) Tryd.func3 (by kernel_rfl)
    (of_decide_eq_true (by kernel_rfl)) (by unfold Func.isWrapper; first | (rw [if_pos (by decide +kernel)]; kernel_rfl) | (rw [if_neg (by decide +kernel)]; exact ⟨rfl, rfl⟩))
    (fun os started H enc _ => wellformedKnown_lifted os started H enc)

theorem wellformedKnown_card : Rows.WellformedKnownCardSaid :=
  Claim7.holds_tied_plain_at .later [] [.widerDeep] true (true, "9b85ce0b14b4e8076a14ee56b20cbdbc2595dc95beec87a9f2d6343fa2059733") true
    wellformedKnown_row (fun _ h => by cases h) (by kernel_rfl) (fun _ h => by cases h) wellformedKnown_row_tie rfl ⟨rfl, rfl⟩ (by kernel_rfl) rfl
    (fun f fn hf hfn => by
      obtain rfl : f = 3 := Option.some.inj ((show Tryd.prog.funcNamed "partywall/partywalllaw10.WellformedKnown" = some 3 by kernel_rfl).symm.trans hf) |>.symm
      obtain rfl : fn = Tryd.f3 := (Option.some.inj (Tryd.func3.symm.trans hfn)).symm
      exact ⟨by kernel_rfl, fun j t ht => by
        rw [Tryd.params3] at ht
        simp at ht⟩)
    (by kernel_rfl)
#print axioms wellformedKnown_card
end Go.Proofs.YtpgbihleidcdkaaDoor
