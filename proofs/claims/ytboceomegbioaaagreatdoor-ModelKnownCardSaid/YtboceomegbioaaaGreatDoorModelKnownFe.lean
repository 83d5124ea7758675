/-
  ModelKnown: closed facts of the program, each by itself (e). Conditions: none.
-/
import Derived.Test.YtboceomegbioaaaGreatDoorCards
import Derived.ProofKit
import Derived.JoinedOf
import Derived.SevenTiedAt
import Derived.KernelRfl
set_option linter.unusedSimpArgs false
set_option linter.unusedVariables false
namespace Go.Proofs.YtboceomegbioaaaGreatDoor
open Go Go.RowKit
theorem modelKnown_main : Tryz.prog.mainIs = some (true, "1bc2a57ff770a91f1d700b7f1a55e4484559f5356f2437cf8403f2ff1159f4cf".toList) := by kernel_rfl
theorem modelKnown_looks : true = Tryz.prog.looks [] := by kernel_rfl
end Go.Proofs.YtboceomegbioaaaGreatDoor
