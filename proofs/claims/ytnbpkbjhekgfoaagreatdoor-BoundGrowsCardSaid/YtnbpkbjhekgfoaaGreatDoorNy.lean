import Derived.Test.YtnbpkbjhekgfoaaGreatDoorNa
import Derived.Test.YtnbpkbjhekgfoaaGreatDoorGi
set_option linter.unusedSimpArgs false
set_option linter.unusedVariables false
namespace Go.Proofs.YtnbpkbjhekgfoaaGreatDoor
open Go Go.Cx
set_option maxRecDepth 1000000 in
theorem bk_run : isTrue (runF Tryz.prog (fun _ => none) 1000000 (.call 4 [] (mem0 64 []))) = true := by kernel_rfl
theorem bk_mixed : Tryz.prog.follows .mixedOrders = true := by kernel_rfl
theorem bk_ok : ExtOk Tryz.prog bkX := by
 intro f g hf m args v hv
 unfold bkX at hf
 split at hf
 ·rename_i hq
  have hq : f = 4 := Nat.eq_of_beq_eq_true hq
  subst hq
  cases hf
  cases args with
  | cons x r => cases hv
  | nil =>
   cases hv
   refine ⟨fun vs w => callFunc_ok Tryz.func4 rfl (by kernel_rfl) vs w, fun e vs w hvs _ _ => ?_⟩
   have : vs = [] := by simpa [denL] using hvs.symm
   subst this
   exact ⟨.bool true, rfl, closed_calls (P := Tryz.prog) (X := fun _ => none) (n := 1000000) (f := 4) (l := []) (bs := []) (k := 64) (W := w) noExt bk_mixed rfl bk_run (rowsOk_nil w [])⟩
 ·cases hf
end Go.Proofs.YtnbpkbjhekgfoaaGreatDoor
