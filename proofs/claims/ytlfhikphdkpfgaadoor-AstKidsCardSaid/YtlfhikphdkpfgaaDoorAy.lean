import Derived.Test.YtlfhikphdkpfgaaDoorAb
import Derived.Test.YtlfhikphdkpfgaaDoorGi
set_option linter.unusedSimpArgs false
set_option linter.unusedVariables false
namespace Go.Proofs.YtlfhikphdkpfgaaDoor
open Go Go.Cx
set_option maxRecDepth 1000000 in
theorem zxt : zoN (zxP Tryd.prog (fun _ => none) 1000000 (.call 29 [] (zi6 64 []))) = true := by kernel_rfl
theorem zt1 : Tryd.prog.follows .mixedOrders = true := by kernel_rfl
theorem zwc : zp1 Tryd.prog axX := by
 intro f g hf m args v hv
 have hq : axA f = true := by
  cases h : axA f with
  | true => rfl
  | false => simp [axX, h] at hf
 have hg : g = axT := by simp [axX, hq] at hf; exact hf.symm
 subst hg
 unfold axA at hq
 have hq : f = 29 := Nat.eq_of_beq_eq_true hq
 subst hq
 cases args with
 | cons x r => cases hv
 | nil =>
  cases hv
  refine ⟨fun vs w => zdi Tryd.func29 rfl (by kernel_rfl) vs w, fun e vs w hvs _ _ => ?_⟩
  have : vs = [] := by simpa [denL] using hvs.symm
  subst this
  exact ⟨.bool true, rfl, zmM (P := Tryd.prog) (X := fun _ => none) (n := 1000000) (f := 29) (l := []) (bs := []) (k := 64) (W := w) zx7 zt1 rfl zxt (zqM w [])⟩
end Go.Proofs.YtlfhikphdkpfgaaDoor
