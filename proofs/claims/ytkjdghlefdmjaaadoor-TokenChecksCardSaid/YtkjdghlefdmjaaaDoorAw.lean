import Derived.Test.YtkjdghlefdmjaaaDoorAx
import Derived.Test.YtkjdghlefdmjaaaDoorLs
import Derived.Test.YtkjdghlefdmjaaaDoorGi
set_option linter.unusedSimpArgs false
set_option linter.unusedVariables false
namespace Go.Proofs.YtkjdghlefdmjaaaDoor
open Go Go.Cx
theorem ax_mixed : Tryd.prog.follows .mixedOrders = true := by kernel_rfl
theorem awake_ext {P : Program} {f : FuncId} (hm : P.follows .mixedOrders = true) (he : ∀ vs w, (callFunc f vs).run P w = .ok (.enter f vs) w) (hr : isTrue (runF P (fun _ => none) 1000000 (.call f [] (mem0 64 []))) = true) : Ext2 P f axT := by
 intro m args v hv
 cases args with
 | cons x r => cases hv
 | nil =>
  cases hv
  refine ⟨he, fun e vs w hvs _ _ => ?_⟩
  have : vs = [] := by simpa [denL] using hvs.symm
  subst this
  exact (closed_calls (P := P) (X := fun _ => none) (n := 1000000) (f := f) (l := []) (bs := []) (k := 64) (W := w) noExt hm rfl hr (rowsOk_nil w [])).mono fun en w' ⟨h1, h2⟩ => ⟨⟨e, .bool true, fun _ _ => rfl, rfl, h1⟩, h2⟩
set_option maxRecDepth 1000000 in theorem aw7_run : isTrue (runF Tryd.prog (fun _ => none) 1000000 (.call 5 [] (mem0 64 []))) = true := by kernel_rfl
theorem aw7 : ∀ f, axA7 f = true → Ext2 Tryd.prog f axT := fun f h => by have h := Nat.eq_of_beq_eq_true h; subst h; exact awake_ext ax_mixed (fun vs w => callFunc_ok Tryd.func5 rfl (by kernel_rfl) vs w) aw7_run
theorem aw8 : ∀ f, axA8 f = true → Ext2 Tryd.prog f axT := fun f h => by cases h
theorem aw9 : ∀ f, axA9 f = true → Ext2 Tryd.prog f axT := fun f h => by cases h
theorem axJ_ok : ∀ f, axJ f = true → Ext2 Tryd.prog f joinC := fun f h => by have h := Nat.eq_of_beq_eq_true h; subst h; exact Ext1.to (joinC_ok (ρ := ren) lays156 layX (fun l w => callFunc_ok Tryd.func16 rfl (by kernel_rfl) l w))
theorem axP_ok : ∀ f, axP f = true → Ext2 Tryd.prog f axPC := fun f h => by have h := Nat.eq_of_beq_eq_true h; subst h; exact parseC_ok (ρ := renP) lays174 (by decide) (fun l w => callFunc_ok Tryd.func19 rfl (by kernel_rfl) l w)
theorem ax_ok : ExtOk Tryd.prog axX := by
 intro f g hf
 have hA : ∀ f, axA f = true → Ext2 Tryd.prog f axT := fun f h => by
  unfold axA at h
  rcases Bool.or_eq_true _ _ ▸ h with h | h
  ·exact aw7 f h
  ·rcases Bool.or_eq_true _ _ ▸ h with h | h
   ·exact aw8 f h
   ·exact aw9 f h
 unfold axX at hf
 split at hf
 ·rename_i h; cases hf; exact hA f h
 ·split at hf
  ·rename_i h; cases hf; exact axJ_ok f h
  ·split at hf
   ·rename_i h; cases hf; exact axP_ok f h
   ·cases hf
end Go.Proofs.YtkjdghlefdmjaaaDoor
