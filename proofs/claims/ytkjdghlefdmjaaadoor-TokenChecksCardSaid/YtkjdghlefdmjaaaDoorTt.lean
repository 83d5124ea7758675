import Derived.Test.YtkjdghlefdmjaaaDoorTa
import Derived.Test.YtkjdghlefdmjaaaDoorAz
import Derived.Test.YtkjdghlefdmjaaaDoorGh
import Derived.Test.YtkjdghlefdmjaaaDoorProg
import Derived.KernelRfl
set_option linter.unusedSimpArgs false
set_option linter.unusedVariables false
set_option maxRecDepth 100000
namespace Go.Proofs.YtkjdghlefdmjaaaDoor
open Go Go.Cx
section
variable {H : Type}
theorem three_of {A : Type} {l : List A} (h : l.length = 3) : ∃ a b c, l = [a, b, c] := by
 match l, h with
 | [a, b, c], _ => exact ⟨a, b, c, rfl⟩
theorem open_tok (n : Nat) (d : DataW H) (h : wfD Tryd.prog n 32 d) : ∃ c : Tok, svD Tryd.prog n 32 d = tokS c := by
 obtain ⟨m, parts, _, _, hl, hp, hs⟩ := wf_struct Tryd.underlying32 h
 obtain ⟨a, b, c, rfl⟩ := three_of hl
 obtain ⟨x0, _, _, s0⟩ := wf_int Tryd.underlying3 (hp 0 _ _ rfl rfl)
 obtain ⟨x1, _, _, s1⟩ := wf_str Tryd.underlying9 (hp 1 _ _ rfl rfl)
 obtain ⟨x2, _, _, s2⟩ := wf_int Tryd.underlying3 (hp 2 _ _ rfl rfl)
 refine ⟨⟨x0, x1.map UInt8.toNat, x2⟩, ?_⟩
 rw [hs]
 show svD _ _ _ _ ++ (svD _ _ _ _ ++ (svD _ _ _ _ ++ [])) = _
 rw [s0, s1, s2]; rfl
theorem open_toks (n : Nat) (d : DataW H) (h : wfD Tryd.prog n 22 d) : ∃ (c : List Tok) (w : SV), c.length ≤ maxLen ∧ svD Tryd.prog n 22 d = [w] ∧ Same w (.isl 3 c.length (elF tokS c)) := by
 obtain ⟨cl, l0, v0, s0, e0⟩ := wf_slice_words (g := tokS) Tryd.underlying22 h open_tok
 rw [show Tryd.prog.cellsOf 32 = 3 by kernel_rfl] at e0
 exact ⟨cl, v0, l0, s0, e0⟩
end
end Go.Proofs.YtkjdghlefdmjaaaDoor
