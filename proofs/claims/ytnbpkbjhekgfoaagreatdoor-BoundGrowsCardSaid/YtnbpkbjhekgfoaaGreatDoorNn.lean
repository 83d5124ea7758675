import Derived.Test.YtnbpkbjhekgfoaaGreatDoorNl
import Derived.Test.YtnbpkbjhekgfoaaGreatDoorNd
set_option linter.unusedSimpArgs false
set_option linter.unusedVariables false
namespace Go.Proofs.YtnbpkbjhekgfoaaGreatDoor
open Go Go.Cx
def LEl {A : Type} [Inhabited A] (g : A → List SV) (l : List A) (n : Nat) (el : Nat → List SV) : Prop := n = l.length ∧ ∀ i, i < n → el i = g (l.getD i default)
theorem LEl.nil {A : Type} [Inhabited A] {g : A → List SV} : LEl g [] 0 fun _ => [] := ⟨rfl, fun i h => absurd h (by omega)⟩
theorem LEl.snoc {A : Type} [Inhabited A] {g : A → List SV} {l : List A} {n sz : Nat} {el : Nat → List SV} {x : A} {cs : List SV} (h : LEl g l n el) (hc : cs = g x) (hl : cs.length = sz) : LEl g (l ++ [x]) (n + 1) (catEl n el (cutEl sz cs)) := by
 obtain ⟨rfl, h⟩ := h
 refine ⟨by simp, fun i hi => ?_⟩
 unfold catEl
 split
 ·rename_i hq
  rw [h i hq, List.getD_eq_getElem?_getD, List.getD_eq_getElem?_getD, List.getElem?_append_left hq]
 ·have : i = l.length := by omega
  subst this
  rw [← hl]
  simp [cutEl, ← hc]
theorem filt_in {A : Type} [Inhabited A] {p : A → Bool} {l : List A} {k : Nat} (hk : k < l.length) (h : p (l.getD k default) = true) : (l.take (k + 1)).filter p = (l.take k).filter p ++ [l.getD k default] := by
 rw [List.getD_eq_getElem?_getD, List.getElem?_eq_getElem hk] at h ⊢
 rw [List.take_add_one, List.getElem?_eq_getElem hk, List.filter_append]
 simp only [Option.getD_some] at h ⊢
 simp [h]
theorem filt_out {A : Type} [Inhabited A] {p : A → Bool} {l : List A} {k : Nat} (hk : k < l.length) (h : p (l.getD k default) = false) : (l.take (k + 1)).filter p = (l.take k).filter p := by
 rw [List.getD_eq_getElem?_getD, List.getElem?_eq_getElem hk] at h
 rw [List.take_add_one, List.getElem?_eq_getElem hk, List.filter_append]
 simp only [Option.getD_some] at h
 simp [h]
end Go.Proofs.YtnbpkbjhekgfoaaGreatDoor
