import Derived.Test.YtnbpkbjhekgfoaaGreatDoorNc
set_option linter.unusedSimpArgs false
set_option linter.unusedVariables false
namespace Go.Proofs.YtnbpkbjhekgfoaaGreatDoor
open Go Go.Cx
theorem seenB_yes {l : List ClsM} {n k : Nat} {x : Int} (hk : k < n) (hn : n ≤ l.length) (h : (l.getD k default).lab = x) : seenB l n x = true := by
 unfold seenB
 rw [List.any_eq_true]
 refine ⟨l.getD k default, ?_, by simpa using h⟩
 rw [List.mem_iff_getElem?]
 exact ⟨k, by rw [List.getElem?_take_of_lt hk, List.getD_eq_getElem?_getD, List.getElem?_eq_getElem (by omega)]; rfl⟩
theorem seenB_no {l : List ClsM} {n : Nat} {x : Int} (hn : n ≤ l.length) (h : ∀ k, k < n → (l.getD k default).lab ≠ x) : seenB l n x = false := by
 unfold seenB
 rw [Bool.eq_false_iff, Ne, List.any_eq_true]
 rintro ⟨y, hy, hq⟩
 obtain ⟨k, hk⟩ := List.mem_iff_getElem?.1 hy
 have hlt : k < n := by
  have := (List.getElem?_eq_some_iff.1 hk).1
  rw [List.length_take] at this; omega
 rw [List.getElem?_take_of_lt hlt] at hk
 exact h k hlt (by rw [List.getD_eq_getElem?_getD, hk]; simpa using hq)
theorem errC_new {l : List ClsM} {i : Nat} (h : okC (l.getD i default) = true) (hs : seenB l i (l.getD i default).lab = false) : errC l i = 0 := by
 unfold errC; rw [h, hs]; rfl
end Go.Proofs.YtnbpkbjhekgfoaaGreatDoor
