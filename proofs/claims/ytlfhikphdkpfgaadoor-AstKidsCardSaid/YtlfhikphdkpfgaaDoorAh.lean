import Derived.Test.YtlfhikphdkpfgaaDoorAg
set_option linter.unusedSimpArgs false
set_option linter.unusedVariables false
set_option maxRecDepth 100000
namespace Go.Proofs.YtlfhikphdkpfgaaDoor
open Go Go.Cx
noncomputable def inU (l : List (List Nat)) (x : List Nat) : Bool := l.any fun y => zaV x y
noncomputable def zyQ (l : List (List Nat)) (x : List Nat) : List (List Nat) := bif inU l x then l else l ++ [x]
def SeenS (l : List (List Nat)) (f : CV -> Option SV) : Prop := ∀ x, f (.str x) = if inU l x then some (ab true) else none
theorem SeenS.mapB {l : List (List Nat)} {f : CV -> Option SV} (h : SeenS l f) (x : List Nat) : mapB f (.str x) = inU l x := by
 unfold Go.Cx.mapB
 rw [h x]
 cases inU l x <;> rfl
theorem zhg (l : List (List Nat)) (x y : List Nat) : inU (l ++ [y]) x = (inU l x || zaV x y) := by
 unfold inU; rw [List.any_append]; simp
theorem SeenS.step {l : List (List Nat)} {f : CV -> Option SV} (h : SeenS l f) (x : List Nat) : SeenS (l ++ [x]) (zqS (.str x) (ab true) f) := fun y => by
 unfold zqS
 rw [zhg, h y]
 show (match zaV y x with | true => _ | false => _) = _
 cases zaV y x <;> simp
theorem SeenS.add {l : List (List Nat)} {f : CV -> Option SV} (h : SeenS l f) (x : List Nat) (hx : (!Go.Cx.mapB f (.str x)) = true) : SeenS (zyQ l x) (zqS (.str x) (ab true) f) := by
 rw [h.mapB] at hx
 unfold zyQ
 rw [Bool.not_eq_true'] at hx
 rw [hx]
 exact h.step x
end Go.Proofs.YtlfhikphdkpfgaaDoor
