/-
  WellformedFew: the kernel runs it, with numbers of which the rests alone are known: 9 by each rest of 9.
-/
import Derived.Test.YtpgbihleidcdkaaDoorWf
set_option linter.unusedSimpArgs false
set_option linter.unusedVariables false
namespace Go.Proofs.YtpgbihleidcdkaaDoor
open Go Go.Cx
set_option maxRecDepth 1000000 in
theorem few_9_0 (a b : Int) (h : a.emod (14 : Nat) = (9 : Nat)) (h' : b.emod (9 : Nat) = (0 : Nat)) : fewRun a b 9 0 h h' = true := by kernel_rfl
set_option maxRecDepth 1000000 in
theorem few_9_1 (a b : Int) (h : a.emod (14 : Nat) = (9 : Nat)) (h' : b.emod (9 : Nat) = (1 : Nat)) : fewRun a b 9 1 h h' = true := by kernel_rfl
set_option maxRecDepth 1000000 in
theorem few_9_2 (a b : Int) (h : a.emod (14 : Nat) = (9 : Nat)) (h' : b.emod (9 : Nat) = (2 : Nat)) : fewRun a b 9 2 h h' = true := by kernel_rfl
set_option maxRecDepth 1000000 in
theorem few_9_3 (a b : Int) (h : a.emod (14 : Nat) = (9 : Nat)) (h' : b.emod (9 : Nat) = (3 : Nat)) : fewRun a b 9 3 h h' = true := by kernel_rfl
set_option maxRecDepth 1000000 in
theorem few_9_4 (a b : Int) (h : a.emod (14 : Nat) = (9 : Nat)) (h' : b.emod (9 : Nat) = (4 : Nat)) : fewRun a b 9 4 h h' = true := by kernel_rfl
set_option maxRecDepth 1000000 in
theorem few_9_5 (a b : Int) (h : a.emod (14 : Nat) = (9 : Nat)) (h' : b.emod (9 : Nat) = (5 : Nat)) : fewRun a b 9 5 h h' = true := by kernel_rfl
set_option maxRecDepth 1000000 in
theorem few_9_6 (a b : Int) (h : a.emod (14 : Nat) = (9 : Nat)) (h' : b.emod (9 : Nat) = (6 : Nat)) : fewRun a b 9 6 h h' = true := by kernel_rfl
set_option maxRecDepth 1000000 in
theorem few_9_7 (a b : Int) (h : a.emod (14 : Nat) = (9 : Nat)) (h' : b.emod (9 : Nat) = (7 : Nat)) : fewRun a b 9 7 h h' = true := by kernel_rfl
set_option maxRecDepth 1000000 in
theorem few_9_8 (a b : Int) (h : a.emod (14 : Nat) = (9 : Nat)) (h' : b.emod (9 : Nat) = (8 : Nat)) : fewRun a b 9 8 h h' = true := by kernel_rfl
theorem few_9 (a b : Int) (h : a.emod (14 : Nat) = (9 : Nat)) : ∀ (j : Nat) (h' : b.emod (9 : Nat) = j), j < 9 → fewRun a b 9 j h h' = true
  | 0, h', _ => few_9_0 a b h h'
  | 1, h', _ => few_9_1 a b h h'
  | 2, h', _ => few_9_2 a b h h'
  | 3, h', _ => few_9_3 a b h h'
  | 4, h', _ => few_9_4 a b h h'
  | 5, h', _ => few_9_5 a b h h'
  | 6, h', _ => few_9_6 a b h h'
  | 7, h', _ => few_9_7 a b h h'
  | 8, h', _ => few_9_8 a b h h'
  | n + 9, _, hn => absurd hn (by omega)
end Go.Proofs.YtpgbihleidcdkaaDoor
