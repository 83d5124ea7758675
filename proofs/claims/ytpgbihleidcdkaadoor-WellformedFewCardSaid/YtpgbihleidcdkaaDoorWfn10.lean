/-
  WellformedFew: the kernel runs it, with numbers of which the rests alone are known: 10 by each rest of 9.
-/
import Derived.Test.YtpgbihleidcdkaaDoorWf
set_option linter.unusedSimpArgs false
set_option linter.unusedVariables false
namespace Go.Proofs.YtpgbihleidcdkaaDoor
open Go Go.Cx
set_option maxRecDepth 1000000 in
theorem few_10_0 (a b : Int) (h : a.emod (14 : Nat) = (10 : Nat)) (h' : b.emod (9 : Nat) = (0 : Nat)) : fewRun a b 10 0 h h' = true := by kernel_rfl
set_option maxRecDepth 1000000 in
theorem few_10_1 (a b : Int) (h : a.emod (14 : Nat) = (10 : Nat)) (h' : b.emod (9 : Nat) = (1 : Nat)) : fewRun a b 10 1 h h' = true := by kernel_rfl
set_option maxRecDepth 1000000 in
theorem few_10_2 (a b : Int) (h : a.emod (14 : Nat) = (10 : Nat)) (h' : b.emod (9 : Nat) = (2 : Nat)) : fewRun a b 10 2 h h' = true := by kernel_rfl
set_option maxRecDepth 1000000 in
theorem few_10_3 (a b : Int) (h : a.emod (14 : Nat) = (10 : Nat)) (h' : b.emod (9 : Nat) = (3 : Nat)) : fewRun a b 10 3 h h' = true := by kernel_rfl
set_option maxRecDepth 1000000 in
theorem few_10_4 (a b : Int) (h : a.emod (14 : Nat) = (10 : Nat)) (h' : b.emod (9 : Nat) = (4 : Nat)) : fewRun a b 10 4 h h' = true := by kernel_rfl
set_option maxRecDepth 1000000 in
theorem few_10_5 (a b : Int) (h : a.emod (14 : Nat) = (10 : Nat)) (h' : b.emod (9 : Nat) = (5 : Nat)) : fewRun a b 10 5 h h' = true := by kernel_rfl
set_option maxRecDepth 1000000 in
theorem few_10_6 (a b : Int) (h : a.emod (14 : Nat) = (10 : Nat)) (h' : b.emod (9 : Nat) = (6 : Nat)) : fewRun a b 10 6 h h' = true := by kernel_rfl
set_option maxRecDepth 1000000 in
theorem few_10_7 (a b : Int) (h : a.emod (14 : Nat) = (10 : Nat)) (h' : b.emod (9 : Nat) = (7 : Nat)) : fewRun a b 10 7 h h' = true := by kernel_rfl
set_option maxRecDepth 1000000 in
theorem few_10_8 (a b : Int) (h : a.emod (14 : Nat) = (10 : Nat)) (h' : b.emod (9 : Nat) = (8 : Nat)) : fewRun a b 10 8 h h' = true := by kernel_rfl
theorem few_10 (a b : Int) (h : a.emod (14 : Nat) = (10 : Nat)) : ∀ (j : Nat) (h' : b.emod (9 : Nat) = j), j < 9 → fewRun a b 10 j h h' = true
  | 0, h', _ => few_10_0 a b h h'
  | 1, h', _ => few_10_1 a b h h'
  | 2, h', _ => few_10_2 a b h h'
  | 3, h', _ => few_10_3 a b h h'
  | 4, h', _ => few_10_4 a b h h'
  | 5, h', _ => few_10_5 a b h h'
  | 6, h', _ => few_10_6 a b h h'
  | 7, h', _ => few_10_7 a b h h'
  | 8, h', _ => few_10_8 a b h h'
  | n + 9, _, hn => absurd hn (by omega)
end Go.Proofs.YtpgbihleidcdkaaDoor
