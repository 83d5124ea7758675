/-
  WellformedFew: the kernel runs it, with numbers of which the rests alone are known: 6 by each rest of 9.
-/
import Derived.Test.YtpgbihleidcdkaaDoorWf
set_option linter.unusedSimpArgs false
set_option linter.unusedVariables false
namespace Go.Proofs.YtpgbihleidcdkaaDoor
open Go Go.Cx
set_option maxRecDepth 1000000 in
theorem few_6_0 (a b : Int) (h : a.emod (14 : Nat) = (6 : Nat)) (h' : b.emod (9 : Nat) = (0 : Nat)) : fewRun a b 6 0 h h' = true := by kernel_rfl
set_option maxRecDepth 1000000 in
theorem few_6_1 (a b : Int) (h : a.emod (14 : Nat) = (6 : Nat)) (h' : b.emod (9 : Nat) = (1 : Nat)) : fewRun a b 6 1 h h' = true := by kernel_rfl
set_option maxRecDepth 1000000 in
theorem few_6_2 (a b : Int) (h : a.emod (14 : Nat) = (6 : Nat)) (h' : b.emod (9 : Nat) = (2 : Nat)) : fewRun a b 6 2 h h' = true := by kernel_rfl
set_option maxRecDepth 1000000 in
theorem few_6_3 (a b : Int) (h : a.emod (14 : Nat) = (6 : Nat)) (h' : b.emod (9 : Nat) = (3 : Nat)) : fewRun a b 6 3 h h' = true := by kernel_rfl
set_option maxRecDepth 1000000 in
theorem few_6_4 (a b : Int) (h : a.emod (14 : Nat) = (6 : Nat)) (h' : b.emod (9 : Nat) = (4 : Nat)) : fewRun a b 6 4 h h' = true := by kernel_rfl
set_option maxRecDepth 1000000 in
theorem few_6_5 (a b : Int) (h : a.emod (14 : Nat) = (6 : Nat)) (h' : b.emod (9 : Nat) = (5 : Nat)) : fewRun a b 6 5 h h' = true := by kernel_rfl
set_option maxRecDepth 1000000 in
theorem few_6_6 (a b : Int) (h : a.emod (14 : Nat) = (6 : Nat)) (h' : b.emod (9 : Nat) = (6 : Nat)) : fewRun a b 6 6 h h' = true := by kernel_rfl
set_option maxRecDepth 1000000 in
theorem few_6_7 (a b : Int) (h : a.emod (14 : Nat) = (6 : Nat)) (h' : b.emod (9 : Nat) = (7 : Nat)) : fewRun a b 6 7 h h' = true := by kernel_rfl
set_option maxRecDepth 1000000 in
theorem few_6_8 (a b : Int) (h : a.emod (14 : Nat) = (6 : Nat)) (h' : b.emod (9 : Nat) = (8 : Nat)) : fewRun a b 6 8 h h' = true := by kernel_rfl
theorem few_6 (a b : Int) (h : a.emod (14 : Nat) = (6 : Nat)) : ∀ (j : Nat) (h' : b.emod (9 : Nat) = j), j < 9 → fewRun a b 6 j h h' = true
  | 0, h', _ => few_6_0 a b h h'
  | 1, h', _ => few_6_1 a b h h'
  | 2, h', _ => few_6_2 a b h h'
  | 3, h', _ => few_6_3 a b h h'
  | 4, h', _ => few_6_4 a b h h'
  | 5, h', _ => few_6_5 a b h h'
  | 6, h', _ => few_6_6 a b h h'
  | 7, h', _ => few_6_7 a b h h'
  | 8, h', _ => few_6_8 a b h h'
  | n + 9, _, hn => absurd hn (by omega)
end Go.Proofs.YtpgbihleidcdkaaDoor
