import Derived.Test.YtkjdghlefdmjaaaAa
import Derived.Test.YtkjdghlefdmjaaaSd
import Derived.Test.YtkjdghlefdmjaaaProg
import Derived.KernelRfl
set_option linter.unusedSimpArgs false
set_option linter.unusedVariables false
set_option maxRecDepth 100000
namespace Go.Proofs.Ytkjdghlefdmjaaa
open Go Go.Cx
def axT : Mem → List CV → Option CV := fun _ args => match args with
 | [] => some (.bool true)
 | _ :: _ => none
def axA7 (f : FuncId) : Bool := Nat.beq f 4
def axA8 (f : FuncId) : Bool := false
def axA9 (f : FuncId) : Bool := false
def axA (f : FuncId) : Bool := axA7 f || (axA8 f || axA9 f)
def axJ (f : FuncId) : Bool := Nat.beq f 13
def axP (f : FuncId) : Bool := false
noncomputable def axPC : Mem → List CV → Option CV := fun _ _ => none
noncomputable abbrev axX : Ext := fun f => match axA f with
 | true => some axT
 | false => match axJ f with
  | true => some joinC
  | false => match axP f with
   | true => some axPC
   | false => none
def axN : List (Nat × List CV) := []
def axO : List (Nat × List CV) := []
def axG : List (Nat × List CV) := axN ++ axO
theorem ax_d {f : FuncId} (h : axX f = some axT) : DSpec Try.prog axX axG f [] [] (fun v O => v = SV.cv (.bool true) ∧ O = []) :=
 dspec_ext (g := axT) h (y := .bool true) (fun _ _ => .cv rfl) (fun _ _ _ _ h => by cases h; rfl) rfl
end Go.Proofs.Ytkjdghlefdmjaaa
