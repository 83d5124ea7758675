import Derived.Test.YtkjdghlefdmjaaaDoorAa
import Derived.Test.YtkjdghlefdmjaaaDoorSd
import Derived.Test.YtkjdghlefdmjaaaDoorProg
import Derived.KernelRfl
set_option linter.unusedSimpArgs false
set_option linter.unusedVariables false
set_option maxRecDepth 100000
namespace Go.Proofs.YtkjdghlefdmjaaaDoor
open Go Go.Cx
def axT : Mem → List CV → Option CV := fun _ args => match args with
 | [] => some (.bool true)
 | _ :: _ => none
def axA7 (f : FuncId) : Bool := Nat.beq f 5
def axA8 (f : FuncId) : Bool := false
def axA9 (f : FuncId) : Bool := false
def axA (f : FuncId) : Bool := axA7 f || (axA8 f || axA9 f)
def axJ (f : FuncId) : Bool := Nat.beq f 16
def axP (f : FuncId) : Bool := Nat.beq f 19
noncomputable def axPC : Mem → List CV → Option CV := parseC 1 81
noncomputable abbrev axX : Ext := fun f => match axA f with
 | true => some axT
 | false => match axJ f with
  | true => some joinC
  | false => match axP f with
   | true => some axPC
   | false => none
def axN : List (Nat × List CV) := []
def axO : List (Nat × List CV) := []
def axE : List (Nat × List CV) := [(1, [.ifc 99 (.ptr 64 0)])]
def axG : List (Nat × List CV) := axN ++ (axO ++ axE)
theorem ax_d {f : FuncId} (h : axX f = some axT) : DSpec Tryd.prog axX axG f [] [] (fun v O => v = SV.cv (.bool true) ∧ O = []) :=
 dspec_ext (g := axT) h (y := .bool true) (fun _ _ => .cv rfl) (fun _ _ _ _ h => by cases h; rfl) rfl
end Go.Proofs.YtkjdghlefdmjaaaDoor
