import Derived.Test.YtmgibblhcoimfaaDoorAa
import Derived.Test.YtmgibblhcoimfaaDoorSf
import Derived.Test.YtmgibblhcoimfaaDoorProg
import Derived.KernelRfl
set_option linter.unusedSimpArgs false
set_option linter.unusedVariables false
set_option maxRecDepth 100000
namespace Go.Proofs.YtmgibblhcoimfaaDoor
open Go Go.Cx
def axT:Mem->List CV->Option CV:=fun _ args=>match args with
 |[]=>some (.bool true)
 |_::_=>none
def axA7(f:FuncId):Bool:=false
def axA8(f:FuncId):Bool:=Nat.beq f 6
def axA9(f:FuncId):Bool:=false
def axA(f:FuncId):Bool:=axA7 f||(axA8 f||axA9 f)
def axJ(f:FuncId):Bool:=Nat.beq f 92
def axP(f:FuncId):Bool:=false
noncomputable def axPC:Mem->List CV->Option CV:=fun _ _=>none
def axI(f:FuncId):Bool:=Nat.beq f 90
noncomputable def axIC:Mem->List CV->Option CV:=zBr 2
def axU(f:FuncId):Bool:=Nat.beq f 76
noncomputable def axUC:Mem->List CV->Option CV:=zva 2
def axZ(f:FuncId):Bool:=Nat.beq f 101
noncomputable def axZC:Mem->List CV->Option CV:=tzC 3
noncomputable abbrev axX:Ext:=fun f=>match axA f with
 |true=>some axT
 |false=>match axJ f with
  |true=>some znT
  |false=>match axP f with
   |true=>some axPC
   |false=>match axI f with
    |true=>some axIC
    |false=>match axU f with
     |true=>some axUC
     |false=>match axZ f with
      |true=>some axZC
      |false=>none
def axN:List (Nat×List CV):=[(0,[.str [99,111,117,110,116],.str [115,117,109],.str [109,105,110],.str [109,97,120],.str [102,105,114,115,116],.str [108,97,115,116]])]
def axO:List (Nat×List CV):=[(1,[.str [],.str [61],.str [33,61],.str [60],.str [60,61],.str [62],.str [62,61]])]
def axE:List (Nat×List CV):=[]
def axR:List (Nat×List CV):=[(2,Lib.pow10Tab.map fun z=>.int .u64 z)]
def axB:List (Nat×List CV):=[(3,Lib.deBruijn64tab.map fun z=>.int .u8 ((z:Nat):Int))]
def axG:List (Nat×List CV):=axN++(axO++(axE++(axR++axB)))
theorem axR_in:(2,Lib.pow10Tab.map fun z=>CV.int .u64 z)∈axG:=yc3 _ (yc3 _ (yc3 _ (List.mem_append_left _ (List.mem_singleton.2 rfl))))
theorem axB_in:(3,Lib.deBruijn64tab.map fun z=>CV.int .u8 ((z:Nat):Int))∈axG:=yc3 _ (yc3 _ (yc3 _ (yc3 _ (List.mem_singleton.2 rfl))))
theorem ax_d{f:FuncId}(h:axX f=some axT):DSpec Tryd.prog axX axG f [] [] (fun v O=>v=SV.cv (.bool true)/\O=[]):=
 zih (g:=axT) h (y:=.bool true) (fun _ _=>.cv rfl) (fun _ _ _ _ h=>by cases h;rfl) rfl
end Go.Proofs.YtmgibblhcoimfaaDoor
