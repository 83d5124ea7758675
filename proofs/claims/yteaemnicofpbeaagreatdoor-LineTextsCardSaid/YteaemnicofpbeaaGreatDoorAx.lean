import Derived.Test.YteaemnicofpbeaaGreatDoorAa
import Derived.Test.YteaemnicofpbeaaGreatDoorSf
import Derived.Test.YteaemnicofpbeaaGreatDoorProg
import Derived.KernelRfl
set_option linter.unusedSimpArgs false
set_option linter.unusedVariables false
set_option maxRecDepth 100000
namespace Go.Proofs.YteaemnicofpbeaaGreatDoor
open Go Go.Cx
def axT:Mem->List CV->Option CV:=fun _ args=>match args with
 |[]=>some (.bool true)
 |_::_=>none
def axA7(f:FuncId):Bool:=false
def axA8(f:FuncId):Bool:=false
def axA9(f:FuncId):Bool:=false
def axA(f:FuncId):Bool:=axA7 f||(axA8 f||axA9 f)
def axJ(f:FuncId):Bool:=Nat.beq f 26
def axP(f:FuncId):Bool:=false
noncomputable def axPC:Mem->List CV->Option CV:=fun _ _=>none
def axI(f:FuncId):Bool:=Nat.beq f 46
noncomputable def axIC:Mem->List CV->Option CV:=zv8 0
def axU(f:FuncId):Bool:=false
noncomputable def axUC:Mem->List CV->Option CV:=fun _ _=>none
def axZ(f:FuncId):Bool:=Nat.beq f 102
noncomputable def axZC:Mem->List CV->Option CV:=tzC 3
def axK10(f:FuncId):Bool:=false
def axK12(f:FuncId):Bool:=Nat.beq f 5
def axK(f:FuncId):Bool:=axK10 f||axK12 f
def axN:List (Nat×List CV):=[(4,[.str [99,111,117,110,116],.str [115,117,109],.str [109,105,110],.str [109,97,120],.str [102,105,114,115,116],.str [108,97,115,116]])]
def axO:List (Nat×List CV):=[]
def axE:List (Nat×List CV):=[]
def axR:List (Nat×List CV):=[(0,Lib.pow10Tab.map fun z=>.int .u64 z)]
def axB:List (Nat×List CV):=[(3,Lib.deBruijn64tab.map fun z=>.int .u8 ((z:Nat):Int))]
def axG:List (Nat×List CV):=axN++(axO++(axE++(axR++axB)))
def axF:List (Nat×List CV):=axN++(axO++(axR++axB))
theorem axF_in:∀p∈axF,p∈axG:=fun p hp=>by
 unfold axF at hp;unfold axG;simp only[List.mem_append]at hp ⊢;rcases hp with h |h |h |h
 ·exact .inl h
 ·exact .inr (.inl h)
 ·exact .inr (.inr (.inr (.inl h)))
 ·exact .inr (.inr (.inr (.inr h)))
noncomputable def axKC:Mem->List CV->Option CV:=fun m args=>match args with
 |[]=>match axF.all fun p=>zp6 m p.1 p.2 with
  |true=>some (.bool true)
  |false=>none
 |_::_=>none
noncomputable abbrev axX:Ext:=fun f=>match axA f with
 |true=>some axT
 |false=>match axJ f with
  |true=>some zlU
  |false=>match axP f with
   |true=>some axPC
   |false=>match axI f with
    |true=>some axIC
    |false=>match axU f with
     |true=>some axUC
     |false=>match axZ f with
      |true=>some axZC
      |false=>match axK f with
       |true=>some axKC
       |false=>none
theorem axR_in:(0,Lib.pow10Tab.map fun z=>CV.int .u64 z)∈axG:=yc3 _ (yc3 _ (yc3 _ (List.mem_append_left _ (List.mem_singleton.2 rfl))))
theorem axB_in:(3,Lib.deBruijn64tab.map fun z=>CV.int .u8 ((z:Nat):Int))∈axG:=yc3 _ (yc3 _ (yc3 _ (yc3 _ (List.mem_singleton.2 rfl))))
theorem ax_d{f:FuncId}(h:axX f=some axT):DSpec Tryz.prog axX axG f [] [] (fun v O=>v=SV.cv (.bool true)/\O=[]):=
 zlO (g:=axT) h (y:=.bool true) (fun _ _=>.cv rfl) (fun _ _ _ _ h=>by cases h;rfl) rfl
theorem axk_d{f:FuncId}(h:axX f=some axKC):DSpec Tryz.prog axX axG f [] [] (fun v O=>v=SV.cv (.bool true)/\O=[]):=
 zjk (g:=axKC) h (y:=.bool true) (fun _ _=>.cv rfl) (fun R m xs hg hm hr=>by
  cases hr;have:(axF.all fun p=>zp6 m p.1 p.2)=true:=by
   rw[List.all_eq_true];intro p hp;exact zrQ hg hm (axF_in p hp)
  unfold axKC;simp only[this]) rfl
end Go.Proofs.YteaemnicofpbeaaGreatDoor
