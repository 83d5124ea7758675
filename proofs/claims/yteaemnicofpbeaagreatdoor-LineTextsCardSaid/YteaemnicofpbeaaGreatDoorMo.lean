import Derived.Test.YteaemnicofpbeaaGreatDoorMa
import Derived.Test.YteaemnicofpbeaaGreatDoorAv
set_option linter.unusedSimpArgs false
set_option linter.unusedVariables false
set_option maxRecDepth 100000
namespace Go.Proofs.YteaemnicofpbeaaGreatDoor
open Go Go.Cx
section
variable{H:Type}
theorem zrj(n:Nat)(d:DataW H)(h:wfD Tryz.prog n 24 d):∃c:List SlotM,SameL (svD Tryz.prog n 24 d) (zbo c)/\c.length<=maxLen:=by
 obtain⟨m,parts,_,_,hl,hp,hs⟩:=zlo Tryz.underlying24 h;obtain⟨a,rfl⟩:=zve hl;obtain⟨x0,v0,l0,s0,e0,_⟩:=zsv (g:=ziw) (Q:=fun s=>s.gs.length<=maxLen) Tryz.underlying22 (hp 0 _ _ rfl rfl) fun j y _ hy=>zsl j y hy
 refine⟨x0,?_,l0⟩;rw[hs];show SameL (svD _ _ _ _++[]) _;rw[s0];have e0:=e0 (zuf x0) fun i hi=>rfl
 rw[show Tryz.prog.cellsOf 38=2 by kernel_rfl]at e0;exact .cons e0 .nil
end
end Go.Proofs.YteaemnicofpbeaaGreatDoor
