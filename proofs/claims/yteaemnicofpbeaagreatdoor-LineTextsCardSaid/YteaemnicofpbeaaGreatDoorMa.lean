import Derived.Test.YteaemnicofpbeaaGreatDoorPa
import Derived.Test.YteaemnicofpbeaaGreatDoorAz
import Derived.Test.YteaemnicofpbeaaGreatDoorAb
import Derived.Test.YteaemnicofpbeaaGreatDoorGh
import Derived.Test.YteaemnicofpbeaaGreatDoorProg
import Derived.KernelRfl
set_option linter.unusedSimpArgs false
set_option linter.unusedVariables false
set_option maxRecDepth 100000
namespace Go.Proofs.YteaemnicofpbeaaGreatDoor
open Go Go.Cx
structure SlotM where
 atom:Int
 gs:List Int
 deriving Inhabited
def zgF(l:List Int):Nat->List SV:=fun i=>[ai (l.getD i 0)]
def ziw(s:SlotM):List SV:=[ai s.atom,.isl 1 s.gs.length (zgF s.gs)]
def zuf(l:List SlotM):Nat->List SV:=fun i=>ziw (l.getD i default)
def zbo(l:List SlotM):List SV:=[.isl 2 l.length (zuf l)]
section
variable{H:Type}
theorem zu3{A:Type}{l:List A}(h:l.length=2):∃a b,l=[a,b]:=by
 match l,h with
 |[a,b],_=>exact⟨a,b,rfl⟩
theorem zve{A:Type}{l:List A}(h:l.length=1):∃a,l=[a]:=by
 match l,h with
 |[a],_=>exact⟨a,rfl⟩
theorem zmS(n:Nat)(d:DataW H)(h:wfD Tryz.prog n 33 d):∃(c:List Int) (w:SV),c.length<=maxLen/\svD Tryz.prog n 33 d=[w]/\Same w (.isl 1 c.length (zgF c)):=by
 obtain⟨cl,l0,v0,s0,e0⟩:=ziD (g:=fun x:Int=>[ai x]) Tryz.underlying33 h fun m y hy=>by
  obtain⟨x,_,_,s⟩:=zue Tryz.underlying3 hy;exact⟨x,s⟩
 rw[show Tryz.prog.cellsOf 3=1 by kernel_rfl]at e0;exact⟨cl,v0,l0,s0,e0⟩
theorem zsl(n:Nat)(d:DataW H)(h:wfD Tryz.prog n 38 d):∃c:SlotM,SameL (svD Tryz.prog n 38 d) (ziw c)/\c.gs.length<=maxLen:=by
 obtain⟨m,parts,_,_,hl,hp,hs⟩:=zlo Tryz.underlying38 h;obtain⟨a,b,rfl⟩:=zu3 hl;obtain⟨x0,_,_,s0⟩:=zue Tryz.underlying3 (hp 0 _ _ rfl rfl);obtain⟨x1,w1,l1,s1,e1⟩:=zmS _ _ (hp 1 _ _ rfl rfl);refine⟨⟨x0,x1⟩,?_,l1⟩;rw[hs];show SameL (svD _ _ _ _++(svD _ _ _ _++[])) _;rw[s0,s1];exact .cons (.refl _) (.cons e1 .nil)
end
def zen(n x:Int):Bool:=decide (x<0)||decide (x>=n)
def zaZ(n:Int)(s:SlotM):Bool:=zen n s.atom||s.gs.any (zen n)
def zm8(l:List Int)(k:Nat):Bool:=decide (l.getD (k+1) 0<=l.getD k 0)
def zdO(s:SlotM):Bool:=(List.range (s.gs.length - 1)).any (zm8 s.gs)
def zbW(l:List SlotM)(n:Int):Int:=bif ((l.length:Int)==0)||decide (((l.getD 0 default).gs.length:Int) > 0)then 3 else bif decide (n<0)||decide (n > 12)then 2 else bif l.any (zaZ n)then 2 else bif l.any zdO then 3 else 0
def gT(g:List Int):List Nat:=g.flatMap fun n=>33::zeT n.toNat
def zel(s:SlotM):List (List Nat):=(bif decide (0<s.gs.length) then[gT s.gs] else[])++[zeT s.atom.toNat]
def zbM(l:List SlotM):List (List Nat):=l.flatMap zel
noncomputable def znh(l:List SlotM):List Nat:=zdF [32] (zbM l)
noncomputable def ztu(l:List SlotM):List Nat×Int:=if zbW l 12=0 then(znh l,0) else([],zbW l 12)
theorem zee(sep x:List Nat):∀ss:List (List Nat),zdF sep (ss++[x])=(bif decide (0<ss.length)then zdF sep ss++sep else[])++x
 |[]=>rfl
 |[s]=>by
  show s++(sep++x)=(s++sep)++x;rw[yc1]
 |s::t::r=>by
  have ih:=zee sep x (t::r);show s++(sep++zdF sep (t::r++[x]))=(s++(sep++zdF sep (t::r))++sep)++x;rw[ih];show s++(sep++((zdF sep (t::r)++sep)++x))=_;simp only[yc1]
noncomputable def zfy(l:List SlotM):Nat->List Nat
 |0=>[]
 |i+1=>((bif decide (0<i)then zfy l i++[32]else zfy l i)++gT (l.getD i default).gs)++(bif decide (0<(l.getD i default).gs.length) then[32] else[])++zeT (l.getD i default).atom.toNat
theorem zcr{l:List SlotM}{i:Nat}(hi:i<l.length):zbM (l.take (i+1))=zbM (l.take i)++zel (l.getD i default):=by
 unfold zbM;rw[List.take_add_one,yb5 hi,ya8,yb5 hi,List.flatMap_append];simp
theorem zp0(s:SlotM):0<(zel s).length:=by unfold zel;simp
theorem zi6{l:List SlotM}{i:Nat}(hi:i<=l.length)(h0:0<i):0<(zbM (l.take i)).length:=by
 obtain⟨j,rfl⟩:∃j,i=j+1:=⟨i - 1,by omega⟩
 rw[zcr (by omega),ya1];have:=zp0 (l.getD j default);omega
theorem zgR(l:List SlotM):∀i:Nat,i<=l.length->zdF [32] (zbM (l.take i))=zfy l i
 |0,_=>rfl
 |i+1,hi=>by
  have ih:=zgR l i (by omega);rw[zcr (by omega)];unfold zfy zel;cases hg:decide (0<(l.getD i default).gs.length) with
  |false=>
   have h0:(l.getD i default).gs=[]:=by
    rw[decide_eq_false_iff_not]at hg;exact List.length_eq_zero_iff.1 (by omega)
   rw[cond_false,cond_false,List.nil_append,zee,ih,h0];by_cases hz:0<i
   ·rw[show decide (0<(zbM (l.take i)).length)=true from decide_eq_true (zi6 (by omega) hz),decide_eq_true hz];show _=((zfy l i++[32])++[])++[]++_;rw[yc2,yc2];rfl
   ·obtain rfl:i=0:=by omega
    rfl
  |true=>
   rw[cond_true,cond_true,<- yc1,zee,zee,ih];rw[show decide (0<(zbM (l.take i)++[gT (l.getD i default).gs]).length)=true from decide_eq_true (by simp)];by_cases hz:0<i
   ·rw[show decide (0<(zbM (l.take i)).length)=true from decide_eq_true (zi6 (by omega) hz),decide_eq_true hz];rfl
   ·obtain rfl:i=0:=by omega
    rfl
theorem zqa{g:List Int}{j:Nat}(hj:j<g.length):gT (g.take (j+1))=gT (g.take j)++(33::zeT (g.getD j 0).toNat):=by
 unfold gT;rw[List.take_add_one,yb5 hj,ya8,yb5 hj,List.flatMap_append];simp
end Go.Proofs.YteaemnicofpbeaaGreatDoor
