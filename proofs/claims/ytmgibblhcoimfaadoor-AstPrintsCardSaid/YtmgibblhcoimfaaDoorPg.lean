import Derived.Test.YtmgibblhcoimfaaDoorPf
set_option linter.unusedSimpArgs false
set_option linter.unusedVariables false
set_option maxRecDepth 100000
namespace Go.Proofs.YtmgibblhcoimfaaDoor
open Go Go.Cx
def zeg(f:NodeM->List Nat)(n:NodeM):List Nat:=bif n.kind==1 then zcq n.atom++ztC n
 else bif n.kind==2 then[110,111,116,32]++zcq n.atom
 else bif n.kind==3 then kidsG f [32,59,32] gS n.kids n.kids.length
 else bif n.kind==4 then kidsG f [32,124,32] gA n.kids n.kids.length else[]
structure AtomOk(a:AtomM):Prop where
 kind:0<=a.kind/\a.kind<=25
 bound:0<=a.bound/\a.bound<=18446744073709551615
 cs:a.cs.length<=1000
 name:a.name.length<=1000
 cond:∀c∈a.cs,zmB c
theorem e1{bs A R L T:List Nat}(h:T=A++R)(k:R=L):bs++A++L=bs++T:=by rw[h,k,yc1]
theorem e0{bs A R T:List Nat}(h:T=A++R)(k:R=[]):bs++A=bs++T:=by rw[h,k,yc2]
theorem e2{bs A T:List Nat}(h:T=A):bs++A=bs++T:=by rw[h]
theorem e3{bs T:List Nat}(h:T=[]):bs=bs++T:=by rw[h,yc2]
theorem tN1{f:NodeM->List Nat}{n:NodeM}(h:n.kind=1):zeg f n=zcq n.atom++ztC n:=by rw[zeg,h];rfl
theorem tN2{f:NodeM->List Nat}{n:NodeM}(h:n.kind=2):zeg f n=[[110,111,116,32]].flatten++zcq n.atom:=by rw[zeg,h];rfl
theorem tN3{f:NodeM->List Nat}{n:NodeM}(h:n.kind=3):zeg f n=kidsG f [32,59,32] gS n.kids n.kids.length:=by rw[zeg,h];rfl
theorem tN4{f:NodeM->List Nat}{n:NodeM}(h:n.kind=4):zeg f n=kidsG f [32,124,32] gA n.kids n.kids.length:=by rw[zeg,h];rfl
theorem tN5{f:NodeM->List Nat}{n:NodeM}(h:n.kind≠1/\n.kind≠2/\n.kind≠3/\n.kind≠4):zeg f n=[]:=by
 rw[zeg,beq_false_of_ne h.1,beq_false_of_ne h.2.1,beq_false_of_ne h.2.2.1,beq_false_of_ne h.2.2.2];rfl
theorem zyn{n:NodeM}(h:¬(n.mn=1/\n.mx=1)):ztC n=[[123],zbX n.mn.toNat,[44],zbX n.mx.toNat,[125]].flatten:=by
 have h2:(n.mn==1&&n.mx==1)=false:=by rw[Bool.eq_false_iff,Ne,ya2,beq_iff_eq,beq_iff_eq];exact h
 rw[ztC,h2];simp
theorem zwS{n:NodeM}(h:n.mn=1)(k:n.mx=1):ztC n=[]:=by rw[ztC,h,k];rfl
set_option maxHeartbeats 8000000 in
theorem zyw(f:NodeM->List Nat)(n:NodeM)(hn:n.kids.length<=1000)(ha:AtomOk n.atom)(hal:(zcq n.atom).length<=50000)(hm:0<=n.mn/\n.mn<=99/\0<=n.mx/\n.mx<=99)(ih:∀m∈n.kids,∀bs k el,Byt bs k el->bs.length+(f m).length<=890000->DSpec Tryd.prog axX axG 28 [.ptr 0 0,.agg (zaK m)] (B1 k el) (fun v O=>v=.tup []/\∃k el,Byt (bs++f m) k el/\O=B1 k el)){bs:List Nat}{k0:Nat}{el:Nat->List SV}(hb:Byt bs k0 el)(hbs:bs.length<=890000)(h3:(n.kind==3)=true->bs.length+(kidsG f [32,59,32] gS n.kids n.kids.length).length<=890000)(h4:(n.kind==4)=true->bs.length+(kidsG f [32,124,32] gA n.kids n.kids.length).length<=890000):DSpec Tryd.prog axX axG 28 [.ptr 0 0,.agg (zaK n)] (B1 k0 el) (fun v O=>v=.tup []/\∃k el,Byt (bs++zeg f n) k el/\O=B1 k el):=by
 refine zac { glb:=axG } true Tryd.func28 (by kernel_rfl) rfl ?_
 repeat' (
   (conv=>whnf)
   first
    |exact zad (by kernel_rfl)
    |refine And.intro ?_ ?_
    |refine zaa ?_ ?_
    |(refine⟨_,zpL hb (by first |omega |(simp only[ya1,ya7,yb2,yb3,yb6,yc2]at *;omega)) n.atom ha.kind ha.bound ha.cs ha.name ha.cond,?_⟩;rintro v O' ⟨rfl,n',el',hb,rfl⟩)
    |(refine⟨_,zmg n.mn hm.1 hm.2.1,?_⟩;rintro v O' ⟨rfl,rfl⟩)
    |(refine⟨_,zmg n.mx hm.2.2.1 hm.2.2.2,?_⟩;rintro v O' ⟨rfl,rfl⟩)
    |(refine⟨_,zak hb [[123],zbX n.mn.toNat,[44],zbX n.mx.toNat,[125]] (.cons (by decide) (.cons (zgL _) (.cons (by decide) (.cons (zgL _) (.cons (by decide) .nil))))) (show 5<=1000 by decide) (zc4 hb (by have:=za0 1 n.mn.toNat (by omega);have:=za0 1 n.mx.toNat (by omega);simp only[ya1,ya7,yb2,yb3,yb6,yc2]at *;omega)),?_⟩;rintro v O' ⟨rfl,n',el',hb,rfl⟩)
    |(refine⟨_,zak hb [[110,111,116,32]] (.cons (by decide) .nil) (show 1<=1000 by decide) (zc4 hb (by simp only[ya1,ya7,yb2,yb3,yb6,yc2]at *;omega)),?_⟩;rintro v O' ⟨rfl,n',el',hb,rfl⟩)
    |(refine⟨_,zuL gS _ zze f [32,59,32] (by decide) n hn ih hb (h3 (by assumption)),?_⟩;rintro v O' ⟨rfl,n',el',hb,rfl⟩)
    |(refine⟨_,zuL gA _ zza f [32,124,32] (by decide) n hn ih hb (h4 (by assumption)),?_⟩;rintro v O' ⟨rfl,n',el',hb,rfl⟩)
    |intro _)
 all_goals first
  |rfl
  |omega
  |(exfalso;(simp only[zz]at *;omega))
  |(refine⟨_,_,hb.to (e1 (tN1 ?_) (zyn ?_)),rfl⟩<;>(simp only[zz]at *;omega))
  |(refine⟨_,_,hb.to (e0 (tN1 ?_) (zwS ?_ ?_)),rfl⟩<;>(simp only[zz]at *;omega))
  |(refine⟨_,_,hb.to (e1 (tN2 ?_) rfl),rfl⟩<;>(simp only[zz]at *;omega))
  |(refine⟨_,_,hb.to (e2 (tN3 ?_)),rfl⟩<;>(simp only[zz]at *;omega))
  |(refine⟨_,_,hb.to (e2 (tN4 ?_)),rfl⟩<;>(simp only[zz]at *;omega))
  |(refine⟨_,_,hb.to (e3 (tN5 ?_)),rfl⟩<;>(simp only[zz]at *;omega))
end Go.Proofs.YtmgibblhcoimfaaDoor
