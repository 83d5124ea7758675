import Derived.Test.YtmgibblhcoimfaaDoorPf
set_option linter.unusedSimpArgs false
set_option linter.unusedVariables false
set_option maxRecDepth 100000
namespace Go.Proofs.YtmgibblhcoimfaaDoor
open Go Go.Cx
def zei(f:NodeM->List Nat)(n:NodeM):List Nat:=bif n.kind==1 then za4 n.atom++zjf n
 else bif n.kind==2 then[110,111,116,32]++za4 n.atom
 else bif n.kind==3 then kidsG f [32,59,32] gS n.kids n.kids.length
 else bif n.kind==4 then kidsG f [32,124,32] gA n.kids n.kids.length else[]
structure AtomOk(a:AtomM):Prop where
 kind:0<=a.kind/\a.kind<=25
 bound:0<=a.bound/\a.bound<=18446744073709551615
 cs:a.cs.length<=1000
 name:a.name.length<=1000
 cond:∀c∈a.cs,zoy c
theorem e1{bs A R L T:List Nat}(h:T=A++R)(k:R=L):bs++A++L=bs++T:=by rw[h,k,yc1]
theorem e0{bs A R T:List Nat}(h:T=A++R)(k:R=[]):bs++A=bs++T:=by rw[h,k,yc2]
theorem e2{bs A T:List Nat}(h:T=A):bs++A=bs++T:=by rw[h]
theorem e3{bs T:List Nat}(h:T=[]):bs=bs++T:=by rw[h,yc2]
theorem tN1{f:NodeM->List Nat}{n:NodeM}(h:n.kind=1):zei f n=za4 n.atom++zjf n:=by rw[zei,h];rfl
theorem tN2{f:NodeM->List Nat}{n:NodeM}(h:n.kind=2):zei f n=[[110,111,116,32]].flatten++za4 n.atom:=by rw[zei,h];rfl
theorem tN3{f:NodeM->List Nat}{n:NodeM}(h:n.kind=3):zei f n=kidsG f [32,59,32] gS n.kids n.kids.length:=by rw[zei,h];rfl
theorem tN4{f:NodeM->List Nat}{n:NodeM}(h:n.kind=4):zei f n=kidsG f [32,124,32] gA n.kids n.kids.length:=by rw[zei,h];rfl
theorem tN5{f:NodeM->List Nat}{n:NodeM}(h:n.kind≠1/\n.kind≠2/\n.kind≠3/\n.kind≠4):zei f n=[]:=by
 rw[zei,beq_false_of_ne h.1,beq_false_of_ne h.2.1,beq_false_of_ne h.2.2.1,beq_false_of_ne h.2.2.2];rfl
theorem zte{n:NodeM}(h:¬(n.mn=1/\n.mx=1)):zjf n=[[123],zb2 n.mn.toNat,[44],zb2 n.mx.toNat,[125]].flatten:=by
 have h2:(n.mn==1&&n.mx==1)=false:=by rw[Bool.eq_false_iff,Ne,ya2,beq_iff_eq,beq_iff_eq];exact h
 rw[zjf,h2];simp
theorem rep0{n:NodeM}(h:n.mn=1)(k:n.mx=1):zjf n=[]:=by rw[zjf,h,k];rfl
set_option maxHeartbeats 8000000 in
theorem zzr(f:NodeM->List Nat)(n:NodeM)(hn:n.kids.length<=1000)(ha:AtomOk n.atom)(hal:(za4 n.atom).length<=50000)(hm:0<=n.mn/\n.mn<=99/\0<=n.mx/\n.mx<=99)(ih:∀m∈n.kids,∀bs k el,Byt bs k el->bs.length+(f m).length<=890000->DSpec Tryd.prog axX axG 28 [.ptr 0 0,.agg (zay m)] (B1 k el) (fun v O=>v=.tup []/\∃k el,Byt (bs++f m) k el/\O=B1 k el)){bs:List Nat}{k0:Nat}{el:Nat->List SV}(hb:Byt bs k0 el)(hbs:bs.length<=890000)(h3:(n.kind==3)=true->bs.length+(kidsG f [32,59,32] gS n.kids n.kids.length).length<=890000)(h4:(n.kind==4)=true->bs.length+(kidsG f [32,124,32] gA n.kids n.kids.length).length<=890000):DSpec Tryd.prog axX axG 28 [.ptr 0 0,.agg (zay n)] (B1 k0 el) (fun v O=>v=.tup []/\∃k el,Byt (bs++zei f n) k el/\O=B1 k el):=by
 refine zac { glb:=axG } true Tryd.func28 (by kernel_rfl) rfl ?_
 repeat' (
   (conv=>whnf)
   first
    |exact zaf (by kernel_rfl)
    |refine And.intro ?_ ?_
    |refine zaa ?_ ?_
    |(refine⟨_,zqH hb (by first |omega |(simp only[ya1,ya7,yb2,yb3,yb6,yc2]at *;omega)) n.atom ha.kind ha.bound ha.cs ha.name ha.cond,?_⟩;rintro v O' ⟨rfl,n',el',hb,rfl⟩)
    |(refine⟨_,znF n.mn hm.1 hm.2.1,?_⟩;rintro v O' ⟨rfl,rfl⟩)
    |(refine⟨_,znF n.mx hm.2.2.1 hm.2.2.2,?_⟩;rintro v O' ⟨rfl,rfl⟩)
    |(refine⟨_,zaj hb [[123],zb2 n.mn.toNat,[44],zb2 n.mx.toNat,[125]] (.cons (by decide) (.cons (zdZ _) (.cons (by decide) (.cons (zdZ _) (.cons (by decide) .nil))))) (show 5<=1000 by decide) (zc5 hb (by have:=zbM 1 n.mn.toNat (by omega);have:=zbM 1 n.mx.toNat (by omega);simp only[ya1,ya7,yb2,yb3,yb6,yc2]at *;omega)),?_⟩;rintro v O' ⟨rfl,n',el',hb,rfl⟩)
    |(refine⟨_,zaj hb [[110,111,116,32]] (.cons (by decide) .nil) (show 1<=1000 by decide) (zc5 hb (by simp only[ya1,ya7,yb2,yb3,yb6,yc2]at *;omega)),?_⟩;rintro v O' ⟨rfl,n',el',hb,rfl⟩)
    |(refine⟨_,zul gS _ zA0 f [32,59,32] (by decide) n hn ih hb (h3 (by assumption)),?_⟩;rintro v O' ⟨rfl,n',el',hb,rfl⟩)
    |(refine⟨_,zul gA _ zBQ f [32,124,32] (by decide) n hn ih hb (h4 (by assumption)),?_⟩;rintro v O' ⟨rfl,n',el',hb,rfl⟩)
    |intro _)
 all_goals first
  |rfl
  |omega
  |(exfalso;(simp only[zz]at *;omega))
  |(refine⟨_,_,hb.to (e1 (tN1 ?_) (zte ?_)),rfl⟩<;>(simp only[zz]at *;omega))
  |(refine⟨_,_,hb.to (e0 (tN1 ?_) (rep0 ?_ ?_)),rfl⟩<;>(simp only[zz]at *;omega))
  |(refine⟨_,_,hb.to (e1 (tN2 ?_) rfl),rfl⟩<;>(simp only[zz]at *;omega))
  |(refine⟨_,_,hb.to (e2 (tN3 ?_)),rfl⟩<;>(simp only[zz]at *;omega))
  |(refine⟨_,_,hb.to (e2 (tN4 ?_)),rfl⟩<;>(simp only[zz]at *;omega))
  |(refine⟨_,_,hb.to (e3 (tN5 ?_)),rfl⟩<;>(simp only[zz]at *;omega))
end Go.Proofs.YtmgibblhcoimfaaDoor
