import Derived.Test.YtogdglnaagkaaaaGreatDoorPf
set_option linter.unusedSimpArgs false
set_option linter.unusedVariables false
set_option maxRecDepth 100000
namespace Go.Proofs.YtogdglnaagkaaaaGreatDoor
open Go Go.Cx
def zeE(f:NodeM->List Nat)(n:NodeM):List Nat:=bif n.kind==1 then zex n.atom++zxh n
 else bif n.kind==2 then[110,111,116,32]++zex n.atom
 else bif n.kind==3 then kidsG f [32,59,32] gS n.kids n.kids.length
 else bif n.kind==4 then kidsG f [32,124,32] gA n.kids n.kids.length else[]
structure AtomOk(a:AtomM):Prop where
 kind:0<=a.kind/\a.kind<=25
 bound:0<=a.bound/\a.bound<=18446744073709551615
 cs:a.cs.length<=1000
 name:a.name.length<=1000
 cond:∀c∈a.cs,zot c
theorem e1{bs A R L T:List Nat}(h:T=A++R)(k:R=L):bs++A++L=bs++T:=by rw[h,k,yc1]
theorem e0{bs A R T:List Nat}(h:T=A++R)(k:R=[]):bs++A=bs++T:=by rw[h,k,yc2]
theorem e2{bs A T:List Nat}(h:T=A):bs++A=bs++T:=by rw[h]
theorem e3{bs T:List Nat}(h:T=[]):bs=bs++T:=by rw[h,yc2]
theorem tN1{f:NodeM->List Nat}{n:NodeM}(h:n.kind=1):zeE f n=zex n.atom++zxh n:=by rw[zeE,h];rfl
theorem tN2{f:NodeM->List Nat}{n:NodeM}(h:n.kind=2):zeE f n=[[110,111,116,32]].flatten++zex n.atom:=by rw[zeE,h];rfl
theorem tN3{f:NodeM->List Nat}{n:NodeM}(h:n.kind=3):zeE f n=kidsG f [32,59,32] gS n.kids n.kids.length:=by rw[zeE,h];rfl
theorem tN4{f:NodeM->List Nat}{n:NodeM}(h:n.kind=4):zeE f n=kidsG f [32,124,32] gA n.kids n.kids.length:=by rw[zeE,h];rfl
theorem tN5{f:NodeM->List Nat}{n:NodeM}(h:n.kind≠1/\n.kind≠2/\n.kind≠3/\n.kind≠4):zeE f n=[]:=by
 rw[zeE,beq_false_of_ne h.1,beq_false_of_ne h.2.1,beq_false_of_ne h.2.2.1,beq_false_of_ne h.2.2.2];rfl
theorem zCj{n:NodeM}(h:¬(n.mn=1/\n.mx=1)):zxh n=[[123],zd4 n.mn.toNat,[44],zd4 n.mx.toNat,[125]].flatten:=by
 have h2:(n.mn==1&&n.mx==1)=false:=by rw[Bool.eq_false_iff,Ne,ya2,beq_iff_eq,beq_iff_eq];exact h
 rw[zxh,h2];simp
theorem zAr{n:NodeM}(h:n.mn=1)(k:n.mx=1):zxh n=[]:=by rw[zxh,h,k];rfl
set_option maxHeartbeats 8000000 in
theorem zAZ(f:NodeM->List Nat)(n:NodeM)(hn:n.kids.length<=1000)(ha:AtomOk n.atom)(hal:(zex n.atom).length<=50000)(hm:0<=n.mn/\n.mn<=99/\0<=n.mx/\n.mx<=99)(ih:∀m∈n.kids,∀bs k el,Byt bs k el->bs.length+(f m).length<=890000->DSpec Tryz.prog axX axG 53 [.ptr 0 0,.agg (zah m)] (B1 k el) (fun v O=>v=.tup []/\∃k el,Byt (bs++f m) k el/\O=B1 k el)){bs:List Nat}{k0:Nat}{el:Nat->List SV}(hb:Byt bs k0 el)(hbs:bs.length<=890000)(h3:(n.kind==3)=true->bs.length+(kidsG f [32,59,32] gS n.kids n.kids.length).length<=890000)(h4:(n.kind==4)=true->bs.length+(kidsG f [32,124,32] gA n.kids n.kids.length).length<=890000):DSpec Tryz.prog axX axG 53 [.ptr 0 0,.agg (zah n)] (B1 k0 el) (fun v O=>v=.tup []/\∃k el,Byt (bs++zeE f n) k el/\O=B1 k el):=by
 refine zac { glb:=axG } true Tryz.func53 (by kernel_rfl) rfl ?_
 repeat' (
   (conv=>whnf)
   first
    |exact zad (by kernel_rfl)
    |refine And.intro ?_ ?_
    |refine zaa ?_ ?_
    |(refine⟨_,zsp hb (by first |omega |(simp only[ya1,ya7,yb2,yb3,yb6,yc2]at *;omega)) n.atom ha.kind ha.bound ha.cs ha.name ha.cond,?_⟩;rintro v O' ⟨rfl,n',el',hb,rfl⟩)
    |(refine⟨_,zoy n.mn hm.1 hm.2.1,?_⟩;rintro v O' ⟨rfl,rfl⟩)
    |(refine⟨_,zoy n.mx hm.2.2.1 hm.2.2.2,?_⟩;rintro v O' ⟨rfl,rfl⟩)
    |(refine⟨_,zal hb [[123],zd4 n.mn.toNat,[44],zd4 n.mx.toNat,[125]] (.cons (by decide) (.cons (zhi _) (.cons (by decide) (.cons (zhi _) (.cons (by decide) .nil))))) (show 5<=1000 by decide) (zdt hb (by have:=zbU 1 n.mn.toNat (by omega);have:=zbU 1 n.mx.toNat (by omega);simp only[ya1,ya7,yb2,yb3,yb6,yc2]at *;omega)),?_⟩;rintro v O' ⟨rfl,n',el',hb,rfl⟩)
    |(refine⟨_,zal hb [[110,111,116,32]] (.cons (by decide) .nil) (show 1<=1000 by decide) (zdt hb (by simp only[ya1,ya7,yb2,yb3,yb6,yc2]at *;omega)),?_⟩;rintro v O' ⟨rfl,n',el',hb,rfl⟩)
    |(refine⟨_,zwt gS _ zCE f [32,59,32] (by decide) n hn ih hb (h3 (by assumption)),?_⟩;rintro v O' ⟨rfl,n',el',hb,rfl⟩)
    |(refine⟨_,zwt gA _ zDc f [32,124,32] (by decide) n hn ih hb (h4 (by assumption)),?_⟩;rintro v O' ⟨rfl,n',el',hb,rfl⟩)
    |intro _)
 all_goals first
  |rfl
  |omega
  |(exfalso;(simp only[zz]at *;omega))
  |(refine⟨_,_,hb.to (e1 (tN1 ?_) (zCj ?_)),rfl⟩<;>(simp only[zz]at *;omega))
  |(refine⟨_,_,hb.to (e0 (tN1 ?_) (zAr ?_ ?_)),rfl⟩<;>(simp only[zz]at *;omega))
  |(refine⟨_,_,hb.to (e1 (tN2 ?_) rfl),rfl⟩<;>(simp only[zz]at *;omega))
  |(refine⟨_,_,hb.to (e2 (tN3 ?_)),rfl⟩<;>(simp only[zz]at *;omega))
  |(refine⟨_,_,hb.to (e2 (tN4 ?_)),rfl⟩<;>(simp only[zz]at *;omega))
  |(refine⟨_,_,hb.to (e3 (tN5 ?_)),rfl⟩<;>(simp only[zz]at *;omega))
end Go.Proofs.YtogdglnaagkaaaaGreatDoor
