import Derived.Test.YtogdglnaagkaaaaGreatDoorPg
set_option linter.unusedSimpArgs false
set_option linter.unusedVariables false
set_option maxRecDepth 100000
namespace Go.Proofs.YtogdglnaagkaaaaGreatDoor
open Go Go.Cx
theorem e1z{A R L T:List Nat}(h:T=A++R)(k:R=L):A++L=T:=by rw[h,k]
theorem e0z{A R T:List Nat}(h:T=A++R)(k:R=[]):A=T:=by rw[h,k,yc2]
set_option maxHeartbeats 8000000 in
theorem zyg(f:NodeM->List Nat)(n:NodeM)(hk:1<=n.kind/\n.kind<=4)(hk0:3<=n.kind->0<n.kids.length)(hn:n.kids.length<=1000)(ha:AtomOk n.atom)(hal:(zex n.atom).length<=50000)(hm:0<=n.mn/\n.mn<=99/\0<=n.mx/\n.mx<=99)(ih:∀m∈n.kids,∀bs k el,Byt bs k el->bs.length+(f m).length<=890000->DSpec Tryz.prog axX axG 53 [.ptr 0 0,.agg (zah m)] (B1 k el) (fun v O=>v=.tup []/\∃k el,Byt (bs++f m) k el/\O=B1 k el))(ih0:∀m∈n.kids,DSpec Tryz.prog axX axG 53 [.ptr 0 0,.agg (zah m)] B0 (fun v O=>v=.tup []/\∃k el,Byt (f m) k el/\O=B1 k el))(h3:(n.kind==3)=true->(kidsG f [32,59,32] gS n.kids n.kids.length).length<=890000)(h4:(n.kind==4)=true->(kidsG f [32,124,32] gA n.kids n.kids.length).length<=890000):DSpec Tryz.prog axX axG 53 [.ptr 0 0,.agg (zah n)] B0 (fun v O=>v=.tup []/\∃k el,Byt (zeE f n) k el/\∃j,0<j/\O[0]? = some (.cells 76 [.ptr 0 0,.lst j])/\O[j]? = some (.list 5 1 k el)):=by
 refine zac { glb:=axG } true Tryz.func53 (by kernel_rfl) rfl ?_
 repeat' (
   (conv=>whnf)
   first
    |exact zad (by kernel_rfl)
    |refine And.intro ?_ ?_
    |refine zaa ?_ ?_
    |(refine⟨_,zy4 n.atom ha.kind ha.bound ha.cs ha.name ha.cond,?_⟩;rintro v O' ⟨rfl,n',el',hb,rfl⟩)
    |(refine⟨_,zsp hb (show 4<=900000 by decide) n.atom ha.kind ha.bound ha.cs ha.name ha.cond,?_⟩;rintro v O' ⟨rfl,n',el',hb,rfl⟩)
    |(refine⟨_,zoy n.mn hm.1 hm.2.1,?_⟩;rintro v O' ⟨rfl,rfl⟩)
    |(refine⟨_,zoy n.mx hm.2.2.1 hm.2.2.2,?_⟩;rintro v O' ⟨rfl,rfl⟩)
    |(refine⟨_,zal hb [[123],zd4 n.mn.toNat,[44],zd4 n.mx.toNat,[125]] (.cons (by decide) (.cons (zhi _) (.cons (by decide) (.cons (zhi _) (.cons (by decide) .nil))))) (show 5<=1000 by decide) (zdt hb (by have:=zbU 1 n.mn.toNat (by omega);have:=zbU 1 n.mx.toNat (by omega);simp only[ya1,ya7,yb2,yb3,yb6,yc2]at *;omega)),?_⟩;rintro v O' ⟨rfl,n',el',hb,rfl⟩)
    |(refine⟨_,zpX [[110,111,116,32]] (.cons (by decide) .nil) (show 0<1 by decide) (show 1<=1000 by decide) (show 4<=1000000 by decide),?_⟩;rintro v O' ⟨rfl,n',el',hb,rfl⟩)
    |(refine⟨_,zwC gS _ zCE f [32,59,32] (by decide) n hn (hk0 (by(simp only[zz]at *;omega))) ih ih0 (h3 (by assumption)),?_⟩;rintro v O' ⟨rfl,n',el',hb,rfl⟩)
    |(refine⟨_,zwC gA _ zDc f [32,124,32] (by decide) n hn (hk0 (by(simp only[zz]at *;omega))) ih ih0 (h4 (by assumption)),?_⟩;rintro v O' ⟨rfl,n',el',hb,rfl⟩)
    |intro _)
 all_goals first
  |rfl
  |omega
  |(exfalso;(simp only[zz]at *;omega))
  |(refine⟨_,_,hb.to (e1z (tN1 ?_) (zCj ?_)),2,by decide,rfl,rfl⟩<;>(simp only[zz]at *;omega))
  |(refine⟨_,_,hb.to (e0z (tN1 ?_) (zAr ?_ ?_)),2,by decide,rfl,rfl⟩<;>(simp only[zz]at *;omega))
  |(refine⟨_,_,hb.to (e1z (tN2 ?_) rfl),2,by decide,rfl,rfl⟩<;>(simp only[zz]at *;omega))
  |(refine⟨_,_,hb.to ((tN3 ?_).symm),2,by decide,rfl,rfl⟩<;>(simp only[zz]at *;omega))
  |(refine⟨_,_,hb.to ((tN4 ?_).symm),2,by decide,rfl,rfl⟩<;>(simp only[zz]at *;omega))
  |(refine⟨_,_,hb.to (e1z (tN1 ?_) (zCj ?_)),3,by decide,rfl,rfl⟩<;>(simp only[zz]at *;omega))
  |(refine⟨_,_,hb.to (e0z (tN1 ?_) (zAr ?_ ?_)),3,by decide,rfl,rfl⟩<;>(simp only[zz]at *;omega))
  |(refine⟨_,_,hb.to (e1z (tN2 ?_) rfl),3,by decide,rfl,rfl⟩<;>(simp only[zz]at *;omega))
  |(refine⟨_,_,hb.to ((tN3 ?_).symm),3,by decide,rfl,rfl⟩<;>(simp only[zz]at *;omega))
  |(refine⟨_,_,hb.to ((tN4 ?_).symm),3,by decide,rfl,rfl⟩<;>(simp only[zz]at *;omega))
  |(refine⟨_,_,hb.to (e1z (tN1 ?_) (zCj ?_)),4,by decide,rfl,rfl⟩<;>(simp only[zz]at *;omega))
  |(refine⟨_,_,hb.to (e0z (tN1 ?_) (zAr ?_ ?_)),4,by decide,rfl,rfl⟩<;>(simp only[zz]at *;omega))
  |(refine⟨_,_,hb.to (e1z (tN2 ?_) rfl),4,by decide,rfl,rfl⟩<;>(simp only[zz]at *;omega))
  |(refine⟨_,_,hb.to ((tN3 ?_).symm),4,by decide,rfl,rfl⟩<;>(simp only[zz]at *;omega))
  |(refine⟨_,_,hb.to ((tN4 ?_).symm),4,by decide,rfl,rfl⟩<;>(simp only[zz]at *;omega))
  |(refine⟨_,_,hb.to (e1z (tN1 ?_) (zCj ?_)),5,by decide,rfl,rfl⟩<;>(simp only[zz]at *;omega))
  |(refine⟨_,_,hb.to (e0z (tN1 ?_) (zAr ?_ ?_)),5,by decide,rfl,rfl⟩<;>(simp only[zz]at *;omega))
  |(refine⟨_,_,hb.to (e1z (tN2 ?_) rfl),5,by decide,rfl,rfl⟩<;>(simp only[zz]at *;omega))
  |(refine⟨_,_,hb.to ((tN3 ?_).symm),5,by decide,rfl,rfl⟩<;>(simp only[zz]at *;omega))
  |(refine⟨_,_,hb.to ((tN4 ?_).symm),5,by decide,rfl,rfl⟩<;>(simp only[zz]at *;omega))
  |(refine⟨_,_,hb.to (e1z (tN1 ?_) (zCj ?_)),1,by decide,rfl,rfl⟩<;>(simp only[zz]at *;omega))
  |(refine⟨_,_,hb.to (e0z (tN1 ?_) (zAr ?_ ?_)),1,by decide,rfl,rfl⟩<;>(simp only[zz]at *;omega))
  |(refine⟨_,_,hb.to (e1z (tN2 ?_) rfl),1,by decide,rfl,rfl⟩<;>(simp only[zz]at *;omega))
  |(refine⟨_,_,hb.to ((tN3 ?_).symm),1,by decide,rfl,rfl⟩<;>(simp only[zz]at *;omega))
  |(refine⟨_,_,hb.to ((tN4 ?_).symm),1,by decide,rfl,rfl⟩<;>(simp only[zz]at *;omega))
end Go.Proofs.YtogdglnaagkaaaaGreatDoor
