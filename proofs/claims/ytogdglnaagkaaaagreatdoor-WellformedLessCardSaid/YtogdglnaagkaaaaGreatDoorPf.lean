import Derived.Test.YtogdglnaagkaaaaGreatDoorPe
set_option linter.unusedSimpArgs false
set_option linter.unusedVariables false
set_option maxRecDepth 100000
namespace Go.Proofs.YtogdglnaagkaaaaGreatDoor
open Go Go.Cx
set_option maxHeartbeats 8000000 in
theorem zx1(g:Int->Bool)(fid:FuncId)(hin:∀x,DSpec Tryz.prog axX axG fid [ai x] [] (fun v O=>v=ab (g x)/\O=[]))(f:NodeM->List Nat)(sep:List Nat)(hsp:∀b∈sep,b<256)(n:NodeM)(hn:n.kids.length<=1000)(h0:0<n.kids.length)(ih:∀m∈n.kids,∀bs k el,Byt bs k el->bs.length+(f m).length<=890000->DSpec Tryz.prog axX axG 53 [.ptr 0 0,.agg (zah m)] (B1 k el) (fun v O=>v=.tup []/\∃k el,Byt (bs++f m) k el/\O=B1 k el))(ih0:∀m∈n.kids,DSpec Tryz.prog axX axG 53 [.ptr 0 0,.agg (zah m)] B0 (fun v O=>v=.tup []/\∃k el,Byt (f m) k el/\O=B1 k el))(hbl:(kidsG f sep g n.kids n.kids.length).length<=890000):DSpec Tryz.prog axX axG 75 [.ptr 0 0,.agg (zah n),.cv (.str sep),.fn fid [] []] B0 (fun v O=>v=.tup []/\∃k el,Byt (kidsG f sep g n.kids n.kids.length) k el/\∃j,0<j/\O[0]? = some (.cells 76 [.ptr 0 0,.lst j])/\O[j]? = some (.list 5 1 k el)):=by
 have hstS:=zo5 (f:=f) (sep:=sep) (g:=g) (l:=n.kids);have hst0:=zpf (f:=f) (sep:=sep) (g:=g) (l:=n.kids);have httS:=zrQ (f:=f) (sep:=sep) (g:=g) (l:=n.kids);have htt0:=zsz (f:=f) (sep:=sep) (g:=g) (l:=n.kids);rcases zdY n with he |he
 ·omega
 rw[he];refine zac { glb:=axG,ann:=[(2,[13])] } true Tryz.func75 (by kernel_rfl) rfl ?_
 repeat' (
   (conv=>whnf)
   first
    |exact zad (by kernel_rfl)
    |refine And.intro ?_ ?_
    |refine zaa ?_ ?_
    |(refine⟨_,ih (atN n.kids (k+1)) (zdN (show k+1<n.kids.length by(simp only[zz]at *;omega))) _ _ _ hb (by have:=hstS k (show k+1<n.kids.length by(simp only[zz]at *;omega));have:=httS k (show k+1<n.kids.length by(simp only[zz]at *;omega)) (by assumption);simp only[ya1,ya7,yb2,yb3,yb6,yc2,kidsG]at *;omega),?_⟩;rintro v O' ⟨rfl,n',el',hb,rfl⟩)
    |(refine⟨_,ih (atN n.kids (k+1)) (zdN (show k+1<n.kids.length by(simp only[zz]at *;omega))) _ _ _ hb (by have:=hstS k (show k+1<n.kids.length by(simp only[zz]at *;omega));simp only[ya1,ya7,yb2,yb3,yb6,yc2,kidsG]at *;omega),?_⟩;rintro v O' ⟨rfl,n',el',hb,rfl⟩)
    |(refine⟨_,ih (atN n.kids (0)) (zdN (show 0<n.kids.length by(simp only[zz]at *;omega))) _ _ _ hb (by have:=hst0 h0;have:=htt0 h0 (by assumption);simp only[ya1,ya7,yb2,yb3,yb6,yc2,kidsG]at *;omega),?_⟩;rintro v O' ⟨rfl,n',el',hb,rfl⟩)
    |(refine⟨_,ih (atN n.kids (0)) (zdN (show 0<n.kids.length by(simp only[zz]at *;omega))) _ _ _ hb (by have:=hst0 h0;simp only[ya1,ya7,yb2,yb3,yb6,yc2,kidsG]at *;omega),?_⟩;rintro v O' ⟨rfl,n',el',hb,rfl⟩)
    |(refine⟨_,ih0 (atN n.kids 0) (zdN h0),?_⟩;rintro v O' ⟨rfl,n',el',hb,rfl⟩)
    |(refine⟨_,zal hb [[40]] (.cons (by decide) .nil) (show 1<=1000 by decide) (zdt hb (by have:=hstS k (show k+1<n.kids.length by(simp only[zz]at *;omega));simp only[ya1,ya7,yb2,yb3,yb6,yc2,kidsG]at *;omega)),?_⟩;rintro v O' ⟨rfl,n',el',hb,rfl⟩)
    |(refine⟨_,zal hb [[41]] (.cons (by decide) .nil) (show 1<=1000 by decide) (zdt hb (by have:=hstS k (show k+1<n.kids.length by(simp only[zz]at *;omega));simp only[ya1,ya7,yb2,yb3,yb6,yc2,kidsG]at *;omega)),?_⟩;rintro v O' ⟨rfl,n',el',hb,rfl⟩)
    |(refine⟨_,zal hb [sep] (.cons hsp .nil) (show 1<=1000 by decide) (zdt hb (by have:=hstS k (show k+1<n.kids.length by(simp only[zz]at *;omega));simp only[ya1,ya7,yb2,yb3,yb6,yc2,kidsG]at *;omega)),?_⟩;rintro v O' ⟨rfl,n',el',hb,rfl⟩)
    |(refine⟨_,zal hb [[40]] (.cons (by decide) .nil) (show 1<=1000 by decide) (zdt hb (by have:=hst0 h0;simp only[ya1,ya7,yb2,yb3,yb6,yc2,kidsG]at *;omega)),?_⟩;rintro v O' ⟨rfl,n',el',hb,rfl⟩)
    |(refine⟨_,zal hb [[41]] (.cons (by decide) .nil) (show 1<=1000 by decide) (zdt hb (by have:=hst0 h0;simp only[ya1,ya7,yb2,yb3,yb6,yc2,kidsG]at *;omega)),?_⟩;rintro v O' ⟨rfl,n',el',hb,rfl⟩)
    |(refine⟨_,zal hb [sep] (.cons hsp .nil) (show 1<=1000 by decide) (zdt hb (by have:=hst0 h0;simp only[ya1,ya7,yb2,yb3,yb6,yc2,kidsG]at *;omega)),?_⟩;rintro v O' ⟨rfl,n',el',hb,rfl⟩)
    |(refine⟨_,zpX [[40]] (.cons (by decide) .nil) (show 0<1 by decide) (show 1<=1000 by decide) (show 1<=1000000 by decide),?_⟩;rintro v O' ⟨rfl,n',el',hb,rfl⟩)
    |(refine⟨_,hin _,?_⟩;rintro v O' ⟨rfl,rfl⟩)
    |((refine⟨fun vs O _=>(vs=[ai 0]/\O=[.cells 76 [.cv .nilp,.cv .nils],.cells 30 (zgw n (fun i=>zah (atN n.kids i)))])\/(∃(k:Nat) (n':Nat) (el':Nat->List SV),k+1<=n.kids.length/\Byt (kidsG f sep g n.kids (k+1)) n' el'/\vs=[ai ((k+1:Nat):Int)]/\O=[.cells 76 [.ptr 0 0,.lst 3],.cells 30 (zgw n (fun i=>zah (atN n.kids i))),.dead,.list 5 1 n' el'])\/(∃(k:Nat) (n':Nat) (el':Nat->List SV),k+1<=n.kids.length/\Byt (kidsG f sep g n.kids (k+1)) n' el'/\vs=[ai ((k+1:Nat):Int)]/\O=[.cells 76 [.ptr 0 0,.lst 4],.cells 30 (zgw n (fun i=>zah (atN n.kids i))),.dead,.dead,.list 5 1 n' el']),fun vs O=>match vs with |[.cv (.int _ k)]=>n.kids.length - k.toNat |_=>0,.inl ⟨rfl,rfl⟩,?_⟩;rintro vs O _ (⟨rfl,rfl⟩ |⟨k,n',el',hk,hb,rfl,rfl⟩ |⟨k,n',el',hk,hb,rfl,rfl⟩)))
    |intro _)
 all_goals first
  |rfl
  |omega
  |(simp only[zz]at *;omega)
  |(exfalso;(simp only[zz]at *;omega))
  |exact absurd ((show g (atN n.kids (k+1)).kind=true by assumption).symm.trans (show g (atN n.kids (k+1)).kind=false by assumption)) (by decide)
  |exact absurd ((show g (atN n.kids 0).kind=true by assumption).symm.trans (show g (atN n.kids 0).kind=false by assumption)) (by decide)
  |exact⟨_,_,hb.to (by rw[show n.kids.length=k+1 by(simp only[zz]at *;omega)]),3,by decide,rfl,rfl⟩
  |exact⟨_,_,hb.to (by rw[show n.kids.length=k+1 by(simp only[zz]at *;omega)]),4,by decide,rfl,rfl⟩
  |exact .inr (.inl ⟨k+1,_,_,by(simp only[zz]at *;omega),hb.to (by rw[kidsG.eq_2 _ _ _ _ (k+1),if_neg (Nat.succ_ne_zero k),show g (atN n.kids (k+1)).kind=true by assumption];simp[zkt]),rfl,rfl⟩)
  |exact .inr (.inl ⟨0,_,_,by(simp only[zz]at *;omega),hb.to (by rw[kidsG.eq_2 _ _ _ _ 0,if_pos rfl,show g (atN n.kids 0).kind=true by assumption];simp[zkt,kidsG]),rfl,rfl⟩)
  |exact .inr (.inl ⟨k+1,_,_,by(simp only[zz]at *;omega),hb.to (by rw[kidsG.eq_2 _ _ _ _ (k+1),if_neg (Nat.succ_ne_zero k),show g (atN n.kids (k+1)).kind=false by assumption];simp[zkt]),rfl,rfl⟩)
  |exact .inr (.inl ⟨0,_,_,by(simp only[zz]at *;omega),hb.to (by rw[kidsG.eq_2 _ _ _ _ 0,if_pos rfl,show g (atN n.kids 0).kind=false by assumption];simp[zkt,kidsG]),rfl,rfl⟩)
  |exact .inr (.inr ⟨k+1,_,_,by(simp only[zz]at *;omega),hb.to (by rw[kidsG.eq_2 _ _ _ _ (k+1),if_neg (Nat.succ_ne_zero k),show g (atN n.kids (k+1)).kind=true by assumption];simp[zkt]),rfl,rfl⟩)
  |exact .inr (.inr ⟨0,_,_,by(simp only[zz]at *;omega),hb.to (by rw[kidsG.eq_2 _ _ _ _ 0,if_pos rfl,show g (atN n.kids 0).kind=true by assumption];simp[zkt,kidsG]),rfl,rfl⟩)
  |exact .inr (.inr ⟨k+1,_,_,by(simp only[zz]at *;omega),hb.to (by rw[kidsG.eq_2 _ _ _ _ (k+1),if_neg (Nat.succ_ne_zero k),show g (atN n.kids (k+1)).kind=false by assumption];simp[zkt]),rfl,rfl⟩)
  |exact .inr (.inr ⟨0,_,_,by(simp only[zz]at *;omega),hb.to (by rw[kidsG.eq_2 _ _ _ _ 0,if_pos rfl,show g (atN n.kids 0).kind=false by assumption];simp[zkt,kidsG]),rfl,rfl⟩)
theorem zwC(g:Int->Bool)(fid:FuncId)(hin:∀x,DSpec Tryz.prog axX axG fid [ai x] [] (fun v O=>v=ab (g x)/\O=[]))(f:NodeM->List Nat)(sep:List Nat)(hsp:∀b∈sep,b<256)(n:NodeM)(hn:n.kids.length<=1000)(h0:0<n.kids.length)(ih:∀m∈n.kids,∀bs k el,Byt bs k el->bs.length+(f m).length<=890000->DSpec Tryz.prog axX axG 53 [.ptr 0 0,.agg (zah m)] (B1 k el) (fun v O=>v=.tup []/\∃k el,Byt (bs++f m) k el/\O=B1 k el))(ih0:∀m∈n.kids,DSpec Tryz.prog axX axG 53 [.ptr 0 0,.agg (zah m)] B0 (fun v O=>v=.tup []/\∃k el,Byt (f m) k el/\O=B1 k el))(hbl:(kidsG f sep g n.kids n.kids.length).length<=890000):DSpec Tryz.prog axX axG 75 [.ptr 0 0,.agg (zah n),.cv (.str sep),.fn fid [] []] B0 (fun v O=>v=.tup []/\∃k el,Byt (kidsG f sep g n.kids n.kids.length) k el/\O=B1 k el):=zrZ (zx1 g fid hin f sep hsp n hn h0 ih ih0 hbl)
end Go.Proofs.YtogdglnaagkaaaaGreatDoor
