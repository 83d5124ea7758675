import Derived.Test.YtogdglnaagkaaaaGreatDoorPd
set_option linter.unusedSimpArgs false
set_option linter.unusedVariables false
set_option maxRecDepth 100000
namespace Go.Proofs.YtogdglnaagkaaaaGreatDoor
open Go Go.Cx
def kidsG(f:NodeM->List Nat)(sep:List Nat)(g:Int->Bool)(l:List NodeM):Nat->List Nat
 |0=>[]
 |k+1=>kidsG f sep g l k++(if k=0 then[]else sep)++zkt (g (atN l k).kind) (f (atN l k))
theorem zrq(f:NodeM->List Nat)(sep:List Nat)(g:Int->Bool)(l:List NodeM)(k:Nat):∀j,(kidsG f sep g l k).length<=(kidsG f sep g l (k+j)).length
 |0=>Nat.le_refl _
 |j+1=>by
  refine Nat.le_trans (zrq f sep g l k j) ?_;rw[show k+(j+1)=(k+j)+1 by omega,kidsG,ya1,ya1];omega
theorem zyF{f:NodeM->List Nat}{sep:List Nat}{g:Int->Bool}{l:List NodeM}{k:Nat}(h:k<=l.length):(kidsG f sep g l k).length<=(kidsG f sep g l l.length).length:=by
 have:=zrq f sep g l k (l.length - k)
 rwa [show k+(l.length - k)=l.length by omega]at this
theorem ze3{f:NodeM->List Nat}{sep:List Nat}{g:Int->Bool}{l:List NodeM}{k:Nat}(h:k<l.length):(kidsG f sep g l k).length+(if k=0 then[]else sep).length+(zkt (g (atN l k).kind) (f (atN l k))).length<=(kidsG f sep g l l.length).length:=by
 have:=zyF (f:=f) (sep:=sep) (g:=g) (show k+1<=l.length by omega);rw[kidsG,ya1,ya1]at this;exact this
theorem zvc(b:Bool)(t:List Nat):t.length<=(zkt b t).length:=by
 unfold zkt;cases b<;>simp only[cond_true,cond_false,ya1]<;>omega
theorem zpf{f:NodeM->List Nat}{sep:List Nat}{g:Int->Bool}{l:List NodeM}(h:0<l.length):(f (atN l 0)).length<=(kidsG f sep g l l.length).length:=by
 have:=ze3 (f:=f) (sep:=sep) (g:=g) h;have:=zvc (g (atN l 0).kind) (f (atN l 0));omega
theorem zo5{f:NodeM->List Nat}{sep:List Nat}{g:Int->Bool}{l:List NodeM}(k:Nat)(h:k+1<l.length):(kidsG f sep g l (k+1)).length+sep.length+(f (atN l (k+1))).length<=(kidsG f sep g l l.length).length:=by
 have:=ze3 (f:=f) (sep:=sep) (g:=g) h;have:=zvc (g (atN l (k+1)).kind) (f (atN l (k+1)));rw[if_neg (Nat.succ_ne_zero k)]at *;omega
theorem zsz{f:NodeM->List Nat}{sep:List Nat}{g:Int->Bool}{l:List NodeM}(h:0<l.length)(hg:g (atN l 0).kind=true):(f (atN l 0)).length+2<=(kidsG f sep g l l.length).length:=by
 have:=ze3 (f:=f) (sep:=sep) (g:=g) h;rw[hg]at this;simp only[zkt,cond_true,ya1,ya7,yb2]at this;omega
theorem zrQ{f:NodeM->List Nat}{sep:List Nat}{g:Int->Bool}{l:List NodeM}(k:Nat)(h:k+1<l.length)(hg:g (atN l (k+1)).kind=true):(kidsG f sep g l (k+1)).length+sep.length+(f (atN l (k+1))).length+2<=(kidsG f sep g l l.length).length:=by
 have:=ze3 (f:=f) (sep:=sep) (g:=g) h;rw[hg,if_neg (Nat.succ_ne_zero k)]at this;simp only[zkt,cond_true,ya1,ya7,yb2]at this;omega
def gS(k:Int):Bool:=k==3||k==4
def gA(k:Int):Bool:=k==4
theorem zCE(x:Int):DSpec Tryz.prog axX axG 76 [ai x] [] (fun v O=>v=ab (gS x)/\O=[]):=by
 refine zac { glb:=axG } true Tryz.func76 (by kernel_rfl) rfl ?_
 repeat' (
   (conv=>whnf)
   first
    |exact zad (by kernel_rfl)
    |refine And.intro ?_ ?_
    |refine zaa ?_ ?_
    |intro _)
 all_goals first
  |rfl
  |(unfold gS;(simp only[*,Bool.true_and,Bool.and_true,Bool.false_and,Bool.and_false,Bool.true_or,Bool.or_true,Bool.false_or,Bool.or_false,Bool.not_true,Bool.not_false,Bool.not_not,cond_true,cond_false];first |done |rfl))
  |(unfold gS;simp_all;done)
theorem zDc(x:Int):DSpec Tryz.prog axX axG 77 [ai x] [] (fun v O=>v=ab (gA x)/\O=[]):=by
 refine zac { glb:=axG } true Tryz.func77 (by kernel_rfl) rfl ?_
 repeat' (
   (conv=>whnf)
   first
    |exact zad (by kernel_rfl)
    |refine And.intro ?_ ?_
    |refine zaa ?_ ?_
    |intro _)
 all_goals first
  |rfl
  |(unfold gA;(simp only[*,Bool.true_and,Bool.and_true,Bool.false_and,Bool.and_false,Bool.true_or,Bool.or_true,Bool.false_or,Bool.or_false,Bool.not_true,Bool.not_false,Bool.not_not,cond_true,cond_false];first |done |rfl))
  |(unfold gA;simp_all;done)
set_option maxHeartbeats 8000000 in
theorem zwt(g:Int->Bool)(fid:FuncId)(hin:∀x,DSpec Tryz.prog axX axG fid [ai x] [] (fun v O=>v=ab (g x)/\O=[]))(f:NodeM->List Nat)(sep:List Nat)(hsp:∀b∈sep,b<256)(n:NodeM)(hn:n.kids.length<=1000)(ih:∀m∈n.kids,∀bs k el,Byt bs k el->bs.length+(f m).length<=890000->DSpec Tryz.prog axX axG 53 [.ptr 0 0,.agg (zah m)] (B1 k el) (fun v O=>v=.tup []/\∃k el,Byt (bs++f m) k el/\O=B1 k el)){bs:List Nat}{k0:Nat}{el:Nat->List SV}(hb:Byt bs k0 el)(hbl:bs.length+(kidsG f sep g n.kids n.kids.length).length<=890000):DSpec Tryz.prog axX axG 75 [.ptr 0 0,.agg (zah n),.cv (.str sep),.fn fid [] []] (B1 k0 el) (fun v O=>v=.tup []/\∃k el,Byt (bs++kidsG f sep g n.kids n.kids.length) k el/\O=B1 k el):=by
 have hstS:=zo5 (f:=f) (sep:=sep) (g:=g) (l:=n.kids);have hst0:=zpf (f:=f) (sep:=sep) (g:=g) (l:=n.kids);have httS:=zrQ (f:=f) (sep:=sep) (g:=g) (l:=n.kids);have htt0:=zsz (f:=f) (sep:=sep) (g:=g) (l:=n.kids);rcases zdY n with he |he
 all_goals try rw[he]
 all_goals
  refine zac { glb:=axG,ann:=[(2,[13])] } true Tryz.func75 (by kernel_rfl) rfl ?_
  repeat' (
    (conv=>whnf)
    first
     |exact zad (by kernel_rfl)
     |refine And.intro ?_ ?_
     |refine zaa ?_ ?_
     |(refine⟨_,ih (atN n.kids (k+1)) (zdN (show k+1<n.kids.length by(simp only[zz]at *;omega))) _ _ _ hb (by have:=hstS k (show k+1<n.kids.length by(simp only[zz]at *;omega));have:=httS k (show k+1<n.kids.length by(simp only[zz]at *;omega)) (by assumption);simp only[ya1,ya7,yb2,yb3,yb6,yc2,kidsG]at *;omega),?_⟩;rintro v O' ⟨rfl,n',el',hb,rfl⟩)
     |(refine⟨_,ih (atN n.kids (k+1)) (zdN (show k+1<n.kids.length by(simp only[zz]at *;omega))) _ _ _ hb (by have:=hstS k (show k+1<n.kids.length by(simp only[zz]at *;omega));simp only[ya1,ya7,yb2,yb3,yb6,yc2,kidsG]at *;omega),?_⟩;rintro v O' ⟨rfl,n',el',hb,rfl⟩)
     |(refine⟨_,ih (atN n.kids (0)) (zdN (show 0<n.kids.length by(simp only[zz]at *;omega))) _ _ _ hb (by have:=hst0 (show 0<n.kids.length by(simp only[zz]at *;omega));have:=htt0 (show 0<n.kids.length by(simp only[zz]at *;omega)) (by assumption);simp only[ya1,ya7,yb2,yb3,yb6,yc2,kidsG]at *;omega),?_⟩;rintro v O' ⟨rfl,n',el',hb,rfl⟩)
     |(refine⟨_,ih (atN n.kids (0)) (zdN (show 0<n.kids.length by(simp only[zz]at *;omega))) _ _ _ hb (by have:=hst0 (show 0<n.kids.length by(simp only[zz]at *;omega));simp only[ya1,ya7,yb2,yb3,yb6,yc2,kidsG]at *;omega),?_⟩;rintro v O' ⟨rfl,n',el',hb,rfl⟩)
     |(refine⟨_,zal hb [[40]] (.cons (by decide) .nil) (show 1<=1000 by decide) (zdt hb (by have:=hstS k (show k+1<n.kids.length by(simp only[zz]at *;omega));simp only[ya1,ya7,yb2,yb3,yb6,yc2,kidsG]at *;omega)),?_⟩;rintro v O' ⟨rfl,n',el',hb,rfl⟩)
     |(refine⟨_,zal hb [[41]] (.cons (by decide) .nil) (show 1<=1000 by decide) (zdt hb (by have:=hstS k (show k+1<n.kids.length by(simp only[zz]at *;omega));simp only[ya1,ya7,yb2,yb3,yb6,yc2,kidsG]at *;omega)),?_⟩;rintro v O' ⟨rfl,n',el',hb,rfl⟩)
     |(refine⟨_,zal hb [sep] (.cons hsp .nil) (show 1<=1000 by decide) (zdt hb (by have:=hstS k (show k+1<n.kids.length by(simp only[zz]at *;omega));simp only[ya1,ya7,yb2,yb3,yb6,yc2,kidsG]at *;omega)),?_⟩;rintro v O' ⟨rfl,n',el',hb,rfl⟩)
     |(refine⟨_,zal hb [[40]] (.cons (by decide) .nil) (show 1<=1000 by decide) (zdt hb (by have:=hst0 (show 0<n.kids.length by(simp only[zz]at *;omega));simp only[ya1,ya7,yb2,yb3,yb6,yc2,kidsG]at *;omega)),?_⟩;rintro v O' ⟨rfl,n',el',hb,rfl⟩)
     |(refine⟨_,zal hb [[41]] (.cons (by decide) .nil) (show 1<=1000 by decide) (zdt hb (by have:=hst0 (show 0<n.kids.length by(simp only[zz]at *;omega));simp only[ya1,ya7,yb2,yb3,yb6,yc2,kidsG]at *;omega)),?_⟩;rintro v O' ⟨rfl,n',el',hb,rfl⟩)
     |(refine⟨_,zal hb [sep] (.cons hsp .nil) (show 1<=1000 by decide) (zdt hb (by have:=hst0 (show 0<n.kids.length by(simp only[zz]at *;omega));simp only[ya1,ya7,yb2,yb3,yb6,yc2,kidsG]at *;omega)),?_⟩;rintro v O' ⟨rfl,n',el',hb,rfl⟩)
     |(refine⟨_,hin _,?_⟩;rintro v O' ⟨rfl,rfl⟩)
     |((refine⟨fun vs O _=>∃(k:Nat) (n':Nat) (el':Nat->List SV),k<=n.kids.length/\Byt (bs++kidsG f sep g n.kids k) n' el'/\vs=[ai k]/\O=[.cells 76 [.ptr 0 0,.lst 1],.list 5 1 n' el',.cells 30 (zgw n _)],fun vs O=>match vs with |[.cv (.int _ k)]=>n.kids.length - k.toNat |_=>0,⟨0,_,_,Nat.zero_le _,hb.to (by simp[kidsG]),rfl,rfl⟩,?_⟩;rintro vs O _ ⟨k,n',el',hk,hb,rfl,rfl⟩;rcases k with _ |k;rotate_left))
     |intro _)
 all_goals first
  |rfl
  |omega
  |(simp only[zz]at *;omega)
  |(exfalso;(simp only[zz]at *;omega))
  |exact absurd ((show g (atN n.kids (k+1)).kind=true by assumption).symm.trans (show g (atN n.kids (k+1)).kind=false by assumption)) (by decide)
  |exact absurd ((show g (atN n.kids 0).kind=true by assumption).symm.trans (show g (atN n.kids 0).kind=false by assumption)) (by decide)
  |exact⟨_,_,hb,rfl⟩
  |exact⟨_,_,hb.to (by rw[show n.kids.length=k+1 by(simp only[zz]at *;omega)]),rfl⟩
  |exact⟨_,_,hb.to (by rw[show n.kids.length=0 by(simp only[zz]at *;omega)]),rfl⟩
  |exact⟨k+1+1,_,_,by(simp only[zz]at *;omega),hb.to (by rw[kidsG.eq_2 _ _ _ _ (k+1),if_neg (Nat.succ_ne_zero k),show g (atN n.kids (k+1)).kind=true by assumption];simp[zkt]),rfl,rfl⟩
  |exact⟨k+1+1,_,_,by(simp only[zz]at *;omega),hb.to (by rw[kidsG.eq_2 _ _ _ _ (k+1),if_neg (Nat.succ_ne_zero k),show g (atN n.kids (k+1)).kind=false by assumption];simp[zkt]),rfl,rfl⟩
  |exact⟨1,_,_,by(simp only[zz]at *;omega),hb.to (by rw[kidsG.eq_2 _ _ _ _ 0,if_pos rfl,show g (atN n.kids 0).kind=true by assumption];simp[zkt,kidsG]),rfl,rfl⟩
  |exact⟨1,_,_,by(simp only[zz]at *;omega),hb.to (by rw[kidsG.eq_2 _ _ _ _ 0,if_pos rfl,show g (atN n.kids 0).kind=false by assumption];simp[zkt,kidsG]),rfl,rfl⟩
end Go.Proofs.YtogdglnaagkaaaaGreatDoor
