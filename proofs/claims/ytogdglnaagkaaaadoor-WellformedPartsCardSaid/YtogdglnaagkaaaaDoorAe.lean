import Derived.Test.YtogdglnaagkaaaaDoorAd
import Derived.Test.YtogdglnaagkaaaaDoorAz
set_option linter.unusedSimpArgs false
set_option linter.unusedVariables false
set_option maxRecDepth 100000
namespace Go.Proofs.YtogdglnaagkaaaaDoor
open Go Go.Cx
def zmf{A:Type}(n:NodeM)(q:Int×NodeM->Bool)(f:Int×NodeM->A)(k:Nat):List A:=(((zaZ 1 n).take k).filter q).map f
def zuX{A:Type}(n:NodeM)(q:Int×NodeM->Bool)(f:Int×NodeM->A):List A:=((zaZ 1 n).filter q).map f
def za5(p:Int×NodeM):Bool:=zjv p.2
def zhK(p:Int×NodeM):AtomM:=p.2.atom
def zu6(p:Int×NodeM):Bool:=p.2.kind==2
def zo0(p:Int×NodeM):Int:=p.1
def zdN(_:Int×NodeM):Bool:=true
noncomputable def za6(n:NodeM):Int:=bif zaS 200 n then 0 else 3
theorem zB5{e x:Nat->List SV}(i:Nat):zcd 0 e x i=x i:=by
 unfold zcd;rw[if_neg (Nat.not_lt_zero i)];rfl
theorem zoU(l:List CondM)(hl:l.length<=1000000):DSpec Tryd.prog axX axG 40 [.isl 2 l.length (zbo l)] [] (fun v O=>v=.isl 2 l.length (zbo l)/\O=[]):=by
 refine DSpec.same (post:=fun v O=>Same v (.isl 2 l.length (zbo l))/\O=[]) ?_ fun v O h=>⟨_,h.1,rfl,h.2⟩
 refine zac { glb:=axG } true Tryd.func40 (by kernel_rfl) rfl ?_
 repeat' (
   (conv=>whnf)
   first
    |exact zaf (by kernel_rfl)
    |refine And.intro ?_ ?_
    |refine zaa ?_ ?_
    |intro _)
 all_goals first
  |rfl
  |omega
  |(rename_i hz;rw[hz];exact .nils)
  |(rw[Nat.zero_add];exact .isl fun i hi=>zB5 i)
theorem zvY(n:NodeM)(d:Int)(hn:Fit n):DSpec Tryd.prog axX axG 39 [ai d,.agg (zah n)] [] (fun v O=>v=.tup [.agg (zjt n.atom),ab (zjv n)]/\O=[]):=by
 refine zac { glb:=axG } true Tryd.func39 (by kernel_rfl) rfl ?_
 repeat' (
   (conv=>whnf)
   first
    |exact zaf (by kernel_rfl)
    |refine And.intro ?_ ?_
    |refine zaa ?_ ?_
    |(refine⟨_,zoU n.atom.cs hn.self.2,?_⟩;rintro v O' ⟨rfl,rfl⟩)
    |(refine⟨_,zwJ n,?_⟩;rintro v O' ⟨rfl,rfl⟩)
    |intro _)
 all_goals first
  |rfl
  |omega
theorem zqZ(n:NodeM)(d:Int):DSpec Tryd.prog axX axG 64 [ai d,.agg (zah n)] [] (fun v O=>v=.tup [ab (n.kind==2),ab (zjv n)]/\O=[]):=by
 refine zac { glb:=axG } true Tryd.func64 (by kernel_rfl) rfl ?_
 repeat' (
   (conv=>whnf)
   first
    |exact zaf (by kernel_rfl)
    |refine And.intro ?_ ?_
    |refine zaa ?_ ?_
    |(refine⟨_,zwJ n,?_⟩;rintro v O' ⟨rfl,rfl⟩)
    |intro _)
 all_goals first
  |rfl
  |omega
theorem zuN(n:NodeM)(d:Int):DSpec Tryd.prog axX axG 55 [ai d,.agg (zah n)] [] (fun v O=>v=.tup [ai d,ab true]/\O=[]):=by
 refine zac { glb:=axG } true Tryd.func55 (by kernel_rfl) rfl ?_
 repeat' (
   (conv=>whnf)
   first
    |exact zaf (by kernel_rfl)
    |refine And.intro ?_ ?_
    |refine zaa ?_ ?_
    |intro _)
 all_goals first
  |rfl
  |omega
theorem zlH(n:NodeM)(hn:Fit n):DSpec Tryd.prog axX axG 52 [.agg (zah n)] [] (fun v O=>v=ai (za6 n)/\O=[]):=by
 have h:=zxK 200 (by decide) n hn;refine zac { glb:=axG } true Tryd.func52 (by kernel_rfl) rfl ?_
 repeat' (
   (conv=>whnf)
   first
    |exact zaf (by kernel_rfl)
    |refine And.intro ?_ ?_
    |refine zaa ?_ ?_
    |(refine⟨_,h,?_⟩;rintro v O' ⟨rfl,rfl⟩)
    |intro _)
 all_goals first
  |rfl
  |omega
  |(rename_i hz;unfold za6;rw[Bool.not_eq_true']at hz;rw[hz];rfl)
  |(rename_i hz;unfold za6;rw[Bool.not_eq_false']at hz;rw[hz];rfl)
noncomputable def zee{A:Type}(n:NodeM)(q:Int×NodeM->Bool)(f:Int×NodeM->A):List A:=bif zaS 200 n then zuX n q f else[]
section
variable{A:Type}{n:NodeM}{q:Int×NodeM->Bool}{f:Int×NodeM->A}{k:Nat}{p:Int×NodeM}
theorem zcz(hp:(zaZ 1 n)[k]? = some p)(h:q p=true):zmf n q f (k+1)=zmf n q f k++[f p]:=by
 unfold zmf;rw[List.take_add_one,hp,List.filter_append,List.map_append];simp[h]
theorem zeL(hp:(zaZ 1 n)[k]? = some p)(h:q p=false):zmf n q f (k+1)=zmf n q f k:=by
 unfold zmf;rw[List.take_add_one,hp,List.filter_append,List.map_append];simp[h]
theorem zqb:zmf n q f (zaZ 1 n).length=zuX n q f:=by
 unfold zmf zuX;rw[List.take_of_length_le (Nat.le_refl _)]
theorem zld:(zmf n q f k).length<=(zaZ 1 n).length:=by
 unfold zmf;rw[yb7];refine Nat.le_trans (List.length_filter_le _ _) ?_;rw[List.length_take];omega
end
theorem zr9{n:NodeM}(hn:Fit n){k:Nat}{d:Int}{p:Int×NodeM}(hp:(zaZ d n)[k]? = some p):Fit p.2:=by
 have key:∀n:NodeM,Fit n->∀d p,p∈zaZ d n->Fit p.2:=by
  intro n
  induction n using zeX with |h n ih=>?_
  intro hn d p hp;rw[zcy]at hp;rcases List.mem_cons.1 hp with rfl |hp
  ·exact hn
  ·obtain⟨m,hm,hp⟩:=List.mem_flatMap.1 hp;exact ih m hm (hn.kid hm) _ _ hp
 exact key n hn d p (List.mem_of_getElem? hp)
theorem zj6{n:NodeM}(h:(za6 n != 0)=true):zaS 200 n=false:=by
 unfold za6 at h;cases hb:zaS 200 n with
 |true=>rw[hb]at h;cases h
 |false=>rfl
theorem zcq{n:NodeM}(h:(za6 n != 0)=false):zaS 200 n=true/\za6 n=0:=by
 unfold za6 at h ⊢;cases hb:zaS 200 n with
 |true=>exact⟨rfl,rfl⟩
 |false=>rw[hb]at h;cases h
section
variable{A:Type}[Inhabited A]{g:A->List SV}{sz:Nat}{n:NodeM}{q:Int×NodeM->Bool}{f:Int×NodeM->A}{j m:Nat}{el:Nat->List SV}
theorem zmb(h:(za6 n != 0)=true):Same (.tup [.cv .nils,ai (za6 n)]) (.tup [.isl sz (zee n q f).length (elF g (zee n q f)),ai (za6 n)]):=by
 have h1:zee n q f=[]:=by unfold zee;rw[zj6 h];rfl
 rw[h1];exact .tup (.cons .nils (.cons (.refl _) .nil))
theorem zk8(h:(za6 n != 0)=false)(hj:zmf n q f j=[])(hq:j=(zaZ 1 n).length):Same (.tup [.cv .nils,ai 0]) (.tup [.isl sz (zee n q f).length (elF g (zee n q f)),ai (za6 n)]):=by
 subst hq;rw[zqb]at hj;have h1:zee n q f=[]:=by unfold zee;rw[(zcq h).1];exact hj
 rw[h1,(zcq h).2];exact .tup (.cons .nils (.cons (.refl _) .nil))
theorem zlk(h:(za6 n != 0)=false)(hj:LElA g (zmf n q f j) m el)(hq:j=(zaZ 1 n).length):Same (.tup [.isl sz m el,ai 0]) (.tup [.isl sz (zee n q f).length (elF g (zee n q f)),ai (za6 n)]):=by
 subst hq;rw[zqb]at hj;have h1:zee n q f=zuX n q f:=by unfold zee;rw[(zcq h).1];rfl
 obtain⟨rfl,h2⟩:=hj;rw[h1,(zcq h).2];exact .tup (.cons (.isl h2) (.cons (.refl _) .nil))
end
set_option maxHeartbeats 4000000 in
theorem zq1(n:NodeM)(hn:Fit n)(hd:n.dep<=100000)(hs:(zaZ 1 n).length<=100000):DSpec Tryd.prog axX axG 38 [.agg (zah n),.fn 39 [] []] [] (fun v O=>v=.tup [.isl 5 (zee n za5 zhK).length (elF zjt (zee n za5 zhK)),ai (za6 n)]/\O=[]):=by
 refine DSpec.same (post:=fun v O=>Same v (.tup [.isl 5 (zee n za5 zhK).length (elF zjt (zee n za5 zhK)),ai (za6 n)])/\O=[]) ?_ fun v O h=>⟨_,h.1,rfl,h.2⟩
 refine zac { glb:=axG } true Tryd.func38 (by kernel_rfl) rfl ?_
 repeat' (
   (conv=>whnf)
   first
    |exact zaf (by kernel_rfl)
    |refine And.intro ?_ ?_
    |refine zaa ?_ ?_
    |(refine⟨_,zlH n hn,?_⟩;rintro v O' ⟨rfl,rfl⟩)
    |(refine⟨_,zkS n 1,?_⟩;rintro v O' ⟨rfl,rfl⟩)
    |((refine⟨_,_,zkX n hn 1 (by omega),fun j O=>(zmf n za5 zhK j=[]/\O=[.cells 30 (zah n),.cells 73 [.fn 39 [] []],.cells 64 [.cv .nils]])\/(∃m el,LElA zjt (zmf n za5 zhK j) m el/\O=[.cells 30 (zah n),.cells 73 [.fn 39 [] []],.cells 64 [.lst 6],.dead,.dead,.dead,.list 27 5 m el]),.inl ⟨rfl,rfl⟩,?_,?_⟩;rintro j O' vs hj hy;obtain⟨p,hp,rfl⟩:=zh6 hy;obtain⟨hj,rfl⟩ |⟨m,el,hj,rfl⟩:=hj;rotate_left;rotate_left;rintro j O' v hj hy;obtain⟨hj,rfl⟩ |⟨m,el,hj,rfl⟩:=hj))
    |(refine⟨_,zvY p.2 p.1 (zr9 hn hp),?_⟩;rintro v O' ⟨rfl,rfl⟩)
    |intro _)
 all_goals try have hlen:=zld (n:=n) (q:=za5) (f:=zhK) (k:=j)
 all_goals first
  |rfl
  |omega
  |(have h1:=hj.1;omega)
  |(rename_i hz;exact zmb hz)
  |exact zk8 (by assumption) hj (hy.2 rfl)
  |exact zlk (by assumption) hj (hy.2 rfl)
  |(rename_i hz;exact .inl ⟨(zeL hp hz).trans hj,rfl⟩)
  |(rename_i hz;exact .inr ⟨1,_,by rw[zcz (q:=za5) hp hz,hj];exact LElA.one rfl rfl,rfl⟩)
  |(rename_i hz;exact .inr ⟨_,_,by rw[zeL (q:=za5) hp hz];exact hj,rfl⟩)
  |(rename_i hz;exact .inr ⟨_,_,by rw[zcz (q:=za5) hp hz];exact hj.snoc rfl rfl,rfl⟩)
  |exact .inr ⟨1,_,by rw[zcz (q:=za5) hp rfl,hj];exact LElA.one rfl rfl,rfl⟩
  |exact .inr ⟨_,_,by rw[zcz (q:=za5) hp rfl];exact hj.snoc rfl rfl,rfl⟩
def zvc(b:Bool):List SV:=[ab b]
def zzu(x:Int):List SV:=[ai x]
set_option maxHeartbeats 4000000 in
theorem zre(n:NodeM)(hn:Fit n)(hd:n.dep<=100000)(hs:(zaZ 1 n).length<=100000):DSpec Tryd.prog axX axG 63 [.agg (zah n),.fn 64 [] []] [] (fun v O=>v=.tup [.isl 1 (zee n za5 zu6).length (elF zvc (zee n za5 zu6)),ai (za6 n)]/\O=[]):=by
 refine DSpec.same (post:=fun v O=>Same v (.tup [.isl 1 (zee n za5 zu6).length (elF zvc (zee n za5 zu6)),ai (za6 n)])/\O=[]) ?_ fun v O h=>⟨_,h.1,rfl,h.2⟩
 refine zac { glb:=axG } true Tryd.func63 (by kernel_rfl) rfl ?_
 repeat' (
   (conv=>whnf)
   first
    |exact zaf (by kernel_rfl)
    |refine And.intro ?_ ?_
    |refine zaa ?_ ?_
    |(refine⟨_,zlH n hn,?_⟩;rintro v O' ⟨rfl,rfl⟩)
    |(refine⟨_,zkS n 1,?_⟩;rintro v O' ⟨rfl,rfl⟩)
    |((refine⟨_,_,zkX n hn 1 (by omega),fun j O=>(zmf n za5 zu6 j=[]/\O=[.cells 30 (zah n),.cells 98 [.fn 64 [] []],.cells 80 [.cv .nils]])\/(∃m el,LElA zvc (zmf n za5 zu6 j) m el/\O=[.cells 30 (zah n),.cells 98 [.fn 64 [] []],.cells 80 [.lst 5],.dead,.dead,.list 4 1 m el]),.inl ⟨rfl,rfl⟩,?_,?_⟩;rintro j O' vs hj hy;obtain⟨p,hp,rfl⟩:=zh6 hy;obtain⟨hj,rfl⟩ |⟨m,el,hj,rfl⟩:=hj;rotate_left;rotate_left;rintro j O' v hj hy;obtain⟨hj,rfl⟩ |⟨m,el,hj,rfl⟩:=hj))
    |(refine⟨_,zqZ p.2 p.1,?_⟩;rintro v O' ⟨rfl,rfl⟩)
    |intro _)
 all_goals try have hlen:=zld (n:=n) (q:=za5) (f:=zu6) (k:=j)
 all_goals first
  |rfl
  |omega
  |(have h1:=hj.1;omega)
  |(rename_i hz;exact zmb hz)
  |exact zk8 (by assumption) hj (hy.2 rfl)
  |exact zlk (by assumption) hj (hy.2 rfl)
  |(rename_i hz;exact .inl ⟨(zeL hp hz).trans hj,rfl⟩)
  |(rename_i hz;exact .inr ⟨1,_,by rw[zcz (q:=za5) hp hz,hj];exact LElA.one rfl rfl,rfl⟩)
  |(rename_i hz;exact .inr ⟨_,_,by rw[zeL (q:=za5) hp hz];exact hj,rfl⟩)
  |(rename_i hz;exact .inr ⟨_,_,by rw[zcz (q:=za5) hp hz];exact hj.snoc rfl rfl,rfl⟩)
  |exact .inr ⟨1,_,by rw[zcz (q:=za5) hp rfl,hj];exact LElA.one rfl rfl,rfl⟩
  |exact .inr ⟨_,_,by rw[zcz (q:=za5) hp rfl];exact hj.snoc rfl rfl,rfl⟩
set_option maxHeartbeats 4000000 in
theorem zq9(n:NodeM)(hn:Fit n)(hd:n.dep<=100000)(hs:(zaZ 1 n).length<=100000):DSpec Tryd.prog axX axG 54 [.agg (zah n),.fn 55 [] []] [] (fun v O=>v=.tup [.isl 1 (zee n zdN zo0).length (elF zzu (zee n zdN zo0)),ai (za6 n)]/\O=[]):=by
 refine DSpec.same (post:=fun v O=>Same v (.tup [.isl 1 (zee n zdN zo0).length (elF zzu (zee n zdN zo0)),ai (za6 n)])/\O=[]) ?_ fun v O h=>⟨_,h.1,rfl,h.2⟩
 refine zac { glb:=axG } true Tryd.func54 (by kernel_rfl) rfl ?_
 repeat' (
   (conv=>whnf)
   first
    |exact zaf (by kernel_rfl)
    |refine And.intro ?_ ?_
    |refine zaa ?_ ?_
    |(refine⟨_,zlH n hn,?_⟩;rintro v O' ⟨rfl,rfl⟩)
    |(refine⟨_,zkS n 1,?_⟩;rintro v O' ⟨rfl,rfl⟩)
    |((refine⟨_,_,zkX n hn 1 (by omega),fun j O=>(zmf n zdN zo0 j=[]/\O=[.cells 30 (zah n),.cells 88 [.fn 55 [] []],.cells 22 [.cv .nils]])\/(∃m el,LElA zzu (zmf n zdN zo0 j) m el/\O=[.cells 30 (zah n),.cells 88 [.fn 55 [] []],.cells 22 [.lst 5],.dead,.dead,.list 3 1 m el]),.inl ⟨rfl,rfl⟩,?_,?_⟩;rintro j O' vs hj hy;obtain⟨p,hp,rfl⟩:=zh6 hy;obtain⟨hj,rfl⟩ |⟨m,el,hj,rfl⟩:=hj;rotate_left;rotate_left;rintro j O' v hj hy;obtain⟨hj,rfl⟩ |⟨m,el,hj,rfl⟩:=hj))
    |(refine⟨_,zuN p.2 p.1,?_⟩;rintro v O' ⟨rfl,rfl⟩)
    |intro _)
 all_goals try have hlen:=zld (n:=n) (q:=zdN) (f:=zo0) (k:=j)
 all_goals first
  |rfl
  |omega
  |(have h1:=hj.1;omega)
  |(rename_i hz;exact zmb hz)
  |exact zk8 (by assumption) hj (hy.2 rfl)
  |exact zlk (by assumption) hj (hy.2 rfl)
  |(rename_i hz;exact .inl ⟨(zeL hp hz).trans hj,rfl⟩)
  |(rename_i hz;exact .inr ⟨1,_,by rw[zcz (q:=zdN) hp hz,hj];exact LElA.one rfl rfl,rfl⟩)
  |(rename_i hz;exact .inr ⟨_,_,by rw[zeL (q:=zdN) hp hz];exact hj,rfl⟩)
  |(rename_i hz;exact .inr ⟨_,_,by rw[zcz (q:=zdN) hp hz];exact hj.snoc rfl rfl,rfl⟩)
  |exact .inr ⟨1,_,by rw[zcz (q:=zdN) hp rfl,hj];exact LElA.one rfl rfl,rfl⟩
  |exact .inr ⟨_,_,by rw[zcz (q:=zdN) hp rfl];exact hj.snoc rfl rfl,rfl⟩
end Go.Proofs.YtogdglnaagkaaaaDoor
