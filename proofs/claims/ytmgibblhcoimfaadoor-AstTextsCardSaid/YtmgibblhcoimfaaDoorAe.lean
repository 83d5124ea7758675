import Derived.Test.YtmgibblhcoimfaaDoorAd
import Derived.Test.YtmgibblhcoimfaaDoorAz
set_option linter.unusedSimpArgs false
set_option linter.unusedVariables false
set_option maxRecDepth 100000
namespace Go.Proofs.YtmgibblhcoimfaaDoor
open Go Go.Cx
def zqC{A:Type}(n:NodeM)(q:Int×NodeM->Bool)(f:Int×NodeM->A)(k:Nat):List A:=(((zbf 1 n).take k).filter q).map f
def zB9{A:Type}(n:NodeM)(q:Int×NodeM->Bool)(f:Int×NodeM->A):List A:=((zbf 1 n).filter q).map f
def zdp(p:Int×NodeM):Bool:=zxI p.2
def zj0(p:Int×NodeM):AtomM:=p.2.atom
noncomputable def zbh(n:NodeM):Int:=bif zbk 200 n then 0 else 3
theorem zDL{e x:Nat->List SV}(i:Nat):zhg 0 e x i=x i:=by
 unfold zhg;rw[if_neg (Nat.not_lt_zero i)];rfl
theorem zpJ(l:List CondM)(hl:l.length<=1000000):DSpec Tryd.prog axX axG 43 [.isl 2 l.length (zee l)] [] (fun v O=>v=.isl 2 l.length (zee l)/\O=[]):=by
 refine DSpec.same (post:=fun v O=>Same v (.isl 2 l.length (zee l))/\O=[]) ?_ fun v O h=>⟨_,h.1,rfl,h.2⟩
 refine zac { glb:=axG } true Tryd.func43 (by kernel_rfl) rfl ?_
 repeat' (
   (conv=>whnf)
   first
    |exact zaf (by kernel_rfl)
    |refine And.intro ?_ ?_
    |refine zaa ?_ ?_
    |intro _)
 all_goals first
  |rfl
  |omega
  |(rename_i hz;rw[hz];exact .nils)
  |(rw[Nat.zero_add];exact .isl fun i hi=>zDL i)
theorem zwD(n:NodeM)(d:Int)(hn:Fit n):DSpec Tryd.prog axX axG 42 [ai d,.agg (zay n)] [] (fun v O=>v=.tup [.agg (zfZ n.atom),ab (zxI n)]/\O=[]):=by
 refine zac { glb:=axG } true Tryd.func42 (by kernel_rfl) rfl ?_
 repeat' (
   (conv=>whnf)
   first
    |exact zaf (by kernel_rfl)
    |refine And.intro ?_ ?_
    |refine zaa ?_ ?_
    |(refine⟨_,zpJ n.atom.cs hn.self.2,?_⟩;rintro v O' ⟨rfl,rfl⟩)
    |(refine⟨_,zA9 n,?_⟩;rintro v O' ⟨rfl,rfl⟩)
    |intro _)
 all_goals first
  |rfl
  |omega
theorem ztv(n:NodeM)(hn:Fit n):DSpec Tryd.prog axX axG 13 [.agg (zay n)] [] (fun v O=>v=ai (zbh n)/\O=[]):=by
 have h:=zzg 200 (by decide) n hn;refine zac { glb:=axG } true Tryd.func13 (by kernel_rfl) rfl ?_
 repeat' (
   (conv=>whnf)
   first
    |exact zaf (by kernel_rfl)
    |refine And.intro ?_ ?_
    |refine zaa ?_ ?_
    |(refine⟨_,h,?_⟩;rintro v O' ⟨rfl,rfl⟩)
    |intro _)
 all_goals first
  |rfl
  |omega
  |(rename_i hz;unfold zbh;rw[Bool.not_eq_true']at hz;rw[hz];rfl)
  |(rename_i hz;unfold zbh;rw[Bool.not_eq_false']at hz;rw[hz];rfl)
noncomputable def zlu{A:Type}(n:NodeM)(q:Int×NodeM->Bool)(f:Int×NodeM->A):List A:=bif zbk 200 n then zB9 n q f else[]
section
variable{A:Type}{n:NodeM}{q:Int×NodeM->Bool}{f:Int×NodeM->A}{k:Nat}{p:Int×NodeM}
theorem zli(hp:(zbf 1 n)[k]? = some p)(h:q p=true):zqC n q f (k+1)=zqC n q f k++[f p]:=by
 unfold zqC;rw[List.take_add_one,hp,List.filter_append,List.map_append];simp[h]
theorem zrB(hp:(zbf 1 n)[k]? = some p)(h:q p=false):zqC n q f (k+1)=zqC n q f k:=by
 unfold zqC;rw[List.take_add_one,hp,List.filter_append,List.map_append];simp[h]
theorem zrq:zqC n q f (zbf 1 n).length=zB9 n q f:=by
 unfold zqC zB9;rw[List.take_of_length_le (Nat.le_refl _)]
theorem zxr:(zqC n q f k).length<=(zbf 1 n).length:=by
 unfold zqC;rw[yb7];refine Nat.le_trans (List.length_filter_le _ _) ?_;rw[List.length_take];omega
end
theorem zAu{n:NodeM}(hn:Fit n){k:Nat}{d:Int}{p:Int×NodeM}(hp:(zbf d n)[k]? = some p):Fit p.2:=by
 have key:∀n:NodeM,Fit n->∀d p,p∈zbf d n->Fit p.2:=by
  intro n
  induction n using zmG with |h n ih=>?_
  intro hn d p hp;rw[za7]at hp;rcases List.mem_cons.1 hp with rfl |hp
  ·exact hn
  ·obtain⟨m,hm,hp⟩:=List.mem_flatMap.1 hp;exact ih m hm (hn.kid hm) _ _ hp
 exact key n hn d p (List.mem_of_getElem? hp)
theorem zsj{n:NodeM}(h:(zbh n != 0)=true):zbk 200 n=false:=by
 unfold zbh at h;cases hb:zbk 200 n with
 |true=>rw[hb]at h;cases h
 |false=>rfl
theorem zgz{n:NodeM}(h:(zbh n != 0)=false):zbk 200 n=true/\zbh n=0:=by
 unfold zbh at h ⊢;cases hb:zbk 200 n with
 |true=>exact⟨rfl,rfl⟩
 |false=>rw[hb]at h;cases h
section
variable{A:Type}[Inhabited A]{g:A->List SV}{sz:Nat}{n:NodeM}{q:Int×NodeM->Bool}{f:Int×NodeM->A}{j m:Nat}{el:Nat->List SV}
theorem zwn(h:(zbh n != 0)=true):Same (.tup [.cv .nils,ai (zbh n)]) (.tup [.isl sz (zlu n q f).length (elF g (zlu n q f)),ai (zbh n)]):=by
 have h1:zlu n q f=[]:=by unfold zlu;rw[zsj h];rfl
 rw[h1];exact .tup (.cons .nils (.cons (.refl _) .nil))
theorem zxO(h:(zbh n != 0)=false)(hj:zqC n q f j=[])(hq:j=(zbf 1 n).length):Same (.tup [.cv .nils,ai 0]) (.tup [.isl sz (zlu n q f).length (elF g (zlu n q f)),ai (zbh n)]):=by
 subst hq;rw[zrq]at hj;have h1:zlu n q f=[]:=by unfold zlu;rw[(zgz h).1];exact hj
 rw[h1,(zgz h).2];exact .tup (.cons .nils (.cons (.refl _) .nil))
theorem zxR(h:(zbh n != 0)=false)(hj:LElA g (zqC n q f j) m el)(hq:j=(zbf 1 n).length):Same (.tup [.isl sz m el,ai 0]) (.tup [.isl sz (zlu n q f).length (elF g (zlu n q f)),ai (zbh n)]):=by
 subst hq;rw[zrq]at hj;have h1:zlu n q f=zB9 n q f:=by unfold zlu;rw[(zgz h).1];rfl
 obtain⟨rfl,h2⟩:=hj;rw[h1,(zgz h).2];exact .tup (.cons (.isl h2) (.cons (.refl _) .nil))
end
set_option maxHeartbeats 4000000 in
theorem zsz(n:NodeM)(hn:Fit n)(hd:n.dep<=100000)(hs:(zbf 1 n).length<=100000):DSpec Tryd.prog axX axG 41 [.agg (zay n),.fn 42 [] []] [] (fun v O=>v=.tup [.isl 5 (zlu n zdp zj0).length (elF zfZ (zlu n zdp zj0)),ai (zbh n)]/\O=[]):=by
 refine DSpec.same (post:=fun v O=>Same v (.tup [.isl 5 (zlu n zdp zj0).length (elF zfZ (zlu n zdp zj0)),ai (zbh n)])/\O=[]) ?_ fun v O h=>⟨_,h.1,rfl,h.2⟩
 refine zac { glb:=axG } true Tryd.func41 (by kernel_rfl) rfl ?_
 repeat' (
   (conv=>whnf)
   first
    |exact zaf (by kernel_rfl)
    |refine And.intro ?_ ?_
    |refine zaa ?_ ?_
    |(refine⟨_,ztv n hn,?_⟩;rintro v O' ⟨rfl,rfl⟩)
    |(refine⟨_,ztF n 1,?_⟩;rintro v O' ⟨rfl,rfl⟩)
    |((refine⟨_,_,zxz n hn 1 (by omega),fun j O=>(zqC n zdp zj0 j=[]/\O=[.cells 28 (zay n),.cells 86 [.fn 42 [] []],.cells 44 [.cv .nils]])\/(∃m el,LElA zfZ (zqC n zdp zj0 j) m el/\O=[.cells 28 (zay n),.cells 86 [.fn 42 [] []],.cells 44 [.lst 6],.dead,.dead,.dead,.list 25 5 m el]),.inl ⟨rfl,rfl⟩,?_,?_⟩;rintro j O' vs hj hy;obtain⟨p,hp,rfl⟩:=zqr hy;obtain⟨hj,rfl⟩ |⟨m,el,hj,rfl⟩:=hj;rotate_left;rotate_left;rintro j O' v hj hy;obtain⟨hj,rfl⟩ |⟨m,el,hj,rfl⟩:=hj))
    |(refine⟨_,zwD p.2 p.1 (zAu hn hp),?_⟩;rintro v O' ⟨rfl,rfl⟩)
    |intro _)
 all_goals try have hlen:=zxr (n:=n) (q:=zdp) (f:=zj0) (k:=j)
 all_goals first
  |rfl
  |omega
  |(have h1:=hj.1;omega)
  |(rename_i hz;exact zwn hz)
  |exact zxO (by assumption) hj (hy.2 rfl)
  |exact zxR (by assumption) hj (hy.2 rfl)
  |(rename_i hz;exact .inl ⟨(zrB hp hz).trans hj,rfl⟩)
  |(rename_i hz;exact .inr ⟨1,_,by rw[zli (q:=zdp) hp hz,hj];exact LElA.one rfl rfl,rfl⟩)
  |(rename_i hz;exact .inr ⟨_,_,by rw[zrB (q:=zdp) hp hz];exact hj,rfl⟩)
  |(rename_i hz;exact .inr ⟨_,_,by rw[zli (q:=zdp) hp hz];exact hj.snoc rfl rfl,rfl⟩)
  |exact .inr ⟨1,_,by rw[zli (q:=zdp) hp rfl,hj];exact LElA.one rfl rfl,rfl⟩
  |exact .inr ⟨_,_,by rw[zli (q:=zdp) hp rfl];exact hj.snoc rfl rfl,rfl⟩
end Go.Proofs.YtmgibblhcoimfaaDoor
