import Derived.Test.YtogdglnaagkaaaaGreatDoorAd
import Derived.Test.YtogdglnaagkaaaaGreatDoorAz
set_option linter.unusedSimpArgs false
set_option linter.unusedVariables false
set_option maxRecDepth 100000
namespace Go.Proofs.YtogdglnaagkaaaaGreatDoor
open Go Go.Cx
def zno{A:Type}(n:NodeM)(q:Int×NodeM->Bool)(f:Int×NodeM->A)(k:Nat):List A:=(((zaE 1 n).take k).filter q).map f
def zuT{A:Type}(n:NodeM)(q:Int×NodeM->Bool)(f:Int×NodeM->A):List A:=((zaE 1 n).filter q).map f
def zbd(p:Int×NodeM):Bool:=zkz p.2
def zid(p:Int×NodeM):AtomM:=p.2.atom
def zxg(p:Int×NodeM):Bool:=p.2.kind==2
def zpR(p:Int×NodeM):Int:=p.1
def zeA(_:Int×NodeM):Bool:=true
noncomputable def za7(n:NodeM):Int:=bif zaK 200 n then 0 else 3
theorem zFJ{e x:Nat->List SV}(i:Nat):zcb 0 e x i=x i:=by
 unfold zcb;rw[if_neg (Nat.not_lt_zero i)];rfl
theorem zpW(l:List CondM)(hl:l.length<=1000000):DSpec Tryz.prog axX axG 43 [.isl 2 l.length (zco l)] [] (fun v O=>v=.isl 2 l.length (zco l)/\O=[]):=by
 refine DSpec.same (post:=fun v O=>Same v (.isl 2 l.length (zco l))/\O=[]) ?_ fun v O h=>⟨_,h.1,rfl,h.2⟩
 refine zac { glb:=axG } true Tryz.func43 (by kernel_rfl) rfl ?_
 repeat' (
   (conv=>whnf)
   first
    |exact zad (by kernel_rfl)
    |refine And.intro ?_ ?_
    |refine zaa ?_ ?_
    |intro _)
 all_goals first
  |rfl
  |omega
  |(rename_i hz;rw[hz];exact .nils)
  |(rw[Nat.zero_add];exact .isl fun i hi=>zFJ i)
theorem zxZ(n:NodeM)(d:Int)(hn:Fit n):DSpec Tryz.prog axX axG 42 [ai d,.agg (zah n)] [] (fun v O=>v=.tup [.agg (zfQ n.atom),ab (zkz n)]/\O=[]):=by
 refine zac { glb:=axG } true Tryz.func42 (by kernel_rfl) rfl ?_
 repeat' (
   (conv=>whnf)
   first
    |exact zad (by kernel_rfl)
    |refine And.intro ?_ ?_
    |refine zaa ?_ ?_
    |(refine⟨_,zpW n.atom.cs hn.self.2,?_⟩;rintro v O' ⟨rfl,rfl⟩)
    |(refine⟨_,zzI n,?_⟩;rintro v O' ⟨rfl,rfl⟩)
    |intro _)
 all_goals first
  |rfl
  |omega
theorem zs6(n:NodeM)(d:Int):DSpec Tryz.prog axX axG 85 [ai d,.agg (zah n)] [] (fun v O=>v=.tup [ab (n.kind==2),ab (zkz n)]/\O=[]):=by
 refine zac { glb:=axG } true Tryz.func85 (by kernel_rfl) rfl ?_
 repeat' (
   (conv=>whnf)
   first
    |exact zad (by kernel_rfl)
    |refine And.intro ?_ ?_
    |refine zaa ?_ ?_
    |(refine⟨_,zzI n,?_⟩;rintro v O' ⟨rfl,rfl⟩)
    |intro _)
 all_goals first
  |rfl
  |omega
theorem zv0(n:NodeM)(d:Int):DSpec Tryz.prog axX axG 82 [ai d,.agg (zah n)] [] (fun v O=>v=.tup [ai d,ab true]/\O=[]):=by
 refine zac { glb:=axG } true Tryz.func82 (by kernel_rfl) rfl ?_
 repeat' (
   (conv=>whnf)
   first
    |exact zad (by kernel_rfl)
    |refine And.intro ?_ ?_
    |refine zaa ?_ ?_
    |intro _)
 all_goals first
  |rfl
  |omega
theorem zmg(n:NodeM)(hn:Fit n):DSpec Tryz.prog axX axG 46 [.agg (zah n)] [] (fun v O=>v=ai (za7 n)/\O=[]):=by
 have h:=zAa 200 (by decide) n hn;refine zac { glb:=axG } true Tryz.func46 (by kernel_rfl) rfl ?_
 repeat' (
   (conv=>whnf)
   first
    |exact zad (by kernel_rfl)
    |refine And.intro ?_ ?_
    |refine zaa ?_ ?_
    |(refine⟨_,h,?_⟩;rintro v O' ⟨rfl,rfl⟩)
    |intro _)
 all_goals first
  |rfl
  |omega
  |(rename_i hz;unfold za7;rw[Bool.not_eq_true']at hz;rw[hz];rfl)
  |(rename_i hz;unfold za7;rw[Bool.not_eq_false']at hz;rw[hz];rfl)
noncomputable def zeC{A:Type}(n:NodeM)(q:Int×NodeM->Bool)(f:Int×NodeM->A):List A:=bif zaK 200 n then zuT n q f else[]
section
variable{A:Type}{n:NodeM}{q:Int×NodeM->Bool}{f:Int×NodeM->A}{k:Nat}{p:Int×NodeM}
theorem zcL(hp:(zaE 1 n)[k]? = some p)(h:q p=true):zno n q f (k+1)=zno n q f k++[f p]:=by
 unfold zno;rw[List.take_add_one,hp,List.filter_append,List.map_append];simp[h]
theorem ze7(hp:(zaE 1 n)[k]? = some p)(h:q p=false):zno n q f (k+1)=zno n q f k:=by
 unfold zno;rw[List.take_add_one,hp,List.filter_append,List.map_append];simp[h]
theorem zrY:zno n q f (zaE 1 n).length=zuT n q f:=by
 unfold zno zuT;rw[List.take_of_length_le (Nat.le_refl _)]
theorem zms:(zno n q f k).length<=(zaE 1 n).length:=by
 unfold zno;rw[yb7];refine Nat.le_trans (List.length_filter_le _ _) ?_;rw[List.length_take];omega
end
theorem zuR{n:NodeM}(hn:Fit n){k:Nat}{d:Int}{p:Int×NodeM}(hp:(zaE d n)[k]? = some p):Fit p.2:=by
 have key:∀n:NodeM,Fit n->∀d p,p∈zaE d n->Fit p.2:=by
  intro n
  induction n using zfb with |h n ih=>?_
  intro hn d p hp;rw[za3]at hp;rcases List.mem_cons.1 hp with rfl |hp
  ·exact hn
  ·obtain⟨m,hm,hp⟩:=List.mem_flatMap.1 hp;exact ih m hm (hn.kid hm) _ _ hp
 exact key n hn d p (List.mem_of_getElem? hp)
theorem zlc{n:NodeM}(h:(za7 n != 0)=true):zaK 200 n=false:=by
 unfold za7 at h;cases hb:zaK 200 n with
 |true=>rw[hb]at h;cases h
 |false=>rfl
theorem zcD{n:NodeM}(h:(za7 n != 0)=false):zaK 200 n=true/\za7 n=0:=by
 unfold za7 at h ⊢;cases hb:zaK 200 n with
 |true=>exact⟨rfl,rfl⟩
 |false=>rw[hb]at h;cases h
section
variable{A:Type}[Inhabited A]{g:A->List SV}{sz:Nat}{n:NodeM}{q:Int×NodeM->Bool}{f:Int×NodeM->A}{j m:Nat}{el:Nat->List SV}
theorem zmi(h:(za7 n != 0)=true):Same (.tup [.cv .nils,ai (za7 n)]) (.tup [.isl sz (zeC n q f).length (elF g (zeC n q f)),ai (za7 n)]):=by
 have h1:zeC n q f=[]:=by unfold zeC;rw[zlc h];rfl
 rw[h1];exact .tup (.cons .nils (.cons (.refl _) .nil))
theorem zlS(h:(za7 n != 0)=false)(hj:zno n q f j=[])(hq:j=(zaE 1 n).length):Same (.tup [.cv .nils,ai 0]) (.tup [.isl sz (zeC n q f).length (elF g (zeC n q f)),ai (za7 n)]):=by
 subst hq;rw[zrY]at hj;have h1:zeC n q f=[]:=by unfold zeC;rw[(zcD h).1];exact hj
 rw[h1,(zcD h).2];exact .tup (.cons .nils (.cons (.refl _) .nil))
theorem zmH(h:(za7 n != 0)=false)(hj:LElA g (zno n q f j) m el)(hq:j=(zaE 1 n).length):Same (.tup [.isl sz m el,ai 0]) (.tup [.isl sz (zeC n q f).length (elF g (zeC n q f)),ai (za7 n)]):=by
 subst hq;rw[zrY]at hj;have h1:zeC n q f=zuT n q f:=by unfold zeC;rw[(zcD h).1];rfl
 obtain⟨rfl,h2⟩:=hj;rw[h1,(zcD h).2];exact .tup (.cons (.isl h2) (.cons (.refl _) .nil))
end
set_option maxHeartbeats 4000000 in
theorem zsZ(n:NodeM)(hn:Fit n)(hd:n.dep<=100000)(hs:(zaE 1 n).length<=100000):DSpec Tryz.prog axX axG 41 [.agg (zah n),.fn 42 [] []] [] (fun v O=>v=.tup [.isl 5 (zeC n zbd zid).length (elF zfQ (zeC n zbd zid)),ai (za7 n)]/\O=[]):=by
 refine DSpec.same (post:=fun v O=>Same v (.tup [.isl 5 (zeC n zbd zid).length (elF zfQ (zeC n zbd zid)),ai (za7 n)])/\O=[]) ?_ fun v O h=>⟨_,h.1,rfl,h.2⟩
 refine zac { glb:=axG } true Tryz.func41 (by kernel_rfl) rfl ?_
 repeat' (
   (conv=>whnf)
   first
    |exact zad (by kernel_rfl)
    |refine And.intro ?_ ?_
    |refine zaa ?_ ?_
    |(refine⟨_,zmg n hn,?_⟩;rintro v O' ⟨rfl,rfl⟩)
    |(refine⟨_,zmZ n 1,?_⟩;rintro v O' ⟨rfl,rfl⟩)
    |((refine⟨_,_,zmY n hn 1 (by omega),fun j O=>(zno n zbd zid j=[]/\O=[.cells 30 (zah n),.cells 86 [.fn 42 [] []],.cells 66 [.cv .nils]])\/(∃m el,LElA zfQ (zno n zbd zid j) m el/\O=[.cells 30 (zah n),.cells 86 [.fn 42 [] []],.cells 66 [.lst 6],.dead,.dead,.dead,.list 27 5 m el]),.inl ⟨rfl,rfl⟩,?_,?_⟩;rintro j O' vs hj hy;obtain⟨p,hp,rfl⟩:=zim hy;obtain⟨hj,rfl⟩ |⟨m,el,hj,rfl⟩:=hj;rotate_left;rotate_left;rintro j O' v hj hy;obtain⟨hj,rfl⟩ |⟨m,el,hj,rfl⟩:=hj))
    |(refine⟨_,zxZ p.2 p.1 (zuR hn hp),?_⟩;rintro v O' ⟨rfl,rfl⟩)
    |intro _)
 all_goals try have hlen:=zms (n:=n) (q:=zbd) (f:=zid) (k:=j)
 all_goals first
  |rfl
  |omega
  |(have h1:=hj.1;omega)
  |(rename_i hz;exact zmi hz)
  |exact zlS (by assumption) hj (hy.2 rfl)
  |exact zmH (by assumption) hj (hy.2 rfl)
  |(rename_i hz;exact .inl ⟨(ze7 hp hz).trans hj,rfl⟩)
  |(rename_i hz;exact .inr ⟨1,_,by rw[zcL (q:=zbd) hp hz,hj];exact LElA.one rfl rfl,rfl⟩)
  |(rename_i hz;exact .inr ⟨_,_,by rw[ze7 (q:=zbd) hp hz];exact hj,rfl⟩)
  |(rename_i hz;exact .inr ⟨_,_,by rw[zcL (q:=zbd) hp hz];exact hj.snoc rfl rfl,rfl⟩)
  |exact .inr ⟨1,_,by rw[zcL (q:=zbd) hp rfl,hj];exact LElA.one rfl rfl,rfl⟩
  |exact .inr ⟨_,_,by rw[zcL (q:=zbd) hp rfl];exact hj.snoc rfl rfl,rfl⟩
def zxK(b:Bool):List SV:=[ab b]
def zDh(x:Int):List SV:=[ai x]
set_option maxHeartbeats 4000000 in
theorem zsU(n:NodeM)(hn:Fit n)(hd:n.dep<=100000)(hs:(zaE 1 n).length<=100000):DSpec Tryz.prog axX axG 84 [.agg (zah n),.fn 85 [] []] [] (fun v O=>v=.tup [.isl 1 (zeC n zbd zxg).length (elF zxK (zeC n zbd zxg)),ai (za7 n)]/\O=[]):=by
 refine DSpec.same (post:=fun v O=>Same v (.tup [.isl 1 (zeC n zbd zxg).length (elF zxK (zeC n zbd zxg)),ai (za7 n)])/\O=[]) ?_ fun v O h=>⟨_,h.1,rfl,h.2⟩
 refine zac { glb:=axG } true Tryz.func84 (by kernel_rfl) rfl ?_
 repeat' (
   (conv=>whnf)
   first
    |exact zad (by kernel_rfl)
    |refine And.intro ?_ ?_
    |refine zaa ?_ ?_
    |(refine⟨_,zmg n hn,?_⟩;rintro v O' ⟨rfl,rfl⟩)
    |(refine⟨_,zmZ n 1,?_⟩;rintro v O' ⟨rfl,rfl⟩)
    |((refine⟨_,_,zmY n hn 1 (by omega),fun j O=>(zno n zbd zxg j=[]/\O=[.cells 30 (zah n),.cells 133 [.fn 85 [] []],.cells 105 [.cv .nils]])\/(∃m el,LElA zxK (zno n zbd zxg j) m el/\O=[.cells 30 (zah n),.cells 133 [.fn 85 [] []],.cells 105 [.lst 5],.dead,.dead,.list 4 1 m el]),.inl ⟨rfl,rfl⟩,?_,?_⟩;rintro j O' vs hj hy;obtain⟨p,hp,rfl⟩:=zim hy;obtain⟨hj,rfl⟩ |⟨m,el,hj,rfl⟩:=hj;rotate_left;rotate_left;rintro j O' v hj hy;obtain⟨hj,rfl⟩ |⟨m,el,hj,rfl⟩:=hj))
    |(refine⟨_,zs6 p.2 p.1,?_⟩;rintro v O' ⟨rfl,rfl⟩)
    |intro _)
 all_goals try have hlen:=zms (n:=n) (q:=zbd) (f:=zxg) (k:=j)
 all_goals first
  |rfl
  |omega
  |(have h1:=hj.1;omega)
  |(rename_i hz;exact zmi hz)
  |exact zlS (by assumption) hj (hy.2 rfl)
  |exact zmH (by assumption) hj (hy.2 rfl)
  |(rename_i hz;exact .inl ⟨(ze7 hp hz).trans hj,rfl⟩)
  |(rename_i hz;exact .inr ⟨1,_,by rw[zcL (q:=zbd) hp hz,hj];exact LElA.one rfl rfl,rfl⟩)
  |(rename_i hz;exact .inr ⟨_,_,by rw[ze7 (q:=zbd) hp hz];exact hj,rfl⟩)
  |(rename_i hz;exact .inr ⟨_,_,by rw[zcL (q:=zbd) hp hz];exact hj.snoc rfl rfl,rfl⟩)
  |exact .inr ⟨1,_,by rw[zcL (q:=zbd) hp rfl,hj];exact LElA.one rfl rfl,rfl⟩
  |exact .inr ⟨_,_,by rw[zcL (q:=zbd) hp rfl];exact hj.snoc rfl rfl,rfl⟩
set_option maxHeartbeats 4000000 in
theorem zta(n:NodeM)(hn:Fit n)(hd:n.dep<=100000)(hs:(zaE 1 n).length<=100000):DSpec Tryz.prog axX axG 81 [.agg (zah n),.fn 82 [] []] [] (fun v O=>v=.tup [.isl 1 (zeC n zeA zpR).length (elF zDh (zeC n zeA zpR)),ai (za7 n)]/\O=[]):=by
 refine DSpec.same (post:=fun v O=>Same v (.tup [.isl 1 (zeC n zeA zpR).length (elF zDh (zeC n zeA zpR)),ai (za7 n)])/\O=[]) ?_ fun v O h=>⟨_,h.1,rfl,h.2⟩
 refine zac { glb:=axG } true Tryz.func81 (by kernel_rfl) rfl ?_
 repeat' (
   (conv=>whnf)
   first
    |exact zad (by kernel_rfl)
    |refine And.intro ?_ ?_
    |refine zaa ?_ ?_
    |(refine⟨_,zmg n hn,?_⟩;rintro v O' ⟨rfl,rfl⟩)
    |(refine⟨_,zmZ n 1,?_⟩;rintro v O' ⟨rfl,rfl⟩)
    |((refine⟨_,_,zmY n hn 1 (by omega),fun j O=>(zno n zeA zpR j=[]/\O=[.cells 30 (zah n),.cells 128 [.fn 82 [] []],.cells 22 [.cv .nils]])\/(∃m el,LElA zDh (zno n zeA zpR j) m el/\O=[.cells 30 (zah n),.cells 128 [.fn 82 [] []],.cells 22 [.lst 5],.dead,.dead,.list 3 1 m el]),.inl ⟨rfl,rfl⟩,?_,?_⟩;rintro j O' vs hj hy;obtain⟨p,hp,rfl⟩:=zim hy;obtain⟨hj,rfl⟩ |⟨m,el,hj,rfl⟩:=hj;rotate_left;rotate_left;rintro j O' v hj hy;obtain⟨hj,rfl⟩ |⟨m,el,hj,rfl⟩:=hj))
    |(refine⟨_,zv0 p.2 p.1,?_⟩;rintro v O' ⟨rfl,rfl⟩)
    |intro _)
 all_goals try have hlen:=zms (n:=n) (q:=zeA) (f:=zpR) (k:=j)
 all_goals first
  |rfl
  |omega
  |(have h1:=hj.1;omega)
  |(rename_i hz;exact zmi hz)
  |exact zlS (by assumption) hj (hy.2 rfl)
  |exact zmH (by assumption) hj (hy.2 rfl)
  |(rename_i hz;exact .inl ⟨(ze7 hp hz).trans hj,rfl⟩)
  |(rename_i hz;exact .inr ⟨1,_,by rw[zcL (q:=zeA) hp hz,hj];exact LElA.one rfl rfl,rfl⟩)
  |(rename_i hz;exact .inr ⟨_,_,by rw[ze7 (q:=zeA) hp hz];exact hj,rfl⟩)
  |(rename_i hz;exact .inr ⟨_,_,by rw[zcL (q:=zeA) hp hz];exact hj.snoc rfl rfl,rfl⟩)
  |exact .inr ⟨1,_,by rw[zcL (q:=zeA) hp rfl,hj];exact LElA.one rfl rfl,rfl⟩
  |exact .inr ⟨_,_,by rw[zcL (q:=zeA) hp rfl];exact hj.snoc rfl rfl,rfl⟩
end Go.Proofs.YtogdglnaagkaaaaGreatDoor
