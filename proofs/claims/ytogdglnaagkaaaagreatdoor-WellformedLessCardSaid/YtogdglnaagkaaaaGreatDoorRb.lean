import Derived.Test.YtogdglnaagkaaaaGreatDoorRa
import Derived.Test.YtogdglnaagkaaaaGreatDoorGm
import Derived.Test.YtogdglnaagkaaaaGreatDoorAh
set_option linter.unusedSimpArgs false
set_option linter.unusedVariables false
set_option maxRecDepth 100000
namespace Go.Proofs.YtogdglnaagkaaaaGreatDoor
open Go Go.Cx
abbrev qM:Int:=1073741824
def zB9(s:List UInt8):List SV:=[ziY s]
noncomputable def nmL(n:NodeM):List (List UInt8):=bif isE (nm n.atom.name) then[] else[n.atom.name]
def zhO(k:Int):NodeM:=.mk 2 0 0 ⟨(zbH k 0).kind,(zbH k 0).bnd,(zbH k 0).bound,(zbH k 0).cs,[]⟩ []
def zy1(a b:NodeM):NodeM:=.mk 4 0 0 ⟨0,false,0,[],[]⟩ [a,b]
noncomputable def gdQ(i:Nat)(k:Int):List NodeM:=bif decide ((i:Int) > 0)&&dm k 7 4==1 then[zhO (k.tdiv 28)] else[]
noncomputable def zrp(k p:Int):NodeM:=bif k.tmod 7==1 then zy1 (lfN k p) (lfN (k.tdiv 5) (p+1))else lfN k p
noncomputable def nmQ(k p:Int):List (List UInt8):=nmL (lfN k p)++(bif k.tmod 7==1 then nmL (lfN (k.tdiv 5) (p+1)) else[])
noncomputable def atQ(k p:Int):Int:=bif k.tmod 7==1 then p+1+1 else p+1
noncomputable def zaR(l:List Int):Nat->List NodeM×List (List UInt8)×Int
 |0=>([],[],0)
 |i+1=>((zaR l i).1++(gdQ i (zbt (l.getD i 0) qM)++[zrp (zbt (l.getD i 0) qM) (zaR l i).2.2]),(zaR l i).2.1++nmQ (zbt (l.getD i 0) qM) (zaR l i).2.2,atQ (zbt (l.getD i 0) qM) (zaR l i).2.2)
theorem ziT(l:List Int):∀i:Nat,0<=(zaR l i).2.2/\(zaR l i).2.2<=2*i
 |0=>by simp[zaR]
 |i+1=>by
  have h:=ziT l i;show 0<=atQ _ _/\atQ _ _<=_;unfold atQ;cases(zbt (l.getD i 0) qM).tmod 7==1<;>simp<;>omega
theorem zti{x a:Int}(ha:1<=a):0<=(zbt x qM).tdiv a/\(zbt x qM).tdiv a<qM:=by
 have h:=zej (n:=x) (m:=qM) (by decide);rw[Int.tdiv_eq_ediv_of_nonneg h.1];exact⟨Int.ediv_nonneg h.1 (by omega),Int.lt_of_le_of_lt (Int.ediv_le_self _ h.1) h.2⟩
theorem zAX(x p:Int)(hp:0<=p/\p<=100):DSpec Tryz.prog axX axG 23 [ai (zbt x qM),ai p] [] (fun v O=>v=.agg (zah (lfN (zbt x qM) p))/\O=[]):=zE3 _ p (zej (by decide)) hp
theorem zuZ(x a p:Int)(ha:1<=a)(hp:0<=p/\p<=100):DSpec Tryz.prog axX axG 23 [ai ((zbt x qM).tdiv a),ai p] [] (fun v O=>v=.agg (zah (lfN ((zbt x qM).tdiv a) p))/\O=[]):=zE3 _ p (zti ha) hp
theorem zB6:DSpec Tryz.prog axX axG 23 [ai 0,ai 0] [] (fun v O=>v=.agg (zah (lfN 0 0))/\O=[]):=zE3 0 0 (by decide) (by decide)
theorem zfM:∀{l:List SV},SameL l l
 |[]=>.nil
 |_::_=>.cons (.refl _) zfM
theorem zs9{n:NodeM}(h:(!isE (nm n.atom.name))=true):nmL n=[n.atom.name]:=by
 unfold nmL;rw[Bool.not_eq_true']at h;rw[h];rfl
theorem ztg{n:NodeM}(h:(!isE (nm n.atom.name))=false):nmL n=[]:=by
 unfold nmL;rw[Bool.not_eq_false']at h;rw[h];rfl
theorem zpx(n:NodeM):(nmL n).length<=1:=by
 unfold nmL;cases isE (nm n.atom.name)<;>simp
theorem zFt(l:List Int):∀i:Nat,(zaR l i).1.length<=2*i/\(zaR l i).2.1.length<=2*i
 |0=>⟨Nat.le_refl _,Nat.le_refl _⟩
 |i+1=>by
  have h:=zFt l i;show((zaR l i).1++(gdQ i (zbt (l.getD i 0) qM)++[_])).length<=_/\((zaR l i).2.1++nmQ (zbt (l.getD i 0) qM) (zaR l i).2.2).length<=_;generalize zbt (l.getD i 0) qM=k;have h1:(gdQ i k).length<=1:=by
   unfold gdQ;cases decide ((i:Int) > 0)&&dm k 7 4==1<;>simp
  have h2:(nmQ k (zaR l i).2.2).length<=2:=by
   unfold nmQ;have a:=zpx (lfN k (zaR l i).2.2);have b:=zpx (lfN (k.tdiv 5) ((zaR l i).2.2+1));cases k.tmod 7==1<;>simp<;>omega
  simp only[ya1,ya7,yb2];omega
theorem zCx{i:Nat}{k:Int}(h0:decide ((i:Int) > 0)=true)(h7:((k.tdiv 7).tmod 4==1)=true):gdQ i k=[zhO (k.tdiv 28)]:=by
 unfold gdQ dm;rw[h0,h7];rfl
theorem zC0{i:Nat}{k:Int}(h0:decide ((i:Int) > 0)=true)(h7:((k.tdiv 7).tmod 4==1)=false):gdQ i k=[]:=by
 unfold gdQ dm;rw[h0,h7];rfl
theorem zDH{i:Nat}{k:Int}(h0:decide ((i:Int) > 0)=false):gdQ i k=[]:=by
 unfold gdQ;rw[h0];rfl
theorem zrB{k p:Int}(h:(k.tmod 7==1)=true):zrp k p=zy1 (lfN k p) (lfN (k.tdiv 5) (p+1)):=by unfold zrp;rw[h];rfl
theorem zrn{k p:Int}(h:(k.tmod 7==1)=false):zrp k p=lfN k p:=by unfold zrp;rw[h];rfl
theorem zDD{k p:Int}(h:(k.tmod 7==1)=true):p+1+1=atQ k p:=by unfold atQ;rw[h];rfl
theorem zC2{k p:Int}(h:(k.tmod 7==1)=false):p+1=atQ k p:=by unfold atQ;rw[h];rfl
theorem ztA{k p:Int}{a b:List (List UInt8)}(h:(k.tmod 7==1)=true)(ha:nmL (lfN k p)=a)(hb:nmL (lfN (k.tdiv 5) (p+1))=b):nmQ k p=a++b:=by unfold nmQ;rw[h,ha,hb];rfl
theorem zxW{k p:Int}{a:List (List UInt8)}(h:(k.tmod 7==1)=false)(ha:nmL (lfN k p)=a):nmQ k p=a:=by unfold nmQ;rw[h,ha];exact yc2 _
theorem LElS.eq{A:Type}[Inhabited A]{g:A->List SV}{a b:List A}{n:Nat}{el:Nat->List SV}(h:LElS g a n el)(e:a=b):LElS g b n el:=e ▸ h
theorem zcy(k:Int):SameL [ai 2,ai 0,ai 0,ai (lfN k 0).atom.kind,ab (lfN k 0).atom.bnd,au (lfN k 0).atom.bound,.isl 2 (lfN k 0).atom.cs.length (zco (lfN k 0).atom.cs),.cv (.str []),.cv .nils] (zah (zhO k)):=
 .cons (.refl _) (.cons (.refl _) (.cons (.refl _) (.cons (.refl _) (.cons (.refl _) (.cons (.refl _) (.cons (.refl _) (.cons (.refl _) (.cons .nils .nil))))))))
theorem zdM{a b:NodeM}{el:Nat->List SV}(h0:el 0=zah a)(h1:el 1=zah b):SameL [ai 4,ai 0,ai 0,ai 0,ab false,au 0,.cv .nils,.cv (.str []),.isl 9 2 el] (zah (zy1 a b)):=by
 refine .cons (.refl _) (.cons (.refl _) (.cons (.refl _) (.cons (.refl _) (.cons (.refl _) (.cons (.refl _) (.cons .nils (.cons (.refl _) (.cons (.isl fun i hi=>?_) .nil))))))));have hk:∀i,zcW [a,b] i=([a,b].map zah).getD i (([a,b].map zah).headD []):=fun i=>by unfold zcW;rw[zeU]
 have hi:i=0\/i=1:=by omega
 rcases hi with rfl |rfl
 ·rw[h0];exact(hk 0).symm
 ·rw[h1];exact(hk 1).symm
theorem ztE{l:List Int}{i n:Nat}{el:Nat->List SV}{g:List NodeM}{o:NodeM}(hg:gdQ i (zbt (l.getD i 0) qM)=g)(ho:zrp (zbt (l.getD i 0) qM) (zaR l i).2.2=o)(h:LElS zah ((zaR l i).1++(g++[o])) n el):LElS zah (zaR l (i+1)).1 n el:=by
 show LElS zah ((zaR l i).1++(gdQ i (zbt (l.getD i 0) qM)++[zrp (zbt (l.getD i 0) qM) (zaR l i).2.2])) n el;rw[hg,ho];exact h
theorem zkG{l:List Int}{i n:Nat}{el:Nat->List SV}{ns:List (List UInt8)}(hn:nmQ (zbt (l.getD i 0) qM) (zaR l i).2.2=ns)(h:LElS zB9 ((zaR l i).2.1++ns) n el):LElS zB9 (zaR l (i+1)).2.1 n el:=by
 show LElS zB9 ((zaR l i).2.1++nmQ (zbt (l.getD i 0) qM) (zaR l i).2.2) n el;rw[hn];exact h
theorem LElS.two{A:Type}[Inhabited A]{g:A->List SV}{l:List A}{n sz:Nat}{el:Nat->List SV}{x y:A}{cs ds:List SV}(h:LElS g l n el)(hc:SameL cs (g x))(hl:cs.length=sz)(hd:SameL ds (g y))(hm:ds.length=sz):LElS g (l++([x]++[y])) (n+1+1) (zcb (n+1) (zcb n el (zcz sz cs)) (zcz sz ds)):=
 LElS.eq ((h.snoc hc hl).snoc hd hm) (yc1 ..)
def hdF(el:Nat->List SV):Prop:=(∃k p,el 0=zah (lfN k p))\/∃e,el 0=[ai 4,ai 0,ai 0,ai 0,ab false,au 0,.cv .nils,ziY [],.isl 9 2 e]
def hdQ(i n:Nat)(el:Nat->List SV):Prop:=i=0\/(0<n/\hdF el)
theorem zpF{n:Nat}{el el':Nat->List SV}(hn:0<n)(h:hdF el):hdF (zcb n el el'):=by
 have e:zcb n el el' 0=el 0:=if_pos hn;unfold hdF;rw[e];exact h
theorem zBS{cs:List SV}{el:Nat->List SV}(hc:hdF (fun _=>cs))(hl:cs.length=9):hdF (zcb 0 el (zcz 9 cs)):=by
 have e:zcb 0 el (zcz 9 cs) 0=cs:=by
  show(cs.drop (0*9)).take 9=cs;rw[Nat.zero_mul,List.drop_zero,List.take_of_length_le (by omega)]
 unfold hdF;rw[e];exact hc
theorem zDB{i n:Nat}{el:Nat->List SV}{cs:List SV}(hn:i=0->n=0)(h:hdQ i n el)(hc:hdF (fun _=>cs))(hl:cs.length=9):hdQ (i+1) (n+1) (zcb n el (zcz 9 cs)):=by
 refine .inr ⟨by omega,?_⟩;rcases h with rfl |⟨h0,h⟩
 ·obtain rfl:=hn rfl;exact zBS hc hl
 ·exact zpF h0 h
theorem zE4{i n:Nat}{el:Nat->List SV}{cs ds:List SV}(hi:0<i)(h:hdQ i n el):hdQ (i+1) (n+1+1) (zcb (n+1) (zcb n el (zcz 9 cs)) (zcz 9 ds)):=by
 refine .inr ⟨by omega,?_⟩;rcases h with rfl |⟨h0,h⟩
 ·omega
 ·exact zpF (by omega) (zpF h0 h)
theorem zx0(k p:Int):hdF (fun _=>zah (lfN k p)):=.inl ⟨k,p,rfl⟩
theorem zxw(e:Nat->List SV):hdF (fun _=>[ai 4,ai 0,ai 0,ai 0,ab false,au 0,.cv .nils,ziY [],.isl 9 2 e]):=.inr ⟨e,rfl⟩
theorem zC8{i n:Nat}{l:List Int}{el:Nat->List SV}(h:hdQ i n el)(hn:n=(zaR l i).1.length)(h1:((n:Int)==1)=true):hdF el:=by
 rcases h with rfl |⟨_,h⟩
 ·have:n=0:=hn;subst this;cases h1
 ·exact h
def zDA(ns:List (List UInt8))(k:Int):AggM:=⟨1+k.tmod 6,ns.getD ((k.tdiv 6).tmod ns.length).toNat default⟩
def zAq(ns:List (List UInt8))(k:Int):HaveM:=⟨zDA ns k,⟨1+dm k 180 6,dm k 1080 7 - 3⟩⟩
def zdq(l:List Int)(ns:List (List UInt8)):Nat->List HaveM×List AggM
 |0=>([],[])
 |j+1=>bif dm (zbt (l.getD (5+j) 0) qM) 60 3==0 then((zdq l ns j).1++[zAq ns (zbt (l.getD (5+j) 0) qM)],(zdq l ns j).2) else((zdq l ns j).1,(zdq l ns j).2++[zDA ns (zbt (l.getD (5+j) 0) qM)])
theorem zES{ns:List (List UInt8)}{n:Nat}{el:Nat->List SV}(h:LElS zB9 ns n el){i:Nat}(hi:i<n):el i=[ziY (ns.getD i default)]:=by
 have hs:=h.2 i hi;unfold zB9 at hs;generalize el i=x at hs;cases hs with |cons h1 h2=>?_
 cases h2;cases h1;rfl
theorem zz8{x:Int}{n:Nat}(hn:0<n)(hx:0<=x):(x.tmod (n:Int)).toNat<n:=by
 have h:=Int.tmod_lt_of_pos x (show 0<(n:Int)by omega);have h2:=Int.tmod_nonneg (n:Int) hx;omega
theorem zDT{x:Int}{n:Nat}(hn:0<n)(hx:0<=x):0<=x.tmod (n:Int)/\x.tmod (n:Int)+1<=n:=by
 have h:=Int.tmod_lt_of_pos x (show 0<(n:Int)by omega);have h2:=Int.tmod_nonneg (n:Int) hx;omega
theorem zxz{x a:Int}(ha:0<a)(hx:0<=x):0<=x.tmod a/\x.tmod a<a:=⟨Int.tmod_nonneg _ hx,Int.tmod_lt_of_pos _ ha⟩
theorem zEM(l:List Int)(ns:List (List UInt8)):∀j:Nat,(zdq l ns j).1.length<=j/\(zdq l ns j).2.length<=j
 |0=>⟨Nat.le_refl _,Nat.le_refl _⟩
 |j+1=>by
  have h:=zEM l ns j;unfold zdq;cases dm (zbt (l.getD (5+j) 0) qM) 60 3==0
  ·show((zdq l ns j).1).length<=_/\((zdq l ns j).2++[_]).length<=_;simp only[ya1,ya7,yb2];omega
  ·show((zdq l ns j).1++[_]).length<=_/\((zdq l ns j).2).length<=_;simp only[ya1,ya7,yb2];omega
section
variable{l:List Int}{ns:List (List UInt8)}{j m:Nat}{e:Nat->List SV}
theorem zFd(c:(dm (zbt (l.getD (5+j) 0) qM) 60 3==0)=true)(h:LElS zgr ((zdq l ns j).1++[zAq ns (zbt (l.getD (5+j) 0) qM)]) m e):LElS zgr (zdq l ns (j+1)).1 m e:=by
 unfold zdq;rw[c];exact h
theorem zFe(c:(dm (zbt (l.getD (5+j) 0) qM) 60 3==0)=false)(h:LElS zgr (zdq l ns j).1 m e):LElS zgr (zdq l ns (j+1)).1 m e:=by
 unfold zdq;rw[c];exact h
theorem zET(c:(dm (zbt (l.getD (5+j) 0) qM) 60 3==0)=true)(h:LElS zlZ (zdq l ns j).2 m e):LElS zlZ (zdq l ns (j+1)).2 m e:=by
 unfold zdq;rw[c];exact h
theorem zE5(c:(dm (zbt (l.getD (5+j) 0) qM) 60 3==0)=false)(h:LElS zlZ ((zdq l ns j).2++[zDA ns (zbt (l.getD (5+j) 0) qM)]) m e):LElS zlZ (zdq l ns (j+1)).2 m e:=by
 unfold zdq;rw[c];exact h
end
def zEK(l:List NodeM):NodeM:=.mk 3 0 0 ⟨0,false,0,[],[]⟩ l
def zyH(l:List NodeM):NodeM:=match l with
 |[]=>lfN 0 0
 |[n]=>n
 |a::b::r=>zEK (a::b::r)
def iQ(l:List Int):Nat:=min 4 l.length
noncomputable def jQ(l:List Int):Nat:=if(zaR l (iQ l)).2.1.length=0 then 0 else min 3 (l.length - 5)
noncomputable def zd8(l:List Int):QueryM:=⟨zyH (zaR l (iQ l)).1,zbt (l.getD 4 0) 8,(zdq l (zaR l (iQ l)).2.1 (jQ l)).1,(zdq l (zaR l (iQ l)).2.1 (jQ l)).2⟩
theorem zjy{x:NodeM}{cs:List SV}(h:SameL cs (zah x)){w:Int}{m1 m2:Nat}{e1 e2:Nat->List SV}{hv:List HaveM}{em:List AggM}(g1:LElS zgr hv m1 e1)(g2:LElS zlZ em m2 e2):SameL (cs++[au w,.isl 4 m1 e1,.isl 2 m2 e2]) (zaD ⟨x,w,hv,em⟩):=by
 have app:∀{a b c d:List SV},SameL a b->SameL c d->SameL (a++c) (b++d):=by
  intro a
  induction a with
  |nil=>intro b c d h k;cases h;exact k
  |cons y r ih=>intro b c d h k;cases h with |cons h1 h2=>exact .cons h1 (ih h2 k)
 have e:zaD ⟨x,w,hv,em⟩=zah x++[au w,.isl 4 hv.length (zkF hv),.islx 2 em.length (zkk em)]:=rfl;rw[e];refine app h (.cons (.refl _) (.cons ?_ (.cons ?_ .nil)))
 ·obtain⟨rfl,g⟩:=g1;exact .islD g
 ·obtain⟨rfl,g⟩:=g2;exact .toX g
theorem zFh{l:List Int}{i:Nat}(h:i<=4/\i<=l.length)(hx:i=4\/i=l.length):i=iQ l:=by unfold iQ;omega
theorem zEp{l:List Int}{j n2:Nat}(hn:n2=(zaR l (iQ l)).2.1.length)(h:j<=3/\j<=l.length - 5/\(j=0\/0<n2))(hx:l.length<=5+j\/j=3\/n2=0):j=jQ l:=by
 unfold jQ;rw[<- hn];split<;>omega
theorem zy5{l:List Int}{i j n1 m1 m2:Nat}{e1 e2:Nat->List SV}(hi:i=iQ l)(hj:j=jQ l)(h1:n1=(zaR l i).1.length)(h0:((n1:Int)==0)=true)(g1:LElS zgr (zdq l (zaR l i).2.1 j).1 m1 e1)(g2:LElS zlZ (zdq l (zaR l i).2.1 j).2 m2 e2):Same (.agg (zah (lfN 0 0)++[au (zbt (l.getD 4 0) 8),.isl 4 m1 e1,.isl 2 m2 e2])) (.agg (zaD (zd8 l))):=by
 subst hi;subst hj;have hk:(zaR l (iQ l)).1=[]:=by
  rw[beq_iff_eq]at h0;exact List.length_eq_zero_iff.1 (by omega)
 have:zyH (zaR l (iQ l)).1=lfN 0 0:=by rw[hk];rfl
 unfold zd8;rw[this];exact .agg (zjy zfM g1 g2)
theorem zBy{l:List Int}{i j n1 m1 m2:Nat}{el1 e1 e2:Nat->List SV}(hi:i=iQ l)(hj:j=jQ l)(h1:LElS zah (zaR l i).1 n1 el1)(h0:((n1:Int)==0)=false)(h01:((n1:Int)==1)=false)(g1:LElS zgr (zdq l (zaR l i).2.1 j).1 m1 e1)(g2:LElS zlZ (zdq l (zaR l i).2.1 j).2 m2 e2):Same (.agg ([ai 3,ai 0,ai 0,ai 0,ab false,au 0,.cv .nils,ziY [],.isl 9 n1 el1]++[au (zbt (l.getD 4 0) 8),.isl 4 m1 e1,.isl 2 m2 e2])) (.agg (zaD (zd8 l))):=by
 subst hi;subst hj;obtain⟨rfl,h1⟩:=h1;have:zyH (zaR l (iQ l)).1=zEK (zaR l (iQ l)).1:=by
  generalize (zaR l (iQ l)).1=ks at h0 h01
  match ks with
  |[]=>cases h0
  |[n]=>cases h01
  |a::b::r=>rfl
 unfold zd8;rw[this];refine .agg (zjy ?_ g1 g2);refine .cons (.refl _) (.cons (.refl _) (.cons (.refl _) (.cons (.refl _) (.cons (.refl _) (.cons (.refl _) (.cons .nils (.cons (.refl _) (.cons (.islD fun k hk=>?_) .nil))))))));have hq:zcW (zEK (zaR l (iQ l)).1).kids k=zah ((zaR l (iQ l)).1.getD k default):=by
  show zcW (zaR l (iQ l)).1 k=_;unfold zcW;rw[zeU,ya8,yb9,ya8,yb5 hk];rfl
 rw[hq];exact h1 k hk
theorem zBd{l:List Int}{i j n1 m1 m2:Nat}{el1 e1 e2:Nat->List SV}{cs:List SV}(hi:i=iQ l)(hj:j=jQ l)(h1:LElS zah (zaR l i).1 n1 el1)(h0:((n1:Int)==1)=true)(he:el1 0=cs)(g1:LElS zgr (zdq l (zaR l i).2.1 j).1 m1 e1)(g2:LElS zlZ (zdq l (zaR l i).2.1 j).2 m2 e2):Same (.agg (cs++[au (zbt (l.getD 4 0) 8),.isl 4 m1 e1,.isl 2 m2 e2])) (.agg (zaD (zd8 l))):=by
 subst hi;subst hj;subst he;obtain⟨rfl,h1⟩:=h1;have hl:(zaR l (iQ l)).1.length=1:=by
  rw[beq_iff_eq]at h0;omega
 have:zyH (zaR l (iQ l)).1=(zaR l (iQ l)).1.getD 0 default:=by
  generalize (zaR l (iQ l)).1=ks at hl
  match ks with
  |[n]=>rfl
 unfold zd8;rw[this];exact .agg (zjy (h1 0 (by omega)) g1 g2)
set_option maxHeartbeats 8000000 in
theorem zz9(l:List Int)(hl:l.length<=maxLen):DSpec Tryz.prog axX axG 5 [.isl 1 l.length (zpU l)] [] (fun v O=>Same v (.agg (zaD (zd8 l)))/\O=[]):=by
 refine zac { glb:=axG,ann:=[(5,[6,3,4,5]),(30,[12,4])],nils:=[(5,[(.slot 3,30,9),(.slot 4,9,1)]),(30,[(.cell 3 10,61,4),(.cell 3 11,55,2)])] } true Tryz.func5 (by kernel_rfl) rfl ?_
 repeat' (
   (conv=>whnf)
   first
    |exact zad (by kernel_rfl)
    |refine And.intro ?_ ?_
    |refine zaa ?_ ?_
    |(refine⟨_,zxY _ 1073741824 (by decide) (by decide),?_⟩;rintro v O' ⟨rfl,rfl⟩)
    |(refine⟨_,zAX _ _ (by have:=ziT l i;omega),?_⟩;rintro v O' ⟨rfl,rfl⟩)
    |(refine⟨_,zuZ _ _ _ (by decide) (by have:=ziT l i;omega),?_⟩;rintro v O' ⟨rfl,rfl⟩)
    |(refine⟨_,zuZ _ _ _ (by decide) (by decide),?_⟩;rintro v O' ⟨rfl,rfl⟩)
    |(refine⟨_,zB6,?_⟩;rintro v O' ⟨rfl,rfl⟩)
    |(refine⟨_,zFE l 4 hl (by decide),?_⟩;rintro v O' ⟨rfl,rfl⟩)
    |(refine⟨_,zxY _ 8 (by decide) (by decide),?_⟩;rintro v O' ⟨rfl,rfl⟩)
    |((refine⟨fun vs O _=>∃(i n1 n2:Nat) (el1 el2:Nat->List SV),(i<=4/\i<=l.length)/\hdQ i n1 el1/\LElS zah (zaR l i).1 n1 el1/\LElS zB9 (zaR l i).2.1 n2 el2/\vs=[ai i,.lst 1,.lst 2,ai (zaR l i).2.2]/\O=[.cells 34 [ai 0,ai 0,ai 0,ai 0,ab false,au 0,.cv .nils,ziY [],.cv .nils,au 0,.cv .nils,.cv .nils],.list 30 9 n1 el1,.list 9 1 n2 el2],fun vs O=>match vs with |.cv (.int _ k)::_=>4 - k.toNat |_=>0,⟨0,0,0,_,_,⟨by decide,Nat.zero_le _⟩,.inl rfl,⟨rfl,fun i h=>absurd h (by omega)⟩,⟨rfl,fun i h=>absurd h (by omega)⟩,rfl,rfl⟩,?_⟩;rintro vs O _ ⟨i,n1,n2,el1,el2,hi,hd,h1,h2,rfl,rfl⟩))
    |((refine⟨fun vs O _=>∃(j m1 m2:Nat) (e1 e2:Nat->List SV),(j<=3/\j<=l.length - 5/\(j=0\/0<n2))/\LElS zgr (zdq l (zaR l i).2.1 j).1 m1 e1/\LElS zlZ (zdq l (zaR l i).2.1 j).2 m2 e2/\vs=[ai (5+(j:Int)),.lst 2]/\O=[.cells 34 [ai 0,ai 0,ai 0,ai 0,ab false,au 0,.cv .nils,ziY [],.cv .nils,au 0,.cv .nils,.cv .nils],.dead,.list 9 1 n2 el2,.cells 34 [ai (lfN 0 0).kind,ai (lfN 0 0).mn,ai (lfN 0 0).mx,ai (lfN 0 0).atom.kind,ab (lfN 0 0).atom.bnd,au (lfN 0 0).atom.bound,.isl 2 (lfN 0 0).atom.cs.length (zco (lfN 0 0).atom.cs),ziY (lfN 0 0).atom.name,.isl 9 (lfN 0 0).kids.length (zcW (lfN 0 0).kids),au (zbt (l.getD 4 0) 8),.lst 4,.lst 5],.list 61 4 m1 e1,.list 55 2 m2 e2],fun vs O=>match vs with |.cv (.int _ k)::_=>8 - k.toNat |_=>0,⟨0,0,0,_,_,⟨by decide,Nat.zero_le _,.inl rfl⟩,⟨rfl,fun i h=>absurd h (by omega)⟩,⟨rfl,fun i h=>absurd h (by omega)⟩,rfl,rfl⟩,?_⟩;rintro vs O _ ⟨j,m1,m2,e1,e2,hj,g1,g2,rfl,rfl⟩))
    |((refine⟨fun vs O _=>∃(j m1 m2:Nat) (e1 e2:Nat->List SV),(j<=3/\j<=l.length - 5/\(j=0\/0<n2))/\LElS zgr (zdq l (zaR l i).2.1 j).1 m1 e1/\LElS zlZ (zdq l (zaR l i).2.1 j).2 m2 e2/\vs=[ai (5+(j:Int)),.lst 2]/\O=[.cells 34 [ai 0,ai 0,ai 0,ai 0,ab false,au 0,.cv .nils,ziY [],.cv .nils,au 0,.cv .nils,.cv .nils],.list 30 9 n1 el1,.list 9 1 n2 el2,.cells 34 [ai 3,ai 0,ai 0,ai 0,ab false,au 0,.cv .nils,ziY [],.lst 1,au (zbt (l.getD 4 0) 8),.lst 4,.lst 5],.list 61 4 m1 e1,.list 55 2 m2 e2],fun vs O=>match vs with |.cv (.int _ k)::_=>8 - k.toNat |_=>0,⟨0,0,0,_,_,⟨by decide,Nat.zero_le _,.inl rfl⟩,⟨rfl,fun i h=>absurd h (by omega)⟩,⟨rfl,fun i h=>absurd h (by omega)⟩,rfl,rfl⟩,?_⟩;rintro vs O _ ⟨j,m1,m2,e1,e2,hj,g1,g2,rfl,rfl⟩))
    |((refine⟨fun vs O _=>∃(j m1 m2:Nat) (e1 e2:Nat->List SV),(j<=3/\j<=l.length - 5/\(j=0\/0<n2))/\LElS zgr (zdq l (zaR l i).2.1 j).1 m1 e1/\LElS zlZ (zdq l (zaR l i).2.1 j).2 m2 e2/\vs=[ai (5+(j:Int)),.lst 2]/\O=[.cells 34 [ai 0,ai 0,ai 0,ai 0,ab false,au 0,.cv .nils,ziY [],.cv .nils,au 0,.cv .nils,.cv .nils],.dead,.list 9 1 n2 el2,.cells 34 [ai (lfN k0 q0).kind,ai (lfN k0 q0).mn,ai (lfN k0 q0).mx,ai (lfN k0 q0).atom.kind,ab (lfN k0 q0).atom.bnd,au (lfN k0 q0).atom.bound,.isl 2 (lfN k0 q0).atom.cs.length (zco (lfN k0 q0).atom.cs),ziY (lfN k0 q0).atom.name,.isl 9 (lfN k0 q0).kids.length (zcW (lfN k0 q0).kids),au (zbt (l.getD 4 0) 8),.lst 4,.lst 5],.list 61 4 m1 e1,.list 55 2 m2 e2],fun vs O=>match vs with |.cv (.int _ k)::_=>8 - k.toNat |_=>0,⟨0,0,0,_,_,⟨by decide,Nat.zero_le _,.inl rfl⟩,⟨rfl,fun i h=>absurd h (by omega)⟩,⟨rfl,fun i h=>absurd h (by omega)⟩,rfl,rfl⟩,?_⟩;rintro vs O _ ⟨j,m1,m2,e1,e2,hj,g1,g2,rfl,rfl⟩))
    |((refine⟨fun vs O _=>∃(j m1 m2:Nat) (e1 e2:Nat->List SV),(j<=3/\j<=l.length - 5/\(j=0\/0<n2))/\LElS zgr (zdq l (zaR l i).2.1 j).1 m1 e1/\LElS zlZ (zdq l (zaR l i).2.1 j).2 m2 e2/\vs=[ai (5+(j:Int)),.lst 2]/\O=[.cells 34 [ai 0,ai 0,ai 0,ai 0,ab false,au 0,.cv .nils,ziY [],.cv .nils,au 0,.cv .nils,.cv .nils],.dead,.list 9 1 n2 el2,.cells 34 [ai 4,ai 0,ai 0,ai 0,ab false,au 0,.cv .nils,ziY [],.isl 9 2 elp,au (zbt (l.getD 4 0) 8),.lst 4,.lst 5],.list 61 4 m1 e1,.list 55 2 m2 e2],fun vs O=>match vs with |.cv (.int _ k)::_=>8 - k.toNat |_=>0,⟨0,0,0,_,_,⟨by decide,Nat.zero_le _,.inl rfl⟩,⟨rfl,fun i h=>absurd h (by omega)⟩,⟨rfl,fun i h=>absurd h (by omega)⟩,rfl,rfl⟩,?_⟩;rintro vs O _ ⟨j,m1,m2,e1,e2,hj,g1,g2,rfl,rfl⟩))
    |((rw[zES h2 (zz8 (by(simp only[zz]at *;omega)) (zti (by decide)).1)]))
    |((rcases zC8 hd h1.1 (by assumption) with⟨k0,q0,he⟩ |⟨elp,he⟩<;>(have he':el1 (Int.toNat 0)=_:=he)<;>rw[he']))
    |intro _)
 all_goals try have p0:=ziT l i
 all_goals try have z0:=zFt l i
 all_goals try have z1:=h1.1
 all_goals try have z2:=h2.1
 all_goals try have m8:=zej (n:=l.getD 4 0) (m:=8) (by decide)
 all_goals try have d5:0<=(zbt (l.getD ((i:Int)).toNat 0) 1073741824).tdiv 5/\(zbt (l.getD ((i:Int)).toNat 0) 1073741824).tdiv 5<1073741824:=zti (by decide)
 all_goals try have d7:0<=(zbt (l.getD ((i:Int)).toNat 0) 1073741824).tdiv 7/\(zbt (l.getD ((i:Int)).toNat 0) 1073741824).tdiv 7<1073741824:=zti (by decide)
 all_goals try have d28:0<=(zbt (l.getD ((i:Int)).toNat 0) 1073741824).tdiv 28/\(zbt (l.getD ((i:Int)).toNat 0) 1073741824).tdiv 28<1073741824:=zti (by decide)
 all_goals first
  |rfl
  |omega
  |(simp only[zz]at *;omega)
  | (refine⟨i+1,_,_,_,_,?_,?_,?_,?_,?_,rfl⟩
     ·(simp only[zz]at *;omega)
     ·(first
       |exact zE4 (by(simp only[zz]at *;omega)) hd
       |exact zDB (fun h=>by subst h;exact z1) hd (zxw _) rfl
       |exact zDB (fun h=>by subst h;exact z1) hd (zx0 _ _) rfl)
     ·(first
       |(refine ztE (zCx (by assumption) (by assumption)) (zrB (by assumption)) (h1.two ?_ ?_ ?_ ?_)<;>first |rfl |exact zcy _ |exact zdM rfl rfl |exact zfM)
       |(refine ztE (zCx (by assumption) (by assumption)) (zrn (by assumption)) (h1.two ?_ ?_ ?_ ?_)<;>first |rfl |exact zcy _ |exact zdM rfl rfl |exact zfM)
       |(refine ztE (zC0 (by assumption) (by assumption)) (zrB (by assumption)) (h1.snoc ?_ ?_)<;>first |rfl |exact zcy _ |exact zdM rfl rfl |exact zfM)
       |(refine ztE (zC0 (by assumption) (by assumption)) (zrn (by assumption)) (h1.snoc ?_ ?_)<;>first |rfl |exact zcy _ |exact zdM rfl rfl |exact zfM)
       |(refine ztE (zDH (by assumption)) (zrB (by assumption)) (h1.snoc ?_ ?_)<;>first |rfl |exact zcy _ |exact zdM rfl rfl |exact zfM)
       |(refine ztE (zDH (by assumption)) (zrn (by assumption)) (h1.snoc ?_ ?_)<;>first |rfl |exact zcy _ |exact zdM rfl rfl |exact zfM)
       |skip)
     ·(first
       |(refine zkG (ztA (by assumption) (zs9 (by assumption)) (zs9 (by assumption))) (h2.two ?_ ?_ ?_ ?_)<;>first |rfl |exact zcy _ |exact zdM rfl rfl |exact zfM)
       |(refine zkG (ztA (by assumption) (zs9 (by assumption)) (ztg (by assumption))) (h2.snoc ?_ ?_)<;>first |rfl |exact zcy _ |exact zdM rfl rfl |exact zfM)
       |(refine zkG (ztA (by assumption) (ztg (by assumption)) (zs9 (by assumption))) (h2.snoc ?_ ?_)<;>first |rfl |exact zcy _ |exact zdM rfl rfl |exact zfM)
       |exact zkG (ztA (by assumption) (ztg (by assumption)) (ztg (by assumption))) (h2.eq (yc2 _).symm)
       |(refine zkG (zxW (by assumption) (zs9 (by assumption))) (h2.snoc ?_ ?_)<;>first |rfl |exact zcy _ |exact zdM rfl rfl |exact zfM)
       |exact zkG (zxW (by assumption) (ztg (by assumption))) (h2.eq (yc2 _).symm)
       |skip)
     ·(first
       |exact congrArg (fun x=>[_,_,_,ai x]) (zDD (by assumption))
       |exact congrArg (fun x=>[_,_,_,ai x]) (zC2 (by assumption))
       |skip))
  |skip
 all_goals try have y0:=zEM l (zaR l i).2.1 j
 all_goals try have y1:=g1.1
 all_goals try have y2:=g2.1
 all_goals try have q0:=zej (n:=l.getD ((5+(j:Int))).toNat 0) (m:=1073741824) (by decide)
 all_goals try have q6:0<=(zbt (l.getD ((5+(j:Int))).toNat 0) 1073741824).tdiv 6/\(zbt (l.getD ((5+(j:Int))).toNat 0) 1073741824).tdiv 6<1073741824:=zti (by decide)
 all_goals try have t6:=zxz (a:=6) (by decide) q0.1
 all_goals try have tn:=zDT (n:=n2) (by(simp only[zz]at *;omega)) q6.1
 all_goals first
  |rfl
  |omega
  |(simp only[zz]at *;omega)
  | (subst z2
     refine⟨j+1,_,_,_,_,?_,?_,?_,?_,rfl⟩
     ·(simp only[zz]at *;omega)
     ·(first
       |(refine zFd (by assumption) (g1.snoc ?_ ?_)<;>first |rfl |exact zfM)
       |exact zFe (by assumption) g1)
     ·(first
       |exact zET (by assumption) g2
       |(refine zE5 (by assumption) (g2.snoc ?_ ?_)<;>first |rfl |exact zfM))
     ·rfl)
  |(rename_i hz;exact Bool.noConfusion (show true=false from hz))
  | (have hI:i=iQ l:=zFh hi (by(simp only[zz]at *;omega))
     have hJ:j=jQ l:=zEp (by rw[<- hI];exact z2) hj (by(simp only[zz]at *;omega))
     first
    |exact zy5 hI hJ z1 (by assumption) g1 g2
    |exact zBd hI hJ h1 (by assumption) he g1 g2
    |exact zBy hI hJ h1 (by assumption) (by assumption) g1 g2)
  |(simp(disch:=omega) only[Int.tdiv_eq_ediv_of_nonneg,Int.tmod_eq_emod_of_nonneg]at *;omega)
end Go.Proofs.YtogdglnaagkaaaaGreatDoor
