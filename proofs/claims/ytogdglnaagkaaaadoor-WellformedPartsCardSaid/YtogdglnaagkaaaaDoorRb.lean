import Derived.Test.YtogdglnaagkaaaaDoorRa
import Derived.Test.YtogdglnaagkaaaaDoorAm
import Derived.Test.YtogdglnaagkaaaaDoorAh
set_option linter.unusedSimpArgs false
set_option linter.unusedVariables false
set_option maxRecDepth 100000
namespace Go.Proofs.YtogdglnaagkaaaaDoor
open Go Go.Cx
abbrev qM:Int:=1073741824
def zyY(s:List UInt8):List SV:=[zgu s]
noncomputable def nmL(n:NodeM):List (List UInt8):=bif isE (nm n.atom.name) then[] else[n.atom.name]
def zhj(k:Int):NodeM:=.mk 2 0 0 ⟨(zbz k 0).kind,(zbz k 0).bnd,(zbz k 0).bound,(zbz k 0).cs,[]⟩ []
def zvZ(a b:NodeM):NodeM:=.mk 4 0 0 ⟨0,false,0,[],[]⟩ [a,b]
noncomputable def gdQ(i:Nat)(k:Int):List NodeM:=bif decide ((i:Int) > 0)&&dm k 7 4==1 then[zhj (k.tdiv 28)] else[]
noncomputable def zp4(k p:Int):NodeM:=bif k.tmod 7==1 then zvZ (lfN k p) (lfN (k.tdiv 5) (p+1))else lfN k p
noncomputable def nmQ(k p:Int):List (List UInt8):=nmL (lfN k p)++(bif k.tmod 7==1 then nmL (lfN (k.tdiv 5) (p+1)) else[])
noncomputable def atQ(k p:Int):Int:=bif k.tmod 7==1 then p+1+1 else p+1
noncomputable def za0(l:List Int):Nat->List NodeM×List (List UInt8)×Int
 |0=>([],[],0)
 |i+1=>((za0 l i).1++(gdQ i (zb1 (l.getD i 0) qM)++[zp4 (zb1 (l.getD i 0) qM) (za0 l i).2.2]),(za0 l i).2.1++nmQ (zb1 (l.getD i 0) qM) (za0 l i).2.2,atQ (zb1 (l.getD i 0) qM) (za0 l i).2.2)
theorem zki(l:List Int):∀i:Nat,0<=(za0 l i).2.2/\(za0 l i).2.2<=2*i
 |0=>by simp[za0]
 |i+1=>by
  have h:=zki l i;show 0<=atQ _ _/\atQ _ _<=_;unfold atQ;cases(zb1 (l.getD i 0) qM).tmod 7==1<;>simp<;>omega
theorem zrq{x a:Int}(ha:1<=a):0<=(zb1 x qM).tdiv a/\(zb1 x qM).tdiv a<qM:=by
 have h:=zg1 (n:=x) (m:=qM) (by decide);rw[Int.tdiv_eq_ediv_of_nonneg h.1];exact⟨Int.ediv_nonneg h.1 (by omega),Int.lt_of_le_of_lt (Int.ediv_le_self _ h.1) h.2⟩
theorem zxu(x p:Int)(hp:0<=p/\p<=100):DSpec Tryd.prog axX axG 24 [ai (zb1 x qM),ai p] [] (fun v O=>v=.agg (zah (lfN (zb1 x qM) p))/\O=[]):=zBF _ p (zg1 (by decide)) hp
theorem zuh(x a p:Int)(ha:1<=a)(hp:0<=p/\p<=100):DSpec Tryd.prog axX axG 24 [ai ((zb1 x qM).tdiv a),ai p] [] (fun v O=>v=.agg (zah (lfN ((zb1 x qM).tdiv a) p))/\O=[]):=zBF _ p (zrq ha) hp
theorem zyI:DSpec Tryd.prog axX axG 24 [ai 0,ai 0] [] (fun v O=>v=.agg (zah (lfN 0 0))/\O=[]):=zBF 0 0 (by decide) (by decide)
theorem ze5:∀{l:List SV},SameL l l
 |[]=>.nil
 |_::_=>.cons (.refl _) ze5
theorem zrk{n:NodeM}(h:(!isE (nm n.atom.name))=true):nmL n=[n.atom.name]:=by
 unfold nmL;rw[Bool.not_eq_true']at h;rw[h];rfl
theorem zrv{n:NodeM}(h:(!isE (nm n.atom.name))=false):nmL n=[]:=by
 unfold nmL;rw[Bool.not_eq_false']at h;rw[h];rfl
theorem zoY(n:NodeM):(nmL n).length<=1:=by
 unfold nmL;cases isE (nm n.atom.name)<;>simp
theorem zBS(l:List Int):∀i:Nat,(za0 l i).1.length<=2*i/\(za0 l i).2.1.length<=2*i
 |0=>⟨Nat.le_refl _,Nat.le_refl _⟩
 |i+1=>by
  have h:=zBS l i;show((za0 l i).1++(gdQ i (zb1 (l.getD i 0) qM)++[_])).length<=_/\((za0 l i).2.1++nmQ (zb1 (l.getD i 0) qM) (za0 l i).2.2).length<=_;generalize zb1 (l.getD i 0) qM=k;have h1:(gdQ i k).length<=1:=by
   unfold gdQ;cases decide ((i:Int) > 0)&&dm k 7 4==1<;>simp
  have h2:(nmQ k (za0 l i).2.2).length<=2:=by
   unfold nmQ;have a:=zoY (lfN k (za0 l i).2.2);have b:=zoY (lfN (k.tdiv 5) ((za0 l i).2.2+1));cases k.tmod 7==1<;>simp<;>omega
  simp only[ya1,ya7,List.length_nil];omega
theorem zzS{i:Nat}{k:Int}(h0:decide ((i:Int) > 0)=true)(h7:((k.tdiv 7).tmod 4==1)=true):gdQ i k=[zhj (k.tdiv 28)]:=by
 unfold gdQ dm;rw[h0,h7];rfl
theorem zzX{i:Nat}{k:Int}(h0:decide ((i:Int) > 0)=true)(h7:((k.tdiv 7).tmod 4==1)=false):gdQ i k=[]:=by
 unfold gdQ dm;rw[h0,h7];rfl
theorem zzT{i:Nat}{k:Int}(h0:decide ((i:Int) > 0)=false):gdQ i k=[]:=by
 unfold gdQ;rw[h0];rfl
theorem zqd{k p:Int}(h:(k.tmod 7==1)=true):zp4 k p=zvZ (lfN k p) (lfN (k.tdiv 5) (p+1)):=by unfold zp4;rw[h];rfl
theorem zpv{k p:Int}(h:(k.tmod 7==1)=false):zp4 k p=lfN k p:=by unfold zp4;rw[h];rfl
theorem zzk{k p:Int}(h:(k.tmod 7==1)=true):p+1+1=atQ k p:=by unfold atQ;rw[h];rfl
theorem zzb{k p:Int}(h:(k.tmod 7==1)=false):p+1=atQ k p:=by unfold atQ;rw[h];rfl
theorem zrX{k p:Int}{a b:List (List UInt8)}(h:(k.tmod 7==1)=true)(ha:nmL (lfN k p)=a)(hb:nmL (lfN (k.tdiv 5) (p+1))=b):nmQ k p=a++b:=by unfold nmQ;rw[h,ha,hb];rfl
theorem zvN{k p:Int}{a:List (List UInt8)}(h:(k.tmod 7==1)=false)(ha:nmL (lfN k p)=a):nmQ k p=a:=by unfold nmQ;rw[h,ha];exact yc2 _
theorem LElS.eq{A:Type}[Inhabited A]{g:A->List SV}{a b:List A}{n:Nat}{el:Nat->List SV}(h:LElS g a n el)(e:a=b):LElS g b n el:=e ▸ h
theorem zcm(k:Int):SameL [ai 2,ai 0,ai 0,ai (lfN k 0).atom.kind,ab (lfN k 0).atom.bnd,au (lfN k 0).atom.bound,.isl 2 (lfN k 0).atom.cs.length (zbo (lfN k 0).atom.cs),.cv (.str []),.cv .nils] (zah (zhj k)):=
 .cons (.refl _) (.cons (.refl _) (.cons (.refl _) (.cons (.refl _) (.cons (.refl _) (.cons (.refl _) (.cons (.refl _) (.cons (.refl _) (.cons .nils .nil))))))))
theorem zdr{a b:NodeM}{el:Nat->List SV}(h0:el 0=zah a)(h1:el 1=zah b):SameL [ai 4,ai 0,ai 0,ai 0,ab false,au 0,.cv .nils,.cv (.str []),.isl 9 2 el] (zah (zvZ a b)):=by
 refine .cons (.refl _) (.cons (.refl _) (.cons (.refl _) (.cons (.refl _) (.cons (.refl _) (.cons (.refl _) (.cons .nils (.cons (.refl _) (.cons (.isl fun i hi=>?_) .nil))))))));have hk:∀i,zcc [a,b] i=([a,b].map zah).getD i (([a,b].map zah).headD []):=fun i=>by unfold zcc;rw[zel]
 have hi:i=0\/i=1:=by omega
 rcases hi with rfl |rfl
 ·rw[h0];exact(hk 0).symm
 ·rw[h1];exact(hk 1).symm
theorem zq5{l:List Int}{i n:Nat}{el:Nat->List SV}{g:List NodeM}{o:NodeM}(hg:gdQ i (zb1 (l.getD i 0) qM)=g)(ho:zp4 (zb1 (l.getD i 0) qM) (za0 l i).2.2=o)(h:LElS zah ((za0 l i).1++(g++[o])) n el):LElS zah (za0 l (i+1)).1 n el:=by
 show LElS zah ((za0 l i).1++(gdQ i (zb1 (l.getD i 0) qM)++[zp4 (zb1 (l.getD i 0) qM) (za0 l i).2.2])) n el;rw[hg,ho];exact h
theorem zj8{l:List Int}{i n:Nat}{el:Nat->List SV}{ns:List (List UInt8)}(hn:nmQ (zb1 (l.getD i 0) qM) (za0 l i).2.2=ns)(h:LElS zyY ((za0 l i).2.1++ns) n el):LElS zyY (za0 l (i+1)).2.1 n el:=by
 show LElS zyY ((za0 l i).2.1++nmQ (zb1 (l.getD i 0) qM) (za0 l i).2.2) n el;rw[hn];exact h
theorem LElS.two{A:Type}[Inhabited A]{g:A->List SV}{l:List A}{n sz:Nat}{el:Nat->List SV}{x y:A}{cs ds:List SV}(h:LElS g l n el)(hc:SameL cs (g x))(hl:cs.length=sz)(hd:SameL ds (g y))(hm:ds.length=sz):LElS g (l++([x]++[y])) (n+1+1) (zcd (n+1) (zcd n el (zc9 sz cs)) (zc9 sz ds)):=
 LElS.eq ((h.snoc hc hl).snoc hd hm) (yc1 ..)
def hdF(el:Nat->List SV):Prop:=(∃k p,el 0=zah (lfN k p))\/∃e,el 0=[ai 4,ai 0,ai 0,ai 0,ab false,au 0,.cv .nils,zgu [],.isl 9 2 e]
def hdQ(i n:Nat)(el:Nat->List SV):Prop:=i=0\/(0<n/\hdF el)
theorem zop{n:Nat}{el el':Nat->List SV}(hn:0<n)(h:hdF el):hdF (zcd n el el'):=by
 have e:zcd n el el' 0=el 0:=if_pos hn;unfold hdF;rw[e];exact h
theorem zxY{cs:List SV}{el:Nat->List SV}(hc:hdF (fun _=>cs))(hl:cs.length=9):hdF (zcd 0 el (zc9 9 cs)):=by
 have e:zcd 0 el (zc9 9 cs) 0=cs:=by
  show(cs.drop (0*9)).take 9=cs;rw[Nat.zero_mul,List.drop_zero,List.take_of_length_le (by omega)]
 unfold hdF;rw[e];exact hc
theorem zzq{i n:Nat}{el:Nat->List SV}{cs:List SV}(hn:i=0->n=0)(h:hdQ i n el)(hc:hdF (fun _=>cs))(hl:cs.length=9):hdQ (i+1) (n+1) (zcd n el (zc9 9 cs)):=by
 refine .inr ⟨by omega,?_⟩;rcases h with rfl |⟨h0,h⟩
 ·obtain rfl:=hn rfl;exact zxY hc hl
 ·exact zop h0 h
theorem zBK{i n:Nat}{el:Nat->List SV}{cs ds:List SV}(hi:0<i)(h:hdQ i n el):hdQ (i+1) (n+1+1) (zcd (n+1) (zcd n el (zc9 9 cs)) (zc9 9 ds)):=by
 refine .inr ⟨by omega,?_⟩;rcases h with rfl |⟨h0,h⟩
 ·omega
 ·exact zop (by omega) (zop h0 h)
theorem zwn(k p:Int):hdF (fun _=>zah (lfN k p)):=.inl ⟨k,p,rfl⟩
theorem zvT(e:Nat->List SV):hdF (fun _=>[ai 4,ai 0,ai 0,ai 0,ab false,au 0,.cv .nils,zgu [],.isl 9 2 e]):=.inr ⟨e,rfl⟩
theorem zz5{i n:Nat}{l:List Int}{el:Nat->List SV}(h:hdQ i n el)(hn:n=(za0 l i).1.length)(h1:((n:Int)==1)=true):hdF el:=by
 rcases h with rfl |⟨_,h⟩
 ·have:n=0:=hn;subst this;cases h1
 ·exact h
def zAS(ns:List (List UInt8))(k:Int):AggM:=⟨1+k.tmod 6,ns.getD ((k.tdiv 6).tmod ns.length).toNat default⟩
def zzQ(ns:List (List UInt8))(k:Int):HaveM:=⟨zAS ns k,⟨1+dm k 180 6,dm k 1080 7 - 3⟩⟩
def zdM(l:List Int)(ns:List (List UInt8)):Nat->List HaveM×List AggM
 |0=>([],[])
 |j+1=>bif dm (zb1 (l.getD (5+j) 0) qM) 60 3==0 then((zdM l ns j).1++[zzQ ns (zb1 (l.getD (5+j) 0) qM)],(zdM l ns j).2) else((zdM l ns j).1,(zdM l ns j).2++[zAS ns (zb1 (l.getD (5+j) 0) qM)])
theorem zBk{ns:List (List UInt8)}{n:Nat}{el:Nat->List SV}(h:LElS zyY ns n el){i:Nat}(hi:i<n):el i=[zgu (ns.getD i default)]:=by
 have hs:=h.2 i hi;unfold zyY at hs;generalize el i=x at hs;cases hs with |cons h1 h2=>?_
 cases h2;cases h1;rfl
theorem zzj{x:Int}{n:Nat}(hn:0<n)(hx:0<=x):(x.tmod (n:Int)).toNat<n:=by
 have h:=Int.tmod_lt_of_pos x (show 0<(n:Int)by omega);have h2:=Int.tmod_nonneg (n:Int) hx;omega
theorem zz0{x:Int}{n:Nat}(hn:0<n)(hx:0<=x):0<=x.tmod (n:Int)/\x.tmod (n:Int)+1<=n:=by
 have h:=Int.tmod_lt_of_pos x (show 0<(n:Int)by omega);have h2:=Int.tmod_nonneg (n:Int) hx;omega
theorem zxJ{x a:Int}(ha:0<a)(hx:0<=x):0<=x.tmod a/\x.tmod a<a:=⟨Int.tmod_nonneg _ hx,Int.tmod_lt_of_pos _ ha⟩
theorem zBV(l:List Int)(ns:List (List UInt8)):∀j:Nat,(zdM l ns j).1.length<=j/\(zdM l ns j).2.length<=j
 |0=>⟨Nat.le_refl _,Nat.le_refl _⟩
 |j+1=>by
  have h:=zBV l ns j;unfold zdM;cases dm (zb1 (l.getD (5+j) 0) qM) 60 3==0
  ·show((zdM l ns j).1).length<=_/\((zdM l ns j).2++[_]).length<=_;simp only[ya1,ya7,List.length_nil];omega
  ·show((zdM l ns j).1++[_]).length<=_/\((zdM l ns j).2).length<=_;simp only[ya1,ya7,List.length_nil];omega
section
variable{l:List Int}{ns:List (List UInt8)}{j m:Nat}{e:Nat->List SV}
theorem zBB(c:(dm (zb1 (l.getD (5+j) 0) qM) 60 3==0)=true)(h:LElS zf2 ((zdM l ns j).1++[zzQ ns (zb1 (l.getD (5+j) 0) qM)]) m e):LElS zf2 (zdM l ns (j+1)).1 m e:=by
 unfold zdM;rw[c];exact h
theorem zA2(c:(dm (zb1 (l.getD (5+j) 0) qM) 60 3==0)=false)(h:LElS zf2 (zdM l ns j).1 m e):LElS zf2 (zdM l ns (j+1)).1 m e:=by
 unfold zdM;rw[c];exact h
theorem zBI(c:(dm (zb1 (l.getD (5+j) 0) qM) 60 3==0)=true)(h:LElS znZ (zdM l ns j).2 m e):LElS znZ (zdM l ns (j+1)).2 m e:=by
 unfold zdM;rw[c];exact h
theorem zBm(c:(dm (zb1 (l.getD (5+j) 0) qM) 60 3==0)=false)(h:LElS znZ ((zdM l ns j).2++[zAS ns (zb1 (l.getD (5+j) 0) qM)]) m e):LElS znZ (zdM l ns (j+1)).2 m e:=by
 unfold zdM;rw[c];exact h
end
def zAU(l:List NodeM):NodeM:=.mk 3 0 0 ⟨0,false,0,[],[]⟩ l
def zz8(l:List NodeM):NodeM:=match l with
 |[]=>lfN 0 0
 |[n]=>n
 |a::b::r=>zAU (a::b::r)
def iQ(l:List Int):Nat:=min 4 l.length
noncomputable def jQ(l:List Int):Nat:=if(za0 l (iQ l)).2.1.length=0 then 0 else min 3 (l.length - 5)
noncomputable def zgn(l:List Int):QueryM:=⟨zz8 (za0 l (iQ l)).1,zb1 (l.getD 4 0) 8,(zdM l (za0 l (iQ l)).2.1 (jQ l)).1,(zdM l (za0 l (iQ l)).2.1 (jQ l)).2⟩
theorem zia{x:NodeM}{cs:List SV}(h:SameL cs (zah x)){w:Int}{m1 m2:Nat}{e1 e2:Nat->List SV}{hv:List HaveM}{em:List AggM}(g1:LElS zf2 hv m1 e1)(g2:LElS znZ em m2 e2):SameL (cs++[au w,.isl 4 m1 e1,.isl 2 m2 e2]) (zaP ⟨x,w,hv,em⟩):=by
 have app:∀{a b c d:List SV},SameL a b->SameL c d->SameL (a++c) (b++d):=by
  intro a
  induction a with
  |nil=>intro b c d h k;cases h;exact k
  |cons y r ih=>intro b c d h k;cases h with |cons h1 h2=>exact .cons h1 (ih h2 k)
 have e:zaP ⟨x,w,hv,em⟩=zah x++[au w,.isl 4 hv.length (zkF hv),.isl 2 em.length (zrE em)]:=rfl;rw[e];refine app h (.cons (.refl _) (.cons ?_ (.cons ?_ .nil)))
 ·obtain⟨rfl,g⟩:=g1;exact .islD g
 ·obtain⟨rfl,g⟩:=g2;exact .islD g
theorem zAV{l:List Int}{i:Nat}(h:i<=4/\i<=l.length)(hx:i=4\/i=l.length):i=iQ l:=by unfold iQ;omega
theorem zA6{l:List Int}{j n2:Nat}(hn:n2=(za0 l (iQ l)).2.1.length)(h:j<=3/\j<=l.length - 5/\(j=0\/0<n2))(hx:l.length<=5+j\/j=3\/n2=0):j=jQ l:=by
 unfold jQ;rw[<- hn];split<;>omega
theorem zww{l:List Int}{i j n1 m1 m2:Nat}{e1 e2:Nat->List SV}(hi:i=iQ l)(hj:j=jQ l)(h1:n1=(za0 l i).1.length)(h0:((n1:Int)==0)=true)(g1:LElS zf2 (zdM l (za0 l i).2.1 j).1 m1 e1)(g2:LElS znZ (zdM l (za0 l i).2.1 j).2 m2 e2):Same (.agg (zah (lfN 0 0)++[au (zb1 (l.getD 4 0) 8),.isl 4 m1 e1,.isl 2 m2 e2])) (.agg (zaP (zgn l))):=by
 subst hi;subst hj;have hk:(za0 l (iQ l)).1=[]:=by
  rw[beq_iff_eq]at h0;exact List.length_eq_zero_iff.1 (by omega)
 have:zz8 (za0 l (iQ l)).1=lfN 0 0:=by rw[hk];rfl
 unfold zgn;rw[this];exact .agg (zia ze5 g1 g2)
theorem zx4{l:List Int}{i j n1 m1 m2:Nat}{el1 e1 e2:Nat->List SV}(hi:i=iQ l)(hj:j=jQ l)(h1:LElS zah (za0 l i).1 n1 el1)(h0:((n1:Int)==0)=false)(h01:((n1:Int)==1)=false)(g1:LElS zf2 (zdM l (za0 l i).2.1 j).1 m1 e1)(g2:LElS znZ (zdM l (za0 l i).2.1 j).2 m2 e2):Same (.agg ([ai 3,ai 0,ai 0,ai 0,ab false,au 0,.cv .nils,zgu [],.isl 9 n1 el1]++[au (zb1 (l.getD 4 0) 8),.isl 4 m1 e1,.isl 2 m2 e2])) (.agg (zaP (zgn l))):=by
 subst hi;subst hj;obtain⟨rfl,h1⟩:=h1;have:zz8 (za0 l (iQ l)).1=zAU (za0 l (iQ l)).1:=by
  generalize (za0 l (iQ l)).1=ks at h0 h01
  match ks with
  |[]=>cases h0
  |[n]=>cases h01
  |a::b::r=>rfl
 unfold zgn;rw[this];refine .agg (zia ?_ g1 g2);refine .cons (.refl _) (.cons (.refl _) (.cons (.refl _) (.cons (.refl _) (.cons (.refl _) (.cons (.refl _) (.cons .nils (.cons (.refl _) (.cons (.islD fun k hk=>?_) .nil))))))));have hq:zcc (zAU (za0 l (iQ l)).1).kids k=zah ((za0 l (iQ l)).1.getD k default):=by
  show zcc (za0 l (iQ l)).1 k=_;unfold zcc;rw[zel,ya8,yb9,ya8,yb5 hk];rfl
 rw[hq];exact h1 k hk
theorem zyF{l:List Int}{i j n1 m1 m2:Nat}{el1 e1 e2:Nat->List SV}{cs:List SV}(hi:i=iQ l)(hj:j=jQ l)(h1:LElS zah (za0 l i).1 n1 el1)(h0:((n1:Int)==1)=true)(he:el1 0=cs)(g1:LElS zf2 (zdM l (za0 l i).2.1 j).1 m1 e1)(g2:LElS znZ (zdM l (za0 l i).2.1 j).2 m2 e2):Same (.agg (cs++[au (zb1 (l.getD 4 0) 8),.isl 4 m1 e1,.isl 2 m2 e2])) (.agg (zaP (zgn l))):=by
 subst hi;subst hj;subst he;obtain⟨rfl,h1⟩:=h1;have hl:(za0 l (iQ l)).1.length=1:=by
  rw[beq_iff_eq]at h0;omega
 have:zz8 (za0 l (iQ l)).1=(za0 l (iQ l)).1.getD 0 default:=by
  generalize (za0 l (iQ l)).1=ks at hl
  match ks with
  |[n]=>rfl
 unfold zgn;rw[this];exact .agg (zia (h1 0 (by omega)) g1 g2)
set_option maxHeartbeats 8000000 in
theorem zx1(l:List Int)(hl:l.length<=maxLen):DSpec Tryd.prog axX axG 5 [.isl 1 l.length (zju l)] [] (fun v O=>Same v (.agg (zaP (zgn l)))/\O=[]):=by
 refine zac { glb:=axG,ann:=[(5,[6,3,4,5]),(30,[12,4])],nils:=[(5,[(.slot 3,30,9),(.slot 4,9,1)]),(30,[(.cell 3 10,58,4),(.cell 3 11,47,2)])] } true Tryd.func5 (by kernel_rfl) rfl ?_
 repeat' (
   (conv=>whnf)
   first
    |exact zaf (by kernel_rfl)
    |refine And.intro ?_ ?_
    |refine zaa ?_ ?_
    |(refine⟨_,zx3 _ 1073741824 (by decide) (by decide),?_⟩;rintro v O' ⟨rfl,rfl⟩)
    |(refine⟨_,zxu _ _ (by have:=zki l i;omega),?_⟩;rintro v O' ⟨rfl,rfl⟩)
    |(refine⟨_,zuh _ _ _ (by decide) (by have:=zki l i;omega),?_⟩;rintro v O' ⟨rfl,rfl⟩)
    |(refine⟨_,zuh _ _ _ (by decide) (by decide),?_⟩;rintro v O' ⟨rfl,rfl⟩)
    |(refine⟨_,zyI,?_⟩;rintro v O' ⟨rfl,rfl⟩)
    |(refine⟨_,zB7 l 4 hl (by decide),?_⟩;rintro v O' ⟨rfl,rfl⟩)
    |(refine⟨_,zx3 _ 8 (by decide) (by decide),?_⟩;rintro v O' ⟨rfl,rfl⟩)
    |((refine⟨fun vs O _=>∃(i n1 n2:Nat) (el1 el2:Nat->List SV),(i<=4/\i<=l.length)/\hdQ i n1 el1/\LElS zah (za0 l i).1 n1 el1/\LElS zyY (za0 l i).2.1 n2 el2/\vs=[ai i,.lst 1,.lst 2,ai (za0 l i).2.2]/\O=[.cells 34 [ai 0,ai 0,ai 0,ai 0,ab false,au 0,.cv .nils,zgu [],.cv .nils,au 0,.cv .nils,.cv .nils],.list 30 9 n1 el1,.list 9 1 n2 el2],fun vs O=>match vs with |.cv (.int _ k)::_=>4 - k.toNat |_=>0,⟨0,0,0,_,_,⟨by decide,Nat.zero_le _⟩,.inl rfl,⟨rfl,fun i h=>absurd h (by omega)⟩,⟨rfl,fun i h=>absurd h (by omega)⟩,rfl,rfl⟩,?_⟩;rintro vs O _ ⟨i,n1,n2,el1,el2,hi,hd,h1,h2,rfl,rfl⟩))
    |((refine⟨fun vs O _=>∃(j m1 m2:Nat) (e1 e2:Nat->List SV),(j<=3/\j<=l.length - 5/\(j=0\/0<n2))/\LElS zf2 (zdM l (za0 l i).2.1 j).1 m1 e1/\LElS znZ (zdM l (za0 l i).2.1 j).2 m2 e2/\vs=[ai (5+(j:Int)),.lst 2]/\O=[.cells 34 [ai 0,ai 0,ai 0,ai 0,ab false,au 0,.cv .nils,zgu [],.cv .nils,au 0,.cv .nils,.cv .nils],.dead,.list 9 1 n2 el2,.cells 34 [ai (lfN 0 0).kind,ai (lfN 0 0).mn,ai (lfN 0 0).mx,ai (lfN 0 0).atom.kind,ab (lfN 0 0).atom.bnd,au (lfN 0 0).atom.bound,.isl 2 (lfN 0 0).atom.cs.length (zbo (lfN 0 0).atom.cs),zgu (lfN 0 0).atom.name,.isl 9 (lfN 0 0).kids.length (zcc (lfN 0 0).kids),au (zb1 (l.getD 4 0) 8),.lst 4,.lst 5],.list 58 4 m1 e1,.list 47 2 m2 e2],fun vs O=>match vs with |.cv (.int _ k)::_=>8 - k.toNat |_=>0,⟨0,0,0,_,_,⟨by decide,Nat.zero_le _,.inl rfl⟩,⟨rfl,fun i h=>absurd h (by omega)⟩,⟨rfl,fun i h=>absurd h (by omega)⟩,rfl,rfl⟩,?_⟩;rintro vs O _ ⟨j,m1,m2,e1,e2,hj,g1,g2,rfl,rfl⟩))
    |((refine⟨fun vs O _=>∃(j m1 m2:Nat) (e1 e2:Nat->List SV),(j<=3/\j<=l.length - 5/\(j=0\/0<n2))/\LElS zf2 (zdM l (za0 l i).2.1 j).1 m1 e1/\LElS znZ (zdM l (za0 l i).2.1 j).2 m2 e2/\vs=[ai (5+(j:Int)),.lst 2]/\O=[.cells 34 [ai 0,ai 0,ai 0,ai 0,ab false,au 0,.cv .nils,zgu [],.cv .nils,au 0,.cv .nils,.cv .nils],.list 30 9 n1 el1,.list 9 1 n2 el2,.cells 34 [ai 3,ai 0,ai 0,ai 0,ab false,au 0,.cv .nils,zgu [],.lst 1,au (zb1 (l.getD 4 0) 8),.lst 4,.lst 5],.list 58 4 m1 e1,.list 47 2 m2 e2],fun vs O=>match vs with |.cv (.int _ k)::_=>8 - k.toNat |_=>0,⟨0,0,0,_,_,⟨by decide,Nat.zero_le _,.inl rfl⟩,⟨rfl,fun i h=>absurd h (by omega)⟩,⟨rfl,fun i h=>absurd h (by omega)⟩,rfl,rfl⟩,?_⟩;rintro vs O _ ⟨j,m1,m2,e1,e2,hj,g1,g2,rfl,rfl⟩))
    |((refine⟨fun vs O _=>∃(j m1 m2:Nat) (e1 e2:Nat->List SV),(j<=3/\j<=l.length - 5/\(j=0\/0<n2))/\LElS zf2 (zdM l (za0 l i).2.1 j).1 m1 e1/\LElS znZ (zdM l (za0 l i).2.1 j).2 m2 e2/\vs=[ai (5+(j:Int)),.lst 2]/\O=[.cells 34 [ai 0,ai 0,ai 0,ai 0,ab false,au 0,.cv .nils,zgu [],.cv .nils,au 0,.cv .nils,.cv .nils],.dead,.list 9 1 n2 el2,.cells 34 [ai (lfN k0 q0).kind,ai (lfN k0 q0).mn,ai (lfN k0 q0).mx,ai (lfN k0 q0).atom.kind,ab (lfN k0 q0).atom.bnd,au (lfN k0 q0).atom.bound,.isl 2 (lfN k0 q0).atom.cs.length (zbo (lfN k0 q0).atom.cs),zgu (lfN k0 q0).atom.name,.isl 9 (lfN k0 q0).kids.length (zcc (lfN k0 q0).kids),au (zb1 (l.getD 4 0) 8),.lst 4,.lst 5],.list 58 4 m1 e1,.list 47 2 m2 e2],fun vs O=>match vs with |.cv (.int _ k)::_=>8 - k.toNat |_=>0,⟨0,0,0,_,_,⟨by decide,Nat.zero_le _,.inl rfl⟩,⟨rfl,fun i h=>absurd h (by omega)⟩,⟨rfl,fun i h=>absurd h (by omega)⟩,rfl,rfl⟩,?_⟩;rintro vs O _ ⟨j,m1,m2,e1,e2,hj,g1,g2,rfl,rfl⟩))
    |((refine⟨fun vs O _=>∃(j m1 m2:Nat) (e1 e2:Nat->List SV),(j<=3/\j<=l.length - 5/\(j=0\/0<n2))/\LElS zf2 (zdM l (za0 l i).2.1 j).1 m1 e1/\LElS znZ (zdM l (za0 l i).2.1 j).2 m2 e2/\vs=[ai (5+(j:Int)),.lst 2]/\O=[.cells 34 [ai 0,ai 0,ai 0,ai 0,ab false,au 0,.cv .nils,zgu [],.cv .nils,au 0,.cv .nils,.cv .nils],.dead,.list 9 1 n2 el2,.cells 34 [ai 4,ai 0,ai 0,ai 0,ab false,au 0,.cv .nils,zgu [],.isl 9 2 elp,au (zb1 (l.getD 4 0) 8),.lst 4,.lst 5],.list 58 4 m1 e1,.list 47 2 m2 e2],fun vs O=>match vs with |.cv (.int _ k)::_=>8 - k.toNat |_=>0,⟨0,0,0,_,_,⟨by decide,Nat.zero_le _,.inl rfl⟩,⟨rfl,fun i h=>absurd h (by omega)⟩,⟨rfl,fun i h=>absurd h (by omega)⟩,rfl,rfl⟩,?_⟩;rintro vs O _ ⟨j,m1,m2,e1,e2,hj,g1,g2,rfl,rfl⟩))
    |((rw[zBk h2 (zzj (by(simp only[zz]at *;omega)) (zrq (by decide)).1)]))
    |((rcases zz5 hd h1.1 (by assumption) with⟨k0,q0,he⟩ |⟨elp,he⟩<;>(have he':el1 (Int.toNat 0)=_:=he)<;>rw[he']))
    |intro _)
 all_goals try have p0:=zki l i
 all_goals try have z0:=zBS l i
 all_goals try have z1:=h1.1
 all_goals try have z2:=h2.1
 all_goals try have m8:=zg1 (n:=l.getD 4 0) (m:=8) (by decide)
 all_goals try have d5:0<=(zb1 (l.getD ((i:Int)).toNat 0) 1073741824).tdiv 5/\(zb1 (l.getD ((i:Int)).toNat 0) 1073741824).tdiv 5<1073741824:=zrq (by decide)
 all_goals try have d7:0<=(zb1 (l.getD ((i:Int)).toNat 0) 1073741824).tdiv 7/\(zb1 (l.getD ((i:Int)).toNat 0) 1073741824).tdiv 7<1073741824:=zrq (by decide)
 all_goals try have d28:0<=(zb1 (l.getD ((i:Int)).toNat 0) 1073741824).tdiv 28/\(zb1 (l.getD ((i:Int)).toNat 0) 1073741824).tdiv 28<1073741824:=zrq (by decide)
 all_goals first
  |rfl
  |omega
  |(simp only[zz]at *;omega)
  | (refine⟨i+1,_,_,_,_,?_,?_,?_,?_,?_,rfl⟩
     ·(simp only[zz]at *;omega)
     ·(first
       |exact zBK (by(simp only[zz]at *;omega)) hd
       |exact zzq (fun h=>by subst h;exact z1) hd (zvT _) rfl
       |exact zzq (fun h=>by subst h;exact z1) hd (zwn _ _) rfl)
     ·(first
       |(refine zq5 (zzS (by assumption) (by assumption)) (zqd (by assumption)) (h1.two ?_ ?_ ?_ ?_)<;>first |rfl |exact zcm _ |exact zdr rfl rfl |exact ze5)
       |(refine zq5 (zzS (by assumption) (by assumption)) (zpv (by assumption)) (h1.two ?_ ?_ ?_ ?_)<;>first |rfl |exact zcm _ |exact zdr rfl rfl |exact ze5)
       |(refine zq5 (zzX (by assumption) (by assumption)) (zqd (by assumption)) (h1.snoc ?_ ?_)<;>first |rfl |exact zcm _ |exact zdr rfl rfl |exact ze5)
       |(refine zq5 (zzX (by assumption) (by assumption)) (zpv (by assumption)) (h1.snoc ?_ ?_)<;>first |rfl |exact zcm _ |exact zdr rfl rfl |exact ze5)
       |(refine zq5 (zzT (by assumption)) (zqd (by assumption)) (h1.snoc ?_ ?_)<;>first |rfl |exact zcm _ |exact zdr rfl rfl |exact ze5)
       |(refine zq5 (zzT (by assumption)) (zpv (by assumption)) (h1.snoc ?_ ?_)<;>first |rfl |exact zcm _ |exact zdr rfl rfl |exact ze5)
       |skip)
     ·(first
       |(refine zj8 (zrX (by assumption) (zrk (by assumption)) (zrk (by assumption))) (h2.two ?_ ?_ ?_ ?_)<;>first |rfl |exact zcm _ |exact zdr rfl rfl |exact ze5)
       |(refine zj8 (zrX (by assumption) (zrk (by assumption)) (zrv (by assumption))) (h2.snoc ?_ ?_)<;>first |rfl |exact zcm _ |exact zdr rfl rfl |exact ze5)
       |(refine zj8 (zrX (by assumption) (zrv (by assumption)) (zrk (by assumption))) (h2.snoc ?_ ?_)<;>first |rfl |exact zcm _ |exact zdr rfl rfl |exact ze5)
       |exact zj8 (zrX (by assumption) (zrv (by assumption)) (zrv (by assumption))) (h2.eq (yc2 _).symm)
       |(refine zj8 (zvN (by assumption) (zrk (by assumption))) (h2.snoc ?_ ?_)<;>first |rfl |exact zcm _ |exact zdr rfl rfl |exact ze5)
       |exact zj8 (zvN (by assumption) (zrv (by assumption))) (h2.eq (yc2 _).symm)
       |skip)
     ·(first
       |exact congrArg (fun x=>[_,_,_,ai x]) (zzk (by assumption))
       |exact congrArg (fun x=>[_,_,_,ai x]) (zzb (by assumption))
       |skip))
  |skip
 all_goals try have y0:=zBV l (za0 l i).2.1 j
 all_goals try have y1:=g1.1
 all_goals try have y2:=g2.1
 all_goals try have q0:=zg1 (n:=l.getD ((5+(j:Int))).toNat 0) (m:=1073741824) (by decide)
 all_goals try have q6:0<=(zb1 (l.getD ((5+(j:Int))).toNat 0) 1073741824).tdiv 6/\(zb1 (l.getD ((5+(j:Int))).toNat 0) 1073741824).tdiv 6<1073741824:=zrq (by decide)
 all_goals try have t6:=zxJ (a:=6) (by decide) q0.1
 all_goals try have tn:=zz0 (n:=n2) (by(simp only[zz]at *;omega)) q6.1
 all_goals first
  |rfl
  |omega
  |(simp only[zz]at *;omega)
  | (subst z2
     refine⟨j+1,_,_,_,_,?_,?_,?_,?_,rfl⟩
     ·(simp only[zz]at *;omega)
     ·(first
       |(refine zBB (by assumption) (g1.snoc ?_ ?_)<;>first |rfl |exact ze5)
       |exact zA2 (by assumption) g1)
     ·(first
       |exact zBI (by assumption) g2
       |(refine zBm (by assumption) (g2.snoc ?_ ?_)<;>first |rfl |exact ze5))
     ·rfl)
  |(rename_i hz;exact Bool.noConfusion (show true=false from hz))
  | (have hI:i=iQ l:=zAV hi (by(simp only[zz]at *;omega))
     have hJ:j=jQ l:=zA6 (by rw[<- hI];exact z2) hj (by(simp only[zz]at *;omega))
     first
    |exact zww hI hJ z1 (by assumption) g1 g2
    |exact zyF hI hJ h1 (by assumption) he g1 g2
    |exact zx4 hI hJ h1 (by assumption) (by assumption) g1 g2)
  |(simp(disch:=omega) only[Int.tdiv_eq_ediv_of_nonneg,Int.tmod_eq_emod_of_nonneg]at *;omega)
end Go.Proofs.YtogdglnaagkaaaaDoor
