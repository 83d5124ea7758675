import Derived.Test.YtmgibblhcoimfaaDoorPl
import Derived.Test.YtmgibblhcoimfaaDoorAb
set_option linter.unusedSimpArgs false
set_option linter.unusedVariables false
set_option maxRecDepth 100000
namespace Go.Proofs.YtmgibblhcoimfaaDoor
open Go Go.Cx
def Nst(p:Nat->Bool)(r:List Nat):Prop:=∀b s,r=b::s->p b=false
def Hd(S:List Nat)(r:List Nat):Prop:=∀b s,r=b::s->b∈S
theorem Hd.nst{S:List Nat}{p:Nat->Bool}{r:List Nat}(h:Hd S r)(hs:∀b∈S,p b=false):Nst p r:=fun b s e=>hs b (h b s e)
theorem Hd.sub{S S':List Nat}{r:List Nat}(h:Hd S r)(hs:∀b∈S,b∈S'):Hd S' r:=fun b s e=>hs b (h b s e)
theorem Hd.cons{S:List Nat}{b:Nat}{s:List Nat}(h:b∈S):Hd S (b::s):=fun c t e=>by cases e;exact h
theorem Hd.nil{S:List Nat}:Hd S []:=fun c t e=>by cases e
theorem zj5{p:Nat->Bool}:∀{a a' r r':List Nat},(∀b∈a,p b=true)->(∀b∈a',p b=true)->Nst p r->Nst p r'->a++r=a'++r'->a=a'/\r=r'
 |[],[],_,_,_,_,_,_,h=>⟨rfl,h⟩
 |[],b::a',r,r',_,h2,h3,_,h=>by
  have:=h3 b (a'++r') h;rw[h2 b ya5]at this;cases this
 |b::a,[],r,r',h1,_,_,h4,h=>by
  have:=h4 b (a++r) h.symm;rw[h1 b ya5]at this;cases this
 |b::a,c::a',r,r',h1,h2,h3,h4,h=>by
  simp only[List.cons_append,List.cons.injEq]at h;obtain⟨rfl,h⟩:=h;obtain⟨rfl,q⟩:=zj5 (fun x hx=>h1 x (ya4 _ hx)) (fun x hx=>h2 x (ya4 _ hx)) h3 h4 h;exact⟨rfl,q⟩
theorem zcY{A:Type}{g:A->List Nat}{sep:List Nat}{E F:List Nat->Prop}{P Q:A->Prop}
  (hg:∀x y r r',P x->Q y->E r->E r'->g x++r=g y++r'->x=y/\r=r') (hE:∀r,F r->E r) (hS:∀r,E (sep++r)) (hF:∀r r',F r->r≠sep++r'):
  ∀(l l':List A) (r r':List Nat),l≠[]->l'≠[]->(∀x∈l,P x)->(∀x∈l',Q x)->F r->F r'->zaO sep (l.map g)++r=zaO sep (l'.map g)++r'->l=l'/\r=r'
 |[],_,_,_,h,_,_,_,_,_,_=>absurd rfl h
 |_::_,[],_,_,_,h,_,_,_,_,_=>absurd rfl h
 |[x],[y],r,r',_,_,hp,hq,h1,h2,h=>by
  obtain⟨rfl,q⟩:=hg x y r r' (hp x ya5) (hq y ya5) (hE r h1) (hE r' h2) h;exact⟨rfl,q⟩
 |[x],y::z::t,r,r',_,_,hp,hq,h1,h2,h=>by
  have h:g x++r=(g y++(sep++zaO sep ((z::t).map g)))++r':=h;rw[yc1,yc1]at h;obtain⟨_,q⟩:=hg x y _ _ (hp x ya5) (hq y ya5) (hE r h1) (hS _) h;exact absurd q (hF _ _ h1)
 |x::w::t,[y],r,r',_,_,hp,hq,h1,h2,h=>by
  have h:(g x++(sep++zaO sep ((w::t).map g)))++r=g y++r':=h;rw[yc1,yc1]at h;obtain⟨_,q⟩:=hg x y _ _ (hp x ya5) (hq y ya5) (hS _) (hE r' h2) h;exact absurd q.symm (hF _ _ h2)
 |x::w::t,y::z::u,r,r',_,_,hp,hq,h1,h2,h=>by
  have h:(g x++(sep++zaO sep ((w::t).map g)))++r=(g y++(sep++zaO sep ((z::u).map g)))++r':=h;simp only[yc1]at h;obtain⟨rfl,q⟩:=hg x y _ _ (hp x ya5) (hq y ya5) (hS _) (hS _) h;have q:=List.append_cancel_left q;obtain⟨q1,q2⟩:=zcY hg hE hS hF (w::t) (z::u) r r' (by simp) (by simp) (fun v hv=>hp v (ya4 _ hv)) (fun v hv=>hq v (ya4 _ hv)) h1 h2 q;exact⟨by rw[q1],q2⟩
def dgB(b:Nat):Bool:=decide (48<=b/\b<=57)
theorem zrH(n:Nat):∀b∈zb2 n,dgB b=true:=fun b hb=>decide_eq_true (zeL n b hb)
def zDl(l:List Nat):Nat:=l.foldl (fun a b=>10*a+(b - 48)) 0
theorem zry(n:Nat):zDl (zb2 n)=n:=by
 induction n using Nat.strongRecOn with
 |_ n ih=>
  by_cases h:n<10
  ·rw[zgn h];simp[zDl]
  ·rw[zgd h];unfold zDl at ih ⊢;rw[List.foldl_append,ih (n / 10) (by omega)];simp;omega
theorem zeM{n m:Nat}{r r':List Nat}(hr:Nst dgB r)(hr':Nst dgB r')(h:zb2 n++r=zb2 m++r'):n=m/\r=r':=by
 obtain⟨h1,h2⟩:=zj5 (zrH n) (zrH m) hr hr' h;exact⟨by rw[<- zry n,h1,zry],h2⟩
theorem zlx(n:Nat):∃b s,zb2 n=b::s/\48<=b/\b<=57:=by
 cases h:zb2 n with
 |nil=>have:=zlP n;rw[h]at this;simp at this
 |cons b s=>exact⟨b,s,rfl,zeL n b (by rw[h];exact ya5)⟩
theorem zrT(x:Int):∃b s,zhZ x=b::s/\(b=45\/(48<=b/\b<=57)):=by
 by_cases h:x<0
 ·rw[zdV h];exact⟨45,_,rfl,.inl rfl⟩
 ·rw[zc8 h];obtain⟨b,s,h1,h2⟩:=zlx x.toNat;exact⟨b,s,h1,.inr h2⟩
theorem zx0{x y:Int}{r r':List Nat}(hr:Nst dgB r)(hr':Nst dgB r')(h:zhZ x++r=zhZ y++r'):x=y/\r=r':=by
 by_cases hx:x<0<;>by_cases hy:y<0
 ·rw[zdV hx,zdV hy]at h;simp only[List.cons_append,List.cons.injEq,true_and]at h;obtain⟨h1,h2⟩:=zeM hr hr' h;exact⟨by omega,h2⟩
 ·rw[zdV hx,zc8 hy]at h;obtain⟨b,s,h1,h2⟩:=zlx y.toNat;rw[h1]at h;simp only[List.cons_append,List.cons.injEq]at h;omega
 ·rw[zc8 hx,zdV hy]at h;obtain⟨b,s,h1,h2⟩:=zlx x.toNat;rw[h1]at h;simp only[List.cons_append,List.cons.injEq]at h;omega
 ·rw[zc8 hx,zc8 hy]at h;obtain⟨h1,h2⟩:=zeM hr hr' h;exact⟨by omega,h2⟩
theorem zi9:∀(l:List Nat),∀b∈zaO [44] (l.map zb2),(b != 125)=true
 |[],b,h=>by cases h
 |[a],b,h=>by
  have:=zeL a b h;simp;omega
 |a::c::t,b,h=>by
  have h:b∈zb2 a++([44]++zaO [44] ((c::t).map zb2)):=h;rw[yc0,yc0]at h;rcases h with h |h |h
  ·have:=zeL a b h;simp;omega
  ·simp at h;subst h;decide
  ·exact zi9 (c::t) b h
theorem zw8{x y:Nat}{r r':List Nat}(hx:x<2 ^ 64)(hy:y<2 ^ 64)(h:zmR x++r=zmR y++r'):x=y/\r=r':=by
 unfold zmR at h;simp only[List.cons_append,List.nil_append,yc1,List.cons.injEq,true_and]at h;rw[zc1,zc1]at h;have n125:∀s,Nst (fun b=>b != 125) (125::s):=fun s b t e=>by cases e;rfl
 obtain⟨h1,h2⟩:=zj5 (zi9 _) (zi9 _) (n125 _) (n125 _) h;simp only[List.cons.injEq,true_and]at h2;refine⟨?_,h2⟩;have hb:zaL x 64=zaL y 64:=by
  have hz:∀l:List Nat,l≠[]->zaO [44] (l.map zb2)≠[]:=fun l hl=>by
   cases l with
   |nil=>exact absurd rfl hl
   |cons a t=>exact zqo (by have:=zlP a;intro hh;rw[hh]at this;simp at this)
  by_cases e1:zaL x 64=[]
  ·by_cases e2:zaL y 64=[]
   ·rw[e1,e2]
   ·rw[e1]at h1;exact absurd h1.symm (hz _ e2)
  ·by_cases e2:zaL y 64=[]
   ·rw[e2]at h1;exact absurd h1 (hz _ e1)
   ·have hd:∀r:List Nat,r=[]->Nst dgB r:=fun r hr b s e=>by rw[hr]at e;cases e
    have:=zcY (g:=zb2) (sep:=[44]) (E:=Nst dgB) (F:=fun r=>r=[]) (P:=fun _=>True) (Q:=fun _=>True) (fun a b s s' _ _ h3 h4 h5=>zeM h3 h4 h5) hd (fun r b s e=>by cases e;decide) (fun r r' h3 h4=>by rw[h3]at h4;cases h4) _ _ [] [] e1 e2 (fun _ _=>trivial) (fun _ _=>trivial) rfl rfl (by rw[yc2,yc2];exact h1);exact this.1
 apply Nat.eq_of_testBit_eq;intro i;by_cases hi:i<64
 ·have m:∀z:Nat,(i∈zaL z 64)↔z.testBit i=true:=fun z=>by
   unfold zaL;rw[List.mem_filter,List.mem_range];exact⟨fun h=>h.2,fun h=>⟨hi,h⟩⟩
  have:=m x;rw[hb,m y]at this;cases hxx:x.testBit i<;>cases hyy:y.testBit i<;>simp_all
 ·rw[Nat.testBit_lt_two_pow (Nat.lt_of_lt_of_le hx (Nat.pow_le_pow_right (by decide) (by omega))),Nat.testBit_lt_two_pow (Nat.lt_of_lt_of_le hy (Nat.pow_le_pow_right (by decide) (by omega)))]
theorem zoj{n:Int}(h:1<=n/\n<=6):(n=1/\opT n=[61])\/(n=2/\opT n=[33,61])\/(n=3/\opT n=[60])\/(n=4/\opT n=[60,61])\/(n=5/\opT n=[62])\/(n=6/\opT n=[62,61]):=by
 have:n=1\/n=2\/n=3\/n=4\/n=5\/n=6:=by omega
 rcases this with rfl |rfl |rfl |rfl |rfl |rfl
 ·exact .inl ⟨rfl,rfl⟩
 ·exact .inr (.inl ⟨rfl,rfl⟩)
 ·exact .inr (.inr (.inl ⟨rfl,rfl⟩))
 ·exact .inr (.inr (.inr (.inl ⟨rfl,rfl⟩)))
 ·exact .inr (.inr (.inr (.inr (.inl ⟨rfl,rfl⟩))))
 ·exact .inr (.inr (.inr (.inr (.inr ⟨rfl,rfl⟩))))
theorem znc{c c':CondM}{r r':List Nat}(h0:1<=c.op/\c.op<=6)(h1:1<=c'.op/\c'.op<=6)(hr:Nst dgB r)(hr':Nst dgB r')(h:zcf c++r=zcf c'++r'):c=c'/\r=r':=by
 obtain⟨op,val⟩:=c;obtain⟨op',val'⟩:=c';simp only at h0 h1;unfold zcf at h;simp only[yc1]at h;obtain⟨b,s,hb,hb2⟩:=zrT val;obtain⟨b',s',hb',hb2'⟩:=zrT val';have key:op=op'/\zhZ val++r=zhZ val'++r':=by
  rcases zoj h0 with⟨e,f⟩ |⟨e,f⟩ |⟨e,f⟩ |⟨e,f⟩ |⟨e,f⟩ |⟨e,f⟩<;>rcases zoj h1 with⟨e',f'⟩ |⟨e',f'⟩ |⟨e',f'⟩ |⟨e',f'⟩ |⟨e',f'⟩ |⟨e',f'⟩<;>rw[f,f']at h<;>first
   |(simp only[List.cons_append,List.nil_append,List.cons.injEq,true_and]at h;exact⟨by omega,h⟩)
   |(rw[hb,hb']at h;simp at h;omega)
   |(rw[hb,hb']at h;simp only[List.cons_append,List.nil_append,List.cons.injEq]at h;omega)
 obtain⟨e,h2⟩:=key;obtain⟨e2,h3⟩:=zx0 hr hr' h2;exact⟨by rw[e,e2],h3⟩
theorem ziA(l:List CondM):∀k,k<=l.length->zcw l k=(if k=0 then[]else 91::zaO [44] ((l.take k).map zcf))
 |0,_=>rfl
 |k+1,hk=>by
  rw[zcw,ziA l k (by omega),if_neg (Nat.succ_ne_zero k)];have ht:(l.take (k+1)).map zcf=(l.take k).map zcf++[zcf (l.getD k default)]:=by
   rw[List.take_add_one,ya8,yb5 (by omega),List.map_append];rfl
  cases k with
  |zero=>rw[ht];simp[zaO]
  |succ k=>
   rw[ht,if_neg (Nat.succ_ne_zero k),zdv _ _ _ (by
    intro hh;have:((l.take (k+1)).map zcf).length=0:=by rw[hh];rfl
    rw[yb7,List.length_take]at this;omega)]
   simp
theorem zbV{l:List CondM}(h:l≠[]):zcC l=91::(zaO [44] (l.map zcf)++[93]):=by
 have hl:l.length > 0:=List.length_pos_iff.2 h;unfold zcC;rw[decide_eq_true hl,cond_true,ziA l l.length (Nat.le_refl _),if_neg (by omega),List.take_length];rfl
theorem zsv{l l':List CondM}{r r':List Nat}(h0:∀c∈l,1<=c.op/\c.op<=6)(h1:∀c∈l',1<=c.op/\c.op<=6)(hr:Hd [32,41,58,123] r)(hr':Hd [32,41,58,123] r')(h:zcC l++r=zcC l'++r'):l=l'/\r=r':=by
 have no:∀{s s':List Nat},Hd [32,41,58,123] s->s≠91::s':=fun hs e=>by
  have:=hs _ _ e;simp at this
 by_cases e:l=[]<;>by_cases e':l'=[]
 ·subst e;subst e';exact⟨rfl,h⟩
 ·subst e;rw[zbV e']at h;exact absurd h (no hr)
 ·subst e';rw[zbV e]at h;exact absurd h.symm (no hr')
 ·rw[zbV e,zbV e']at h;simp only[List.cons_append,yc1,List.cons.injEq,true_and]at h;have n93:∀s,∃t,(93::s:List Nat)=93::t:=fun s=>⟨s,rfl⟩
  obtain⟨q1,q2⟩:=zcY (g:=zcf) (sep:=[44]) (E:=Nst dgB) (F:=fun r=>∃t,r=93::t) (P:=fun c=>1<=c.op/\c.op<=6) (Q:=fun c=>1<=c.op/\c.op<=6) (fun a b s s' p q h3 h4 h5=>znc p q h3 h4 h5) (fun r ⟨t,e⟩ b s e2=>by rw[e]at e2;cases e2;decide) (fun r b s e=>by cases e;decide) (fun r r' ⟨t,e⟩ e2=>by rw[e]at e2;cases e2) l l' (93::r) (93::r') e e' h0 h1 (n93 _) (n93 _) h;exact⟨q1,by simpa using q2⟩
theorem zvR{s:List Nat}(h:zdu s=true):∀b∈s,zmO (b%256)=true:=by
 unfold zdu at h;simp only[ya2]at h;exact fun b hb=>List.all_eq_true.1 h.2.1 b hb
def lwB(b:Nat):Bool:=zmO (b%256)
theorem ztP{s s':List UInt8}{r r':List Nat}(h0:isE (nm s)=true\/zdu (nm s)=true)(h1:isE (nm s')=true\/zdu (nm s')=true)(hr:Hd [32,41,123] r)(hr':Hd [32,41,123] r')(h:zhA s++r=zhA s'++r'):s=s'/\r=r':=by
 have no:∀{s s':List Nat},Hd [32,41,123] s->s≠58::s':=fun hs e=>by
  have:=hs _ _ e;simp at this
 have nl:∀{r:List Nat},Hd [32,41,123] r->Nst lwB r:=fun hr=>hr.nst (by decide)
 have lw:∀{b:UInt8} {t:List UInt8},isE (nm (b::t))=true\/zdu (nm (b::t))=true->∀x∈nm (b::t),lwB x=true:=fun h=>by
  rcases h with h |h
  ·cases h
  ·exact zvR h
 cases s with
 |nil=>cases s' with
  |nil=>exact⟨rfl,h⟩
  |cons b t=>exact absurd h (no hr)
 |cons a u=>cases s' with
  |nil=>exact absurd h.symm (no hr')
  |cons b t=>
   have h:58::(nm (a::u)++r)=58::(nm (b::t)++r'):=h;simp only[List.cons.injEq,true_and]at h;obtain⟨q1,q2⟩:=zj5 (p:=lwB) (lw h0) (lw h1) (nl hr) (nl hr') h;exact⟨zyJ q1,q2⟩
structure AtomRd(a:AtomM):Prop where
 kind:0<=a.kind/\a.kind<=25
 bound:0<=a.bound/\a.bound<=18446744073709551615
 zero:a.bnd=false->a.bound=0
 cs:∀c∈a.cs,1<=c.op/\c.op<=6
 name:isE (nm a.name)=true\/zdu (nm a.name)=true
theorem zmg(s:List UInt8){r:List Nat}(h:Hd [32,41,123] r):Hd [32,41,58,123] (zhA s++r):=by
 cases s with
 |nil=>exact h.sub (by decide)
 |cons b t=>exact .cons (by decide)
theorem zrw(l:List CondM){r:List Nat}(h:Hd [32,41,58,123] r):Hd [32,41,58,91,123] (zcC l++r):=by
 by_cases e:l=[]
 ·subst e;exact h.sub (by decide)
 ·rw[zbV e];exact .cons (by decide)
theorem zm2{a a':AtomM}{r r':List Nat}(h0:AtomRd a)(h1:AtomRd a')(hr:Hd [32,41,123] r)(hr':Hd [32,41,123] r')(h:za4 a++r=za4 a'++r'):a=a'/\r=r':=by
 obtain⟨kind,bnd,bound,cs,name⟩:=a;obtain⟨kind',bnd',bound',cs',name'⟩:=a';have c0:=zrw cs (zmg name hr);have c1:=zrw cs' (zmg name' hr');have k0:=h0.kind;have k1:=h1.kind;have b0:=h0.bound;have b1:=h1.bound;simp only at k0 k1 b0 b1;unfold za4 zsZ at h;simp only[List.cons_append,List.nil_append,yc1,List.cons.injEq]at h;obtain⟨hk,h⟩:=h;have hk:kind=kind':=by omega
 have no:∀{s s':List Nat},Hd [32,41,58,91,123] s->s≠64::s':=fun hs e=>by
  have:=hs _ _ e;simp at this
 have key:(bnd=bnd'/\bound=bound')/\zcC cs++(zhA name++r)=zcC cs'++(zhA name'++r'):=by
  cases bnd<;>cases bnd'
  ·have z0:=h0.zero rfl;have z1:=h1.zero rfl;simp only at z0 z1;exact⟨⟨rfl,by omega⟩,h⟩
  ·exact absurd h (no c0)
  ·exact absurd h.symm (no c1)
  ·simp only[cond_true,List.cons_append,List.cons.injEq,true_and]at h;obtain⟨q1,q2⟩:=zw8 (by omega) (by omega) h;exact⟨⟨rfl,by omega⟩,q2⟩
 obtain⟨⟨e1,e2⟩,h2⟩:=key;obtain⟨e3,h3⟩:=zsv h0.cs h1.cs (zmg name hr) (zmg name' hr') h2;obtain⟨e4,h4⟩:=ztP h0.name h1.name hr hr' h3;simp only at e3 e4;exact⟨by rw[hk,e1,e2,e3,e4],h4⟩
end Go.Proofs.YtmgibblhcoimfaaDoor
