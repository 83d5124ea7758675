import Derived.Test.YteaemnicofpbeaaGreatDoorSx
import Derived.Test.YteaemnicofpbeaaGreatDoorGh
import Derived.Shelf.Strconv.ParseIntPublic10
import Derived.Lib.SmallJoins
set_option linter.unusedSimpArgs false
set_option linter.unusedVariables false
namespace Go.Cx
open Go Go.Shelf Go.RowKit Go.Proofs
theorem zoS{cs:List CV}{off n:Nat}(h:off+n<=cs.length):zcZ cs off n=some (seg cs off n):=by
 cases ht:zcZ cs off n with
 |some l=>rw[(zbl ht).2];rfl
 |none=>
  exfalso;unfold zcZ at ht;split at ht
  ·cases ht
  ·rename_i hb;rw[yb1 (by first |omega |(simp only[List.length_drop];omega))]at hb;cases hb
theorem zvp{cs:List CV}{off i:Nat}{y:CV}(h:seg cs (off+i*1) 1=[y]):cs[off+i]? = some y:=by
 rw[Nat.mul_one]at h;have h2:(cs.drop (off+i)).head? = some y:=by
  have:((cs.drop (off+i)).take 1).head? = some y:=by show(seg cs (off+i) 1).head? = _;rw[h];rfl
  rwa [List.head?_take,if_neg (by decide)]at this
 rwa [List.head?_drop]at h2
theorem zwK{R:RO}{e:DEnv}{s:List Nat}{ys:List CV}(h:RepL R e [.cv (.str s)] ys):ys=[.str s]:=by
 cases h with
 |cons h1 h2=>cases h2;cases h1;rfl
theorem znY{R:RO}{cs:List CV}{off n:Nat}{el:Nat->List SV}{f:Nat->List Nat}(hl:off+n*1<=cs.length)(hf:∀i,i<n->el i=[.cv (.str (f i))])(h:∀i,i<n->RepL R noE (el i) (seg cs (off+i*1) 1)):
  seg cs off (n*1)=(List.range n).map fun i=>.str (f i):=by
 rw[Nat.mul_one]at hl ⊢;apply List.ext_getElem?;intro i;unfold seg;by_cases hi:i<n
 ·have h1:=h i hi;rw[hf i hi]at h1;rw[List.getElem?_take,if_pos hi,List.getElem?_drop,zvp (zwK h1),yb9,List.getElem?_range hi];rfl
 ·rw[List.getElem?_take,if_neg hi,List.getElem?_eq_none (by rw[yb7,List.length_range];omega)]
theorem zqf{R:RO}{m:Mem}{x:CV}{n:Nat}{el:Nat->List SV}{f:Nat->List Nat}(hM:Mk R m)(hx:Rep R noE (.isl 1 n el) x)(hf:∀i,i<n->el i=[.cv (.str (f i))]):
  elems m 1 x=some (n,(List.range n).map fun i=>.str (f i))/\zvg x=true:=by
 cases hx with
 |islN=>exact⟨rfl,rfl⟩
 |islV=>exact⟨rfl,rfl⟩
 |islS h1 h2 h3 h4 h5 h6=>
  rename_i t off c o cs;have hg:=hM.ro _ _ h1;have hs:=znY h3 hf h6;refine⟨?_,yb1 h4⟩;unfold elems;cases o<;>first |(cases h2;done) |(cases h2;simp only[hg,zoS h3,hs])
 |islO h1 h2 h3 h4=>
  rename_i t k ty cs;have hg:=hM.ro _ _ h1;have h2':k*1+n*1<=cs.length:=by rw[<- Nat.add_mul];exact h2
  have hs:=znY (off:=k*1) h2' hf fun i hi=>by have:=h4 i hi;rwa [Nat.add_mul]at this
  refine⟨?_,rfl⟩;unfold elems;simp only[hg];show(match zcZ cs (k*1) (n*1)with |some l=>some (n,l) |none=>none)=_;rw[zoS h2',hs]
theorem zqX(f:Nat->List Nat)(l:List Nat):znu (l.map fun i=>.str (f i))=some (l.map f):=by
 induction l with
 |nil=>rfl
 |cons a r ih=>simp only[List.map_cons,znu,ih]
section
variable{P:Program}{X:Ext}
theorem zwC{gl:List (Nat×List CV)}{fj:FuncId}(hX:X fj=some zlU)(n:Nat)(el:Nat->List SV)(f:Nat->List Nat)(hf:∀i,i<n->el i=[.cv (.str (f i))])(sep:List Nat)(hn:n<=1000000)(hl:(zdF sep ((List.range n).map f)).length<=1000000):
  DSpec P X gl fj [.isl 1 n el,.cv (.str sep)] [] (fun v O=>v=.cv (.str (zdF sep ((List.range n).map f)))/\O=[]):=
 zlO hX (y:=.str (zdF sep ((List.range n).map f))) (fun _ _=>.cv rfl) (fun R m xs hM hxs=>by
  cases hxs with
  |cons h1 h2=>cases h2 with
   |cons h3 h4=>
    cases h4;cases h3;obtain⟨k1,k2⟩:=zqf hM h1 hf;unfold zlU;simp only[k1,zqX,k2,yb1 hn,yb1 hl,Bool.and_true]) rfl
theorem zpl{A:Type}[Inhabited A]{B:Type}(l:List A)(f:A->B):((List.range l.length).map fun i=>f (l.getD i default))=l.map f:=by
 apply List.ext_getElem?;intro i;rw[yb9,yb9];by_cases h:i<l.length
 ·rw[List.getElem?_range h,yb5 h];simp[ya8,yb5 h]
 ·rw[List.getElem?_eq_none (by simpa using h),List.getElem?_eq_none (by simpa using h)];rfl
end
noncomputable def zrs(g T:Nat)(m:Mem):List CV->Option CV
 |[.str s,.int .i64 10,.int .i64 64]=>match Nat.ble s.length 1000000 with
  |true=>match Lib.parseIntB 64 (s.map UInt8.ofNat) with
   |.ok v=>some (.tup [.int .i64 v,.nili])
   |.range=>match(m.get g).bind zjK with
    |some [.ifc _ _]=>some (.tup [.int .i64 (Lib.intSat 64 (s.map UInt8.ofNat)),.ifc T (.ptr m.nxt 0)])
    |_=>none
   |.syntax=>none
  |false=>none
 |_=>none
theorem zpU{e:Env}{x y z:CV}{vs:List Value}(h:denL e [x,y,z]=some vs):∃a b c,den e x=some a/\den e y=some b/\den e z=some c/\vs=[a,b,c]:=by
 simp only[denL,yc9,ya3]at h;obtain⟨a,h1,l,⟨b,h2,l2,⟨c,h4,l3,h5,rfl⟩,rfl⟩,rfl⟩:=h;cases h5;exact⟨a,b,c,h1,h2,h4,rfl⟩
theorem zxe{e:Env}{m:Mem}{w:World}(hm:Mok e m w){g:Nat}{o:CO}{x:CV}(ho:m.get g=some o)(hr:zjK o=some [x])(he:e g=some ⟨g,0,0,0⟩):∃V,den e x=some V/\w.cell? ⟨g,0,none⟩=some V:=by
 have hk:=hm g o ho;have one1:∀{l:List Value},denL e [x]=some l->∃V,den e x=some V/\l=[V]:=fun{l} h=>by
  simp only[denL,yc9,ya3]at h;obtain⟨V,h1,l',h2,rfl⟩:=h;cases h2;exact⟨V,h1,rfl⟩
 cases o with
 |cells ty cs=>
  cases hr;obtain⟨b,l,h1,h2,h3,h4,h5⟩:=hk;rw[he]at h1;cases h1;obtain⟨V,h6,rfl⟩:=one1 h3;exact⟨V,h6,by unfold World.cell?;simp[h5]⟩
 |opn ty sz cs=>
  cases hr;obtain⟨b,l,pre,suf,h1,h2,h3,h4,h5,h6,⟨fr,h7,h8⟩,h9⟩:=hk;rw[he]at h1;cases h1;exact absurd h3 (by rw[<- h2];exact Nat.lt_irrefl 0)
 |ro cs=>
  cases hr;obtain⟨b,l,pre,suf,ty,fr,h1,h2,h3,h4,h5,_⟩:=hk;rw[he]at h1;cases h1;obtain rfl:pre=[]:=List.length_eq_zero_iff.1 h2;obtain⟨V,h6,rfl⟩:=one1 h3;exact⟨V,h6,by unfold World.cell?;simp[h5]⟩
 |_=>cases hr
def zfF(P:Program)(f:FuncId)(g:Mem->List CV->Option CV):Prop:=∀m args v,g m args=some v->(∀vs w,(callFunc f vs).run P w=.ok (.enter f vs) w) /\
 ∀e vs w,denL e args=some vs->Mok e m w->(∀g,g<64->e g=some ⟨g,0,0,0⟩)->Calls P f vs.toArray w fun en w'=>(∃e' V,(∀t,t≠m.nxt->e' t=e t)/\den e' v=some V/\en=.returned V)/\Below w.heap.size w w'
theorem Ext1.to{P:Program}{f:FuncId}{g:Mem->List CV->Option CV}(h:Ext1 P f g):zfF P f g:=fun m args v hg=>by
 obtain⟨h1,h2⟩:=h m args v hg;refine⟨h1,fun e vs w h3 h4 h5=>?_⟩;obtain⟨V,h6,h7⟩:=h2 e vs w h3 h4 h5;exact h7.mono fun en w' ⟨h8,h9⟩=>⟨⟨e,V,fun _ _=>rfl,h6,h8⟩,h9⟩
theorem zsk{P:Program}{ρ : Ren}(L:LaysC.n174 P ρ)(hg : ρ.g 16<64)(he:∀vs w,(callFunc (ρ.f 174) vs).run P w=.ok (.enter (ρ.f 174) vs) w):zfF P (ρ.f 174) (zrs (ρ.g 16) (ρ.t 168)):=by
 intro m args v h;refine⟨he,fun e vs w has hm hgl=>?_⟩;unfold zrs at h;split at h
 ·rename_i s;split at h
  ·rename_i hb;have hb:=ya9 hb;obtain⟨a,b,c,h1,h2,h3,rfl⟩:=zpU has;obtain rfl:=zbP h1;cases h2;cases h3
   let S:ByteArray:=⟨(s.map UInt8.ofNat).toArray⟩
   have hS:S.data.toList=s.map UInt8.ofNat:=rfl;have hz:S.size<=1000000:=by show(s.map UInt8.ofNat).toArray.size<=_;simpa using hb
   split at h
   ·rename_i u hu;cases h;refine(Any.strconv_ParseInt_10_at64_ok L S (by omega) u hu w).mono fun en w' ⟨k1,k2⟩=>⟨⟨e,_,fun _ _=>rfl,rfl,k1⟩,?_⟩
    rcases k2 with rfl |⟨t,rfl⟩
    ·exact .refl _ _
    ·exact Joins.below_bytesWorld _ _ _ _ (Nat.le_refl _)
   ·rename_i hr;split at h
    ·rename_i T x ho;cases h;obtain⟨o,k1,k2⟩:=Option.bind_eq_some_iff.1 ho;obtain⟨V,k3,hv⟩:=zxe hm k1 k2 (hgl _ hg);simp only[den,ya3]at k3;obtain⟨p,k6,rfl⟩:=k3;refine(Any.strconv_ParseInt_10_at64_range L S (by omega) hr _ w hv (.inr ⟨_,_,rfl⟩)).mono fun en w' ⟨N,k8,k9,k10,k11⟩=>⟨⟨fun t=>if t=m.nxt then some ⟨N,0,0,0⟩else e t,_,fun t ht=>if_neg ht,?_,k8⟩,k11⟩
     simp[den,denL];rfl
    ·cases h
   ·cases h
  ·cases h
 ·cases h
end Go.Cx
