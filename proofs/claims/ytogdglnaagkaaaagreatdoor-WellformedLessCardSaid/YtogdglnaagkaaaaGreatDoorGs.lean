import Derived.Test.YtogdglnaagkaaaaGreatDoorGi
import Derived.Shelf.Strings.OnBuilder
import Derived.Shelf.Strings.Count
import Derived.Shelf.Strings.Search3
import Derived.Test.YtogdglnaagkaaaaGreatDoorGh
import Derived.Shelf.Strconv.ParseIntPublic10
import Derived.Lib.SmallJoins
import Derived.Shelf.Strconv.Itoa4
import Derived.Shelf.Spec.TrailingZeros
set_option linter.unusedSimpArgs false
set_option linter.unusedVariables false
namespace Go.Cx
open Go Go.Shelf Go.RowKit Go.Proofs
noncomputable def zpM:List CV->Option (List (List Nat))
 |[]=>some []
 |.str s::r=>match zpM r with
  |some l=>some (s::l)
  |none=>none
 |_::_=>none
noncomputable def zdr(sep:List Nat):List (List Nat)->List Nat
 |[]=>[]
 |s::r=>match r with
  |[]=>s
  |_::_=>s++(sep++zdr sep r)
noncomputable def zAU:CV->Bool
 |.slc _ _ n c=>Nat.ble n c
 |_=>true
noncomputable def zoH(m:Mem):List CV->Option CV
 |[x,.str sep]=>match elems m 1 x with
  |some (n,l)=>match zpM l with
   |some ss=>match zAU x&&(Nat.ble n 1000000&&Nat.ble (zdr sep ss).length 1000000) with
    |true=>some (.str (zdr sep ss))
    |false=>none
   |none=>none
  |none=>none
 |_=>none
def Ext1(P:Program)(f:FuncId)(g:Mem->List CV->Option CV):Prop:=∀m args v,g m args=some v->(∀vs w,(callFunc f vs).run P w=.ok (.enter f vs) w) /\
 ∀e vs w,denL e args=some vs->Mok e m w->(∀g,g<64->e g=some ⟨g,0,0,0⟩)->∃V,den e v=some V/\Calls P f vs.toArray w fun en w'=>en=.returned V/\Below w.heap.size w w'
theorem zmu{e:Env}{x y:CV}{vs:List Value}(h:denL e [x,y]=some vs):∃a b,den e x=some a/\den e y=some b/\vs=[a,b]:=by
 simp only[denL,yc9,ya3]at h;obtain⟨a,h1,l,⟨b,h2,l2,h3,rfl⟩,rfl⟩:=h;cases h3;exact⟨a,b,h1,h2,rfl⟩
variable{P:Program}{ρ : Ren}
theorem znA{e:Env}:∀{l:List CV} {ss:List (List Nat)} {us:List Value},zpM l=some ss->denL e l=some us->us=ss.map fun s=>Value.string ⟨(s.map UInt8.ofNat).toArray⟩
 |[],ss,us,h,hu=>by
  cases h;cases hu;rfl
 |x::r,ss,us,h,hu=>by
  simp only[denL,yc9,ya3]at hu;obtain⟨a,h1,l,h2,rfl⟩:=hu;cases x<;>first |(unfold zpM at h;cases h;done) |skip
  unfold zpM at h;split at h
  ·rename_i s2 hs;cases h;obtain rfl:=zcg h1;rw[znA hs h2];rfl
  ·cases h
theorem zl0(sep:List Nat):∀ss:List (List Nat),(zdr sep ss).map UInt8.ofNat=Lib.join (ss.map fun s=>s.map UInt8.ofNat) (sep.map UInt8.ofNat)
 |[]=>rfl
 |[s]=>by rw[zdr];simp[Lib.join_one]
 |s::t::r=>by
  have ih:=zl0 sep (t::r);rw[zdr];simp only[List.map_append,ih];rw[List.map_cons,List.map_cons,Lib.join_cons,Lib.join_cons];simp[Lib.joinTail]
theorem zpE{e:Env}{m:Mem}{w:World}(hm:Mok e m w){n:Nat}{x:CV}{l:List CV}{V:Value}(h:elems m 1 x=some (n,l))(hx:den e x=some V)(hc:zAU x=true):(n=0/\∃a c,V=.slice a 0 c)\/∃bk o c,V=.slice (some ⟨bk,o,none⟩) n c/\n<=c:=by
 unfold elems at h;split at h
 ·cases h;cases hx;exact .inl ⟨rfl,_,_,rfl⟩
 ·rename_i t off k c;have hn:k=n:=by
   have h':=h;split at h'<;>first |cases h' |(split at h'<;>first |cases h' |skip)<;>first |rfl |skip
  subst hn;simp only[den,ya3]at hx;obtain⟨b,_,rfl⟩:=hx;exact .inr ⟨_,_,_,rfl,ya9 hc⟩
 ·rename_i t k k2;split at h
  ·rename_i ty sz' cs ho;split at h
   ·rename_i hsz;have hsz:=yb0 hsz;split at h
    ·rename_i l' ht;simp only[ya0,yc4]at h;obtain⟨rfl,rfl⟩:=h;obtain⟨b,lv,pre,suf,h1,h2,h3,h4,h5,h6,⟨fr,h7,h7'⟩,h8,h9⟩:=hm _ _ ho;simp only[den,ya3]at hx;obtain⟨b',hb',rfl⟩:=hx;obtain rfl:b=b':=by rw[h1]at hb';cases hb';rfl
     obtain⟨k1,k2'⟩:=zbO h5 ht;refine .inr ⟨_,_,_,rfl,?_⟩;rw[ya1]at h8;rw[hsz]at h8;omega
    ·cases h
   ·cases h
  ·cases h
 ·simp only[ya0,yc4]at h;obtain⟨rfl,rfl⟩:=h;simp only[den,ya3]at hx;obtain⟨b,_,rfl⟩:=hx;refine .inl ⟨rfl,?_⟩;split<;>exact⟨_,_,rfl⟩
 ·cases h;cases hx;exact .inl ⟨rfl,_,_,rfl⟩
 ·cases h
theorem zyN(L:Lays.n156 P ρ)(X:Builder.Extra P ρ)(he:∀vs w,(callFunc (ρ.f 156) vs).run P w=.ok (.enter (ρ.f 156) vs) w):Ext1 P (ρ.f 156) zoH:=by
 intro m args v hg;refine⟨he,fun e vs w has hm hgl=>?_⟩;unfold zoH at hg;split at hg
 ·rename_i x sep;split at hg
  ·rename_i n l hl;split at hg
   ·rename_i ss hss;split at hg
    ·rename_i hb;simp only[ya2]at hb;have b2:=ya9 hb.2.1;have b3:=ya9 hb.2.2;cases hg;obtain⟨a,b,h1,h2,rfl⟩:=zmu has;obtain rfl:=zcg h2;refine⟨_,rfl,?_⟩;obtain⟨us,k1,k2,k3,k4⟩:=zef hm hl h1;have hus:=znA hss k1;have hlen:ss.length=n:=by rw[hus]at k2;simpa using k2
     rcases zpE hm hl h1 hb.1 with⟨rfl,a',c,rfl⟩ |⟨bk,o,c,rfl,hc⟩
     ·obtain rfl:ss=[]:=List.length_eq_zero_iff.1 hlen;refine(Any.strings_Join_none L X a' c _ w).mono fun en w' hw=>?_
      obtain⟨h1,rfl⟩:=hw;exact⟨h1,.refl _ _⟩
     ·rcases k4 with⟨rfl,h0,rfl⟩ |⟨ad,c',h0,hcell⟩
      ·cases h0
      ·cases h0;by_cases hn:n=0
       ·subst hn;obtain rfl:ss=[]:=List.length_eq_zero_iff.1 hlen;refine(Any.strings_Join_none L X _ c _ w).mono fun en w' hw=>?_
        obtain⟨h1,rfl⟩:=hw;exact⟨h1,.refl _ _⟩
       ·let xs:List ByteArray:=ss.map fun s=>⟨(s.map UInt8.ofNat).toArray⟩
        have hxl:xs.length=n:=by simp[xs,hlen]
        have hxm:xs.map (·.data.toList)=ss.map fun s=>s.map UInt8.ofNat:=by simp[xs]
        have hu2:us=xs.map Value.string:=by rw[hus];simp[xs]
        have hcells:∀(j:Nat) x,xs[j]? = some x->w.cell? ⟨bk,o+j,none⟩=some (.string x):=fun j x hj=>by
         have:=hcell j (.string x) (by rw[hu2,yb9,hj];rfl)
         rwa [Addr.add_lit]at this
        have hbk:bk<w.heap.size:=by
         have hx0:∃x,xs[0]? = some x:=by
          cases hxs:xs with
          |nil=>rw[hxs]at hxl;simp at hxl;omega
          |cons y ys=>exact⟨y,rfl⟩
         obtain⟨x0,hx0⟩:=hx0;have:=hcells 0 x0 hx0;by_cases hlt:bk<w.heap.size
         ·exact hlt
         ·have hnone:w.heap[bk]? = none:=Array.getElem?_eq_none (by omega);simp[World.cell?,hnone]at this
        have hj:=Any.strings_Join L X bk o c xs ⟨(sep.map UInt8.ofNat).toArray⟩ w hcells hbk (by omega) (by omega) (by
         rw[hxm];show(Lib.join _ (sep.map UInt8.ofNat)).length<=_;rw[<- zl0,yb7];omega)
        rw[hxl]at hj;refine hj.mono fun en w' hw=>⟨?_,hw.2⟩
        rw[hw.1,hxm,zl0]
    ·cases hg
   ·cases hg
  ·cases hg
 ·cases hg
end Go.Cx
namespace Go.Cx
open Go Go.Shelf Go.RowKit Go.Proofs
theorem zsa{cs:List CV}{off n:Nat}(h:off+n<=cs.length):zdO cs off n=some (seg cs off n):=by
 cases ht:zdO cs off n with
 |some l=>rw[(zbG ht).2];rfl
 |none=>
  exfalso;unfold zdO at ht;split at ht
  ·cases ht
  ·rename_i hb;rw[yb1 (by first |omega |(simp only[List.length_drop];omega))]at hb;cases hb
theorem zBD{cs:List CV}{off i:Nat}{y:CV}(h:seg cs (off+i*1) 1=[y]):cs[off+i]? = some y:=by
 rw[Nat.mul_one]at h;have h2:(cs.drop (off+i)).head? = some y:=by
  have:((cs.drop (off+i)).take 1).head? = some y:=by show(seg cs (off+i) 1).head? = _;rw[h];rfl
  rwa [List.head?_take,if_neg (by decide)]at this
 rwa [List.head?_drop]at h2
theorem zCW{R:RO}{e:DEnv}{s:List Nat}{ys:List CV}(h:RepL R e [.cv (.str s)] ys):ys=[.str s]:=by
 cases h with
 |cons h1 h2=>cases h2;cases h1;rfl
theorem zrA{R:RO}{cs:List CV}{off n:Nat}{el:Nat->List SV}{f:Nat->List Nat}(hl:off+n*1<=cs.length)(hf:∀i,i<n->el i=[.cv (.str (f i))])(h:∀i,i<n->RepL R noE (el i) (seg cs (off+i*1) 1)):
  seg cs off (n*1)=(List.range n).map fun i=>.str (f i):=by
 rw[Nat.mul_one]at hl ⊢;apply List.ext_getElem?;intro i;unfold seg;by_cases hi:i<n
 ·have h1:=h i hi;rw[hf i hi]at h1;rw[List.getElem?_take,if_pos hi,List.getElem?_drop,zBD (zCW h1),yb9,List.getElem?_range hi];rfl
 ·rw[List.getElem?_take,if_neg hi,List.getElem?_eq_none (by rw[yb7,List.length_range];omega)]
theorem ztP{R:RO}{m:Mem}{x:CV}{n:Nat}{el:Nat->List SV}{f:Nat->List Nat}(hM:Mk R m)(hx:Rep R noE (.isl 1 n el) x)(hf:∀i,i<n->el i=[.cv (.str (f i))]):
  elems m 1 x=some (n,(List.range n).map fun i=>.str (f i))/\zAU x=true:=by
 cases hx with
 |islN=>exact⟨rfl,rfl⟩
 |islV=>exact⟨rfl,rfl⟩
 |islS h1 h2 h3 h4 h5 h6=>
  rename_i t off c o cs;have hg:=hM.ro _ _ h1;have hs:=zrA h3 hf h6;refine⟨?_,yb1 h4⟩;unfold elems;cases o<;>first |(cases h2;done) |(cases h2;simp only[hg,zsa h3,hs])
 |islO h1 h2 h3 h4=>
  rename_i t k ty cs;have hg:=hM.ro _ _ h1;have h2':k*1+n*1<=cs.length:=by rw[<- Nat.add_mul];exact h2
  have hs:=zrA (off:=k*1) h2' hf fun i hi=>by have:=h4 i hi;rwa [Nat.add_mul]at this
  refine⟨?_,rfl⟩;unfold elems;simp only[hg];show(match zdO cs (k*1) (n*1)with |some l=>some (n,l) |none=>none)=_;rw[zsa h2',hs]
theorem zt9(f:Nat->List Nat)(l:List Nat):zpM (l.map fun i=>.str (f i))=some (l.map f):=by
 induction l with
 |nil=>rfl
 |cons a r ih=>simp only[List.map_cons,zpM,ih]
section
variable{P:Program}{X:Ext}
theorem zDf{gl:List (Nat×List CV)}{fj:FuncId}(hX:X fj=some zoH)(n:Nat)(el:Nat->List SV)(f:Nat->List Nat)(hf:∀i,i<n->el i=[.cv (.str (f i))])(sep:List Nat)(hn:n<=1000000)(hl:(zdr sep ((List.range n).map f)).length<=1000000):
  DSpec P X gl fj [.isl 1 n el,.cv (.str sep)] [] (fun v O=>v=.cv (.str (zdr sep ((List.range n).map f)))/\O=[]):=
 zj6 hX (y:=.str (zdr sep ((List.range n).map f))) (fun _ _=>.cv rfl) (fun R m xs hM hxs=>by
  cases hxs with
  |cons h1 h2=>cases h2 with
   |cons h3 h4=>
    cases h4;cases h3;obtain⟨k1,k2⟩:=ztP hM h1 hf;unfold zoH;simp only[k1,zt9,k2,yb1 hn,yb1 hl,Bool.and_true]) rfl
theorem zAz{gl:List (Nat×List CV)}{fj:FuncId}(hX:X fj=some zoH)(sep:List Nat):
  DSpec P X gl fj [.cv .nils,.cv (.str sep)] [] (fun v O=>v=.cv (.str [])/\O=[]):=
 zj6 hX (y:=.str []) (fun _ _=>.cv rfl) (fun R m xs hM hxs=>by
  cases hxs with
  |cons h1 h2=>cases h2 with
   |cons h3 h4=>cases h4;cases h3;cases h1;rfl) rfl
theorem zsJ{A:Type}[Inhabited A]{B:Type}(l:List A)(f:A->B):((List.range l.length).map fun i=>f (l.getD i default))=l.map f:=by
 apply List.ext_getElem?;intro i;rw[yb9,yb9];by_cases h:i<l.length
 ·rw[List.getElem?_range h,yb5 h];simp[ya8,yb5 h]
 ·rw[List.getElem?_eq_none (by simpa using h),List.getElem?_eq_none (by simpa using h)];rfl
end
noncomputable def zvu(g T:Nat)(m:Mem):List CV->Option CV
 |[.str s,.int .i64 10,.int .i64 64]=>match Nat.ble s.length 1000000 with
  |true=>match Lib.parseIntB 64 (s.map UInt8.ofNat) with
   |.ok v=>some (.tup [.int .i64 v,.nili])
   |.range=>match(m.get g).bind zmT with
    |some [.ifc _ _]=>some (.tup [.int .i64 (Lib.intSat 64 (s.map UInt8.ofNat)),.ifc T (.ptr m.nxt 0)])
    |_=>none
   |.syntax=>none
  |false=>none
 |_=>none
theorem ztm{e:Env}{x y z:CV}{vs:List Value}(h:denL e [x,y,z]=some vs):∃a b c,den e x=some a/\den e y=some b/\den e z=some c/\vs=[a,b,c]:=by
 simp only[denL,yc9,ya3]at h;obtain⟨a,h1,l,⟨b,h2,l2,⟨c,h4,l3,h5,rfl⟩,rfl⟩,rfl⟩:=h;cases h5;exact⟨a,b,c,h1,h2,h4,rfl⟩
theorem zFg{e:Env}{m:Mem}{w:World}(hm:Mok e m w){g:Nat}{o:CO}{x:CV}(ho:m.get g=some o)(hr:zmT o=some [x])(he:e g=some ⟨g,0,0,0⟩):∃V,den e x=some V/\w.cell? ⟨g,0,none⟩=some V:=by
 have hk:=hm g o ho;have one1:∀{l:List Value},denL e [x]=some l->∃V,den e x=some V/\l=[V]:=fun{l} h=>by
  simp only[denL,yc9,ya3]at h;obtain⟨V,h1,l',h2,rfl⟩:=h;cases h2;exact⟨V,h1,rfl⟩
 cases o with
 |cells ty cs=>
  cases hr;obtain⟨b,l,h1,h2,h3,h4,h5⟩:=hk;rw[he]at h1;cases h1;obtain⟨V,h6,rfl⟩:=one1 h3;exact⟨V,h6,by unfold World.cell?;simp[h5]⟩
 |opn ty sz cs=>
  cases hr;obtain⟨b,l,pre,suf,h1,h2,h3,h4,h5,h6,⟨fr,h7,h8⟩,h9⟩:=hk;rw[he]at h1;cases h1;exact absurd h3 (by rw[<- h2];exact Nat.lt_irrefl 0)
 |ro cs=>
  cases hr;obtain⟨b,l,pre,suf,ty,fr,h1,h2,h3,h4,h5,_⟩:=hk;rw[he]at h1;cases h1;obtain rfl:pre=[]:=List.length_eq_zero_iff.1 h2;obtain⟨V,h6,rfl⟩:=one1 h3;exact⟨V,h6,by unfold World.cell?;simp[h5]⟩
 |_=>cases hr
def zgD(P:Program)(f:FuncId)(g:Mem->List CV->Option CV):Prop:=∀m args v,g m args=some v->(∀vs w,(callFunc f vs).run P w=.ok (.enter f vs) w) /\
 ∀e vs w,denL e args=some vs->Mok e m w->(∀g,g<64->e g=some ⟨g,0,0,0⟩)->Calls P f vs.toArray w fun en w'=>(∃e' V,(∀t,t≠m.nxt->e' t=e t)/\den e' v=some V/\en=.returned V)/\Below w.heap.size w w'
theorem Ext1.to{P:Program}{f:FuncId}{g:Mem->List CV->Option CV}(h:Ext1 P f g):zgD P f g:=fun m args v hg=>by
 obtain⟨h1,h2⟩:=h m args v hg;refine⟨h1,fun e vs w h3 h4 h5=>?_⟩;obtain⟨V,h6,h7⟩:=h2 e vs w h3 h4 h5;exact h7.mono fun en w' ⟨h8,h9⟩=>⟨⟨e,V,fun _ _=>rfl,h6,h8⟩,h9⟩
theorem zxf{P:Program}{ρ : Ren}(L:LaysC.n174 P ρ)(hg : ρ.g 16<64)(he:∀vs w,(callFunc (ρ.f 174) vs).run P w=.ok (.enter (ρ.f 174) vs) w):zgD P (ρ.f 174) (zvu (ρ.g 16) (ρ.t 168)):=by
 intro m args v h;refine⟨he,fun e vs w has hm hgl=>?_⟩;unfold zvu at h;split at h
 ·rename_i s;split at h
  ·rename_i hb;have hb:=ya9 hb;obtain⟨a,b,c,h1,h2,h3,rfl⟩:=ztm has;obtain rfl:=zcg h1;cases h2;cases h3
   let S:ByteArray:=⟨(s.map UInt8.ofNat).toArray⟩
   have hS:S.data.toList=s.map UInt8.ofNat:=rfl;have hz:S.size<=1000000:=by show(s.map UInt8.ofNat).toArray.size<=_;simpa using hb
   split at h
   ·rename_i u hu;cases h;refine(Any.strconv_ParseInt_10_at64_ok L S (by omega) u hu w).mono fun en w' ⟨k1,k2⟩=>⟨⟨e,_,fun _ _=>rfl,rfl,k1⟩,?_⟩
    rcases k2 with rfl |⟨t,rfl⟩
    ·exact .refl _ _
    ·exact Joins.below_bytesWorld _ _ _ _ (Nat.le_refl _)
   ·rename_i hr;split at h
    ·rename_i T x ho;cases h;obtain⟨o,k1,k2⟩:=Option.bind_eq_some_iff.1 ho;obtain⟨V,k3,hv⟩:=zFg hm k1 k2 (hgl _ hg);simp only[den,ya3]at k3;obtain⟨p,k6,rfl⟩:=k3;refine(Any.strconv_ParseInt_10_at64_range L S (by omega) hr _ w hv (.inr ⟨_,_,rfl⟩)).mono fun en w' ⟨N,k8,k9,k10,k11⟩=>⟨⟨fun t=>if t=m.nxt then some ⟨N,0,0,0⟩else e t,_,fun t ht=>if_neg ht,?_,k8⟩,k11⟩
     simp[den,denL];rfl
    ·cases h
   ·cases h
  ·cases h
 ·cases h
end Go.Cx
namespace Go.Cx
open Go Go.Shelf Go.RowKit Go.Proofs
theorem zzO{e:Env}{m:Mem}{w:World}(hm:Mok e m w){g:Nat}{o:CO}{cs:List CV}(ho:m.get g=some o)(hr:zmT o=some cs)(he:e g=some ⟨g,0,0,0⟩)(hg:g<64):∃vs ty fr,denL e cs=some vs/\w.heap[g]? = some (.cells vs.toArray ty fr):=by
 have hk:=hm g o ho;cases o with
 |cells ty cs'=>
  cases hr;obtain⟨b,l,h1,h2,h3,h4,h5⟩:=hk;rw[he]at h1;cases h1;exact⟨l,ty,_,h3,h5⟩
 |opn ty sz cs'=>
  cases hr;obtain⟨b,l,pre,suf,h1,h2,h3,_⟩:=hk;rw[he]at h1;cases h1;exact absurd h3 (by rw[<- h2];exact Nat.lt_irrefl 0)
 |ro cs'=>
  cases hr;obtain⟨b,l,pre,suf,ty,fr,h1,h2,h3,h4,h5,h6⟩:=hk;rw[he]at h1;cases h1;obtain rfl:pre=[]:=List.length_eq_zero_iff.1 h2;obtain rfl:=h6 hg;exact⟨l,ty,fr,h3,by simpa using h5⟩
 |_=>cases hr
theorem zoF{e:Env}{k:IntKind}:∀{zs:List Int} {vs:List Value},denL e (zs.map fun z=>.int k z)=some vs->vs=zs.map fun z=>Value.int k z
 |[],vs,h=>by cases h;rfl
 |z::zs,vs,h=>by
  simp only[List.map_cons,denL,yc9,ya3]at h;obtain⟨V,h1,l,h2,rfl⟩:=h;cases h1;rw[zoF h2];rfl
noncomputable def ztM(m:Mem)(g:Nat)(cs:List CV):Bool:=@decide ((m.get g).bind zmT=some cs) (Classical.propDecidable _)
theorem zmA{gl:List (Nat×List CV)}{R:RO}{m:Mem}{g:Nat}{cs:List CV}(hg:GlbOk gl R)(hm:Mk R m)(h:(g,cs)∈gl):ztM m g cs=true:=by
 obtain⟨o,h1,h2,_⟩:=hg g cs h;unfold ztM;exact@decide_eq_true _ (Classical.propDecidable _) (by rw[hm.ro g o h1];exact h2)
theorem zt4{e:Env}{m:Mem}{w:World}(hm:Mok e m w){g:Nat}{k:IntKind}{zs:List Int}(h:ztM m g (zs.map fun z=>.int k z)=true)(he:∀g,g<64->e g=some ⟨g,0,0,0⟩)(hg:g<64):∃ty fr,w.heap[g]? = some (.cells (zs.map fun z=>Value.int k z).toArray ty fr):=by
 unfold ztM at h;obtain⟨o,h1,h2⟩:=Option.bind_eq_some_iff.1 (@of_decide_eq_true _ (Classical.propDecidable _) h);obtain⟨vs,ty,fr,h3,h4⟩:=zzO hm h1 h2 (he g hg) hg;rw[zoF h3]at h4;exact⟨ty,fr,h4⟩
theorem zsr(l:List UInt8):((l.map UInt8.toNat).map UInt8.ofNat)=l:=by
 rw[List.map_map];have:(UInt8.ofNat ∘ UInt8.toNat)=id:=by funext x;simp
 rw[this,List.map_id]
theorem zk4(w:World)(k:Nat)(os:Array Obj):Below w.heap.size w (Sort.grow (w.drewN k) os):=
 ⟨rfl,rfl,rfl,by show w.heap.size<=(w.heap++os).size;simp,fun i hi=>by
  show(w.heap++os)[i]? = w.heap[i]?;rw[Array.getElem?_append,if_pos hi]⟩
noncomputable def zDe(g:Nat)(m:Mem):List CV->Option CV
 |[.int .i64 n,.int .i64 10]=>match decide (-9223372036854775808<=n)&&decide (n<=9223372036854775807)&&ztM m g (Lib.pow10Tab.map fun z=>.int .u64 z) with
  |true=>some (.str ((Lib.itoa n).map UInt8.toNat))
  |false=>none
 |_=>none
noncomputable def zvR(g:Nat)(m:Mem):List CV->Option CV
 |[.int .u64 n,.int .i64 10]=>match decide (0<=n)&&decide (n<=18446744073709551615)&&ztM m g (Lib.pow10Tab.map fun z=>.int .u64 z) with
  |true=>some (.str ((Lib.decDigits n.toNat).map UInt8.toNat))
  |false=>none
 |_=>none
noncomputable def tzC(g:Nat)(m:Mem):List CV->Option CV
 |[.int .u64 n]=>match decide (0<n)&&decide (n<=18446744073709551615)&&ztM m g (Lib.deBruijn64tab.map fun z=>.int .u8 ((z:Nat):Int)) with
  |true=>some (.int .i64 (Lib.ctz 64 n.toNat:Nat))
  |false=>none
 |_=>none
section
variable{P:Program}{ρ : Ren}
theorem zrL{e:Env}{m:Mem}{w:World}(hm:Mok e m w){g:Nat}{n:String}(hn:P.globalNamed n=some g)(h:ztM m g (Lib.pow10Tab.map fun z=>.int .u64 z)=true)(he:∀g,g<64->e g=some ⟨g,0,0,0⟩)(hg:g<64):Lib.TabIs P w n .u64 Lib.pow10Tab:=by
 obtain⟨ty,fr,h1⟩:=zt4 hm h he hg;unfold Lib.TabIs World.var?;rw[hn];simp only[Option.bind_some,h1]
theorem zAV{g:Nat}(L:LaysM.n246 P ρ)(hn:P.globalNamed "internal/strconv.uint64pow10" = some g)(hg:g<64)(he:∀vs w,(callFunc (ρ.f 246) vs).run P w=.ok (.enter (ρ.f 246) vs) w):zgD P (ρ.f 246) (zDe g):=by
 intro m args v h;refine⟨he,fun e vs w has hm hgl=>?_⟩;unfold zDe at h;split at h
 ·rename_i n;split at h
  ·rename_i hb;cases h;simp only[ya2,decide_eq_true_eq]at hb;obtain⟨⟨h0,h1⟩,ht⟩:=hb;obtain⟨a,b,k1,k2,rfl⟩:=zmu has;cases k1;cases k2;refine(Any.internal_strconv_FormatInt_10 L n h0 h1 w (zrL hm hn ht hgl hg)).mono fun en w' ⟨q1,k,os,q2⟩=>⟨⟨e,_,fun _ _=>rfl,rfl,?_⟩,?_⟩
   ·rw[q1,zsr]
   ·rw[q2];exact zk4 w k os
  ·cases h
 ·cases h
theorem zCN(L:Lays7.n29 P ρ)(hg : ρ.g 1<64)(he:∀vs w,(callFunc (ρ.f 29) vs).run P w=.ok (.enter (ρ.f 29) vs) w):zgD P (ρ.f 29) (tzC (ρ.g 1)):=by
 intro m args v h;refine⟨he,fun e vs w has hm hgl=>?_⟩;unfold tzC at h;split at h
 ·rename_i n;split at h
  ·rename_i hb;cases h;simp only[ya2,decide_eq_true_eq]at hb;obtain⟨⟨h0,h1⟩,ht⟩:=hb;obtain⟨x,rfl⟩:∃x:Nat,n=x:=⟨n.toNat,by omega⟩
   have hz:(Lib.deBruijn64tab.map fun z=>CV.int .u8 ((z:Nat):Int))=(Lib.deBruijn64tab.map fun z=>((z:Nat):Int)).map fun z=>CV.int .u8 z:=by rw[List.map_map];rfl
   rw[hz]at ht;obtain⟨ty,fr,hcell⟩:=zt4 hm ht hgl hg;have hvs:vs=[.int .u64 x]:=by
    simp only[denL,den,yc5,Option.bind_some,ya0]at has;exact has.symm
   subst hvs;refine(Any7.bits_TrailingZeros64 L x (by omega) w fun _ j hj=>?_).mono fun en w' ⟨q1,q2⟩=>⟨⟨e,_,fun _ _=>rfl,rfl,by rw[q1];rfl⟩,by rw[q2];exact .refl _ _⟩
   unfold World.cell?;simp only[hcell];simp[yb5 hj,ya8]
  ·cases h
 ·cases h
end
end Go.Cx
