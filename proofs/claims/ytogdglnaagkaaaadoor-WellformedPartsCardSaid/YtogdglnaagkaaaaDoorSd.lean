import Derived.Test.YtogdglnaagkaaaaDoorSx
import Derived.Test.YtogdglnaagkaaaaDoorGh
import Derived.Shelf.Strconv.ParseIntPublic10
import Derived.Lib.SmallJoins
set_option linter.unusedSimpArgs false
set_option linter.unusedVariables false
namespace Go.Cx
open Go Go.Shelf Go.RowKit Go.Proofs
section
variable{P:Program}{X:Ext}
end
noncomputable def ztI(g T:Nat)(m:Mem):List CV->Option CV
 |[.str s,.int .i64 10,.int .i64 64]=>match Nat.ble s.length 1000000 with
  |true=>match Lib.parseIntB 64 (s.map UInt8.ofNat) with
   |.ok v=>some (.tup [.int .i64 v,.nili])
   |.range=>match(m.get g).bind zkM with
    |some [.ifc _ _]=>some (.tup [.int .i64 (Lib.intSat 64 (s.map UInt8.ofNat)),.ifc T (.ptr m.nxt 0)])
    |_=>none
   |.syntax=>none
  |false=>none
 |_=>none
theorem zrA{e:Env}{x y z:CV}{vs:List Value}(h:denL e [x,y,z]=some vs):∃a b c,den e x=some a/\den e y=some b/\den e z=some c/\vs=[a,b,c]:=by
 simp only[denL,yc9,ya3]at h;obtain⟨a,h1,l,⟨b,h2,l2,⟨c,h4,l3,h5,rfl⟩,rfl⟩,rfl⟩:=h;cases h5;exact⟨a,b,c,h1,h2,h4,rfl⟩
theorem zA1{e:Env}{m:Mem}{w:World}(hm:Mok e m w){g:Nat}{o:CO}{x:CV}(ho:m.get g=some o)(hr:zkM o=some [x])(he:e g=some ⟨g,0,0,0⟩):∃V,den e x=some V/\w.cell? ⟨g,0,none⟩=some V:=by
 have hk:=hm g o ho;have one1:∀{l:List Value},denL e [x]=some l->∃V,den e x=some V/\l=[V]:=fun{l} h=>by
  simp only[denL,yc9,ya3]at h;obtain⟨V,h1,l',h2,rfl⟩:=h;cases h2;exact⟨V,h1,rfl⟩
 cases o with
 |cells ty cs=>
  cases hr;obtain⟨b,l,h1,h2,h3,h4,h5⟩:=hk;rw[he]at h1;cases h1;obtain⟨V,h6,rfl⟩:=one1 h3;exact⟨V,h6,by unfold World.cell?;simp[h5]⟩
 |opn ty sz cs=>
  cases hr;obtain⟨b,l,pre,suf,h1,h2,h3,h4,h5,h6,⟨fr,h7,h8⟩,h9⟩:=hk;rw[he]at h1;cases h1;exact absurd h3 (by rw[<- h2];exact Nat.lt_irrefl 0)
 |ro cs=>
  cases hr;obtain⟨b,l,pre,suf,ty,fr,h1,h2,h3,h4,h5,_⟩:=hk;rw[he]at h1;cases h1;obtain rfl:pre=[]:=List.length_eq_zero_iff.1 h2;obtain⟨V,h6,rfl⟩:=one1 h3;exact⟨V,h6,by unfold World.cell?;simp[h5]⟩
 |_=>cases hr
def zgw(P:Program)(f:FuncId)(g:Mem->List CV->Option CV):Prop:=∀m args v,g m args=some v->(∀vs w,(callFunc f vs).run P w=.ok (.enter f vs) w) /\
 ∀e vs w,denL e args=some vs->Mok e m w->(∀g,g<64->e g=some ⟨g,0,0,0⟩)->Calls P f vs.toArray w fun en w'=>(∃e' V,(∀t,t≠m.nxt->e' t=e t)/\den e' v=some V/\en=.returned V)/\Below w.heap.size w w'
theorem Ext1.to{P:Program}{f:FuncId}{g:Mem->List CV->Option CV}(h:Ext1 P f g):zgw P f g:=fun m args v hg=>by
 obtain⟨h1,h2⟩:=h m args v hg;refine⟨h1,fun e vs w h3 h4 h5=>?_⟩;obtain⟨V,h6,h7⟩:=h2 e vs w h3 h4 h5;exact h7.mono fun en w' ⟨h8,h9⟩=>⟨⟨e,V,fun _ _=>rfl,h6,h8⟩,h9⟩
theorem zt7{P:Program}{ρ : Ren}(L:LaysC.n174 P ρ)(hg : ρ.g 16<64)(he:∀vs w,(callFunc (ρ.f 174) vs).run P w=.ok (.enter (ρ.f 174) vs) w):zgw P (ρ.f 174) (ztI (ρ.g 16) (ρ.t 168)):=by
 intro m args v h;refine⟨he,fun e vs w has hm hgl=>?_⟩;unfold ztI at h;split at h
 ·rename_i s;split at h
  ·rename_i hb;have hb:=ya9 hb;obtain⟨a,b,c,h1,h2,h3,rfl⟩:=zrA has;obtain rfl:=zb9 h1;cases h2;cases h3
   let S:ByteArray:=⟨(s.map UInt8.ofNat).toArray⟩
   have hS:S.data.toList=s.map UInt8.ofNat:=rfl;have hz:S.size<=1000000:=by show(s.map UInt8.ofNat).toArray.size<=_;simpa using hb
   split at h
   ·rename_i u hu;cases h;refine(Any.strconv_ParseInt_10_at64_ok L S (by omega) u hu w).mono fun en w' ⟨k1,k2⟩=>⟨⟨e,_,fun _ _=>rfl,rfl,k1⟩,?_⟩
    rcases k2 with rfl |⟨t,rfl⟩
    ·exact .refl _ _
    ·exact Joins.below_bytesWorld _ _ _ _ (Nat.le_refl _)
   ·rename_i hr;split at h
    ·rename_i T x ho;cases h;obtain⟨o,k1,k2⟩:=Option.bind_eq_some_iff.1 ho;obtain⟨V,k3,hv⟩:=zA1 hm k1 k2 (hgl _ hg);simp only[den,ya3]at k3;obtain⟨p,k6,rfl⟩:=k3;refine(Any.strconv_ParseInt_10_at64_range L S (by omega) hr _ w hv (.inr ⟨_,_,rfl⟩)).mono fun en w' ⟨N,k8,k9,k10,k11⟩=>⟨⟨fun t=>if t=m.nxt then some ⟨N,0,0,0⟩else e t,_,fun t ht=>if_neg ht,?_,k8⟩,k11⟩
     simp[den,denL];rfl
    ·cases h
   ·cases h
  ·cases h
 ·cases h
end Go.Cx
