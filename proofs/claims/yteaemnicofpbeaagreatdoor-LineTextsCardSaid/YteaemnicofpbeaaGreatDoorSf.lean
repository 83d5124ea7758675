import Derived.Test.YteaemnicofpbeaaGreatDoorSd
import Derived.Shelf.Strconv.Itoa4
import Derived.Shelf.Spec.TrailingZeros
set_option linter.unusedSimpArgs false
set_option linter.unusedVariables false
namespace Go.Cx
open Go Go.Shelf Go.RowKit Go.Proofs
theorem zua{e:Env}{m:Mem}{w:World}(hm:Mok e m w){g:Nat}{o:CO}{cs:List CV}(ho:m.get g=some o)(hr:zjK o=some cs)(he:e g=some ⟨g,0,0,0⟩)(hg:g<64):∃vs ty fr,denL e cs=some vs/\w.heap[g]? = some (.cells vs.toArray ty fr):=by
 have hk:=hm g o ho;cases o with
 |cells ty cs'=>
  cases hr;obtain⟨b,l,h1,h2,h3,h4,h5⟩:=hk;rw[he]at h1;cases h1;exact⟨l,ty,_,h3,h5⟩
 |opn ty sz cs'=>
  cases hr;obtain⟨b,l,pre,suf,h1,h2,h3,_⟩:=hk;rw[he]at h1;cases h1;exact absurd h3 (by rw[<- h2];exact Nat.lt_irrefl 0)
 |ro cs'=>
  cases hr;obtain⟨b,l,pre,suf,ty,fr,h1,h2,h3,h4,h5,h6⟩:=hk;rw[he]at h1;cases h1;obtain rfl:pre=[]:=List.length_eq_zero_iff.1 h2;obtain rfl:=h6 hg;exact⟨l,ty,fr,h3,by simpa using h5⟩
 |_=>cases hr
theorem zmc{e:Env}{k:IntKind}:∀{zs:List Int} {vs:List Value},denL e (zs.map fun z=>.int k z)=some vs->vs=zs.map fun z=>Value.int k z
 |[],vs,h=>by cases h;rfl
 |z::zs,vs,h=>by
  simp only[List.map_cons,denL,yc9,ya3]at h;obtain⟨V,h1,l,h2,rfl⟩:=h;cases h1;rw[zmc h2];rfl
noncomputable def zp6(m:Mem)(g:Nat)(cs:List CV):Bool:=@decide ((m.get g).bind zjK=some cs) (Classical.propDecidable _)
theorem zrQ{gl:List (Nat×List CV)}{R:RO}{m:Mem}{g:Nat}{cs:List CV}(hg:GlbOk gl R)(hm:Mk R m)(h:(g,cs)∈gl):zp6 m g cs=true:=by
 obtain⟨o,h1,h2,_⟩:=hg g cs h;unfold zp6;exact@decide_eq_true _ (Classical.propDecidable _) (by rw[hm.ro g o h1];exact h2)
theorem zqN{e:Env}{m:Mem}{w:World}(hm:Mok e m w){g:Nat}{k:IntKind}{zs:List Int}(h:zp6 m g (zs.map fun z=>.int k z)=true)(he:∀g,g<64->e g=some ⟨g,0,0,0⟩)(hg:g<64):∃ty fr,w.heap[g]? = some (.cells (zs.map fun z=>Value.int k z).toArray ty fr):=by
 unfold zp6 at h;obtain⟨o,h1,h2⟩:=Option.bind_eq_some_iff.1 (@of_decide_eq_true _ (Classical.propDecidable _) h);obtain⟨vs,ty,fr,h3,h4⟩:=zua hm h1 h2 (he g hg) hg;rw[zmc h3]at h4;exact⟨ty,fr,h4⟩
theorem ztp(l:List UInt8):((l.map UInt8.toNat).map UInt8.ofNat)=l:=by
 rw[List.map_map];have:(UInt8.ofNat ∘ UInt8.toNat)=id:=by funext x;simp
 rw[this,List.map_id]
theorem zpX(w:World)(k:Nat)(os:Array Obj):Below w.heap.size w (Sort.grow (w.drewN k) os):=
 ⟨rfl,rfl,rfl,by show w.heap.size<=(w.heap++os).size;simp,fun i hi=>by
  show(w.heap++os)[i]? = w.heap[i]?;rw[Array.getElem?_append,if_pos hi]⟩
noncomputable def zv8(g:Nat)(m:Mem):List CV->Option CV
 |[.int .i64 n,.int .i64 10]=>match decide (-9223372036854775808<=n)&&decide (n<=9223372036854775807)&&zp6 m g (Lib.pow10Tab.map fun z=>.int .u64 z) with
  |true=>some (.str ((Lib.itoa n).map UInt8.toNat))
  |false=>none
 |_=>none
noncomputable def zxT(g:Nat)(m:Mem):List CV->Option CV
 |[.int .u64 n,.int .i64 10]=>match decide (0<=n)&&decide (n<=18446744073709551615)&&zp6 m g (Lib.pow10Tab.map fun z=>.int .u64 z) with
  |true=>some (.str ((Lib.decDigits n.toNat).map UInt8.toNat))
  |false=>none
 |_=>none
noncomputable def tzC(g:Nat)(m:Mem):List CV->Option CV
 |[.int .u64 n]=>match decide (0<n)&&decide (n<=18446744073709551615)&&zp6 m g (Lib.deBruijn64tab.map fun z=>.int .u8 ((z:Nat):Int)) with
  |true=>some (.int .i64 (Lib.ctz 64 n.toNat:Nat))
  |false=>none
 |_=>none
section
variable{P:Program}{ρ : Ren}
theorem zs4{e:Env}{m:Mem}{w:World}(hm:Mok e m w){g:Nat}{n:String}(hn:P.globalNamed n=some g)(h:zp6 m g (Lib.pow10Tab.map fun z=>.int .u64 z)=true)(he:∀g,g<64->e g=some ⟨g,0,0,0⟩)(hg:g<64):Lib.TabIs P w n .u64 Lib.pow10Tab:=by
 obtain⟨ty,fr,h1⟩:=zqN hm h he hg;unfold Lib.TabIs World.var?;rw[hn];simp only[Option.bind_some,h1]
theorem zvD{g:Nat}(L:LaysM.n246 P ρ)(hn:P.globalNamed "internal/strconv.uint64pow10" = some g)(hg:g<64)(he:∀vs w,(callFunc (ρ.f 246) vs).run P w=.ok (.enter (ρ.f 246) vs) w):zfF P (ρ.f 246) (zv8 g):=by
 intro m args v h;refine⟨he,fun e vs w has hm hgl=>?_⟩;unfold zv8 at h;split at h
 ·rename_i n;split at h
  ·rename_i hb;cases h;simp only[ya2,decide_eq_true_eq]at hb;obtain⟨⟨h0,h1⟩,ht⟩:=hb;obtain⟨a,b,k1,k2,rfl⟩:=zou has;cases k1;cases k2;refine(Any.internal_strconv_FormatInt_10 L n h0 h1 w (zs4 hm hn ht hgl hg)).mono fun en w' ⟨q1,k,os,q2⟩=>⟨⟨e,_,fun _ _=>rfl,rfl,?_⟩,?_⟩
   ·rw[q1,ztp]
   ·rw[q2];exact zpX w k os
  ·cases h
 ·cases h
theorem zwr(L:Lays7.n29 P ρ)(hg : ρ.g 1<64)(he:∀vs w,(callFunc (ρ.f 29) vs).run P w=.ok (.enter (ρ.f 29) vs) w):zfF P (ρ.f 29) (tzC (ρ.g 1)):=by
 intro m args v h;refine⟨he,fun e vs w has hm hgl=>?_⟩;unfold tzC at h;split at h
 ·rename_i n;split at h
  ·rename_i hb;cases h;simp only[ya2,decide_eq_true_eq]at hb;obtain⟨⟨h0,h1⟩,ht⟩:=hb;obtain⟨x,rfl⟩:∃x:Nat,n=x:=⟨n.toNat,by omega⟩
   have hz:(Lib.deBruijn64tab.map fun z=>CV.int .u8 ((z:Nat):Int))=(Lib.deBruijn64tab.map fun z=>((z:Nat):Int)).map fun z=>CV.int .u8 z:=by rw[List.map_map];rfl
   rw[hz]at ht;obtain⟨ty,fr,hcell⟩:=zqN hm ht hgl hg;have hvs:vs=[.int .u64 x]:=by
    simp only[denL,den,yc5,Option.bind_some,ya0]at has;exact has.symm
   subst hvs;refine(Any7.bits_TrailingZeros64 L x (by omega) w fun _ j hj=>?_).mono fun en w' ⟨q1,q2⟩=>⟨⟨e,_,fun _ _=>rfl,rfl,by rw[q1];rfl⟩,by rw[q2];exact .refl _ _⟩
   unfold World.cell?;simp only[hcell];simp[yb5 hj,ya8]
  ·cases h
 ·cases h
end
end Go.Cx
