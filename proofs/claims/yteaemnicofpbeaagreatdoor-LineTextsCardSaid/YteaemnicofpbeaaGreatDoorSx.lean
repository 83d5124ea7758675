import Derived.Test.YteaemnicofpbeaaGreatDoorGi
import Derived.Shelf.Strings.OnBuilder
import Derived.Shelf.Strings.Count
import Derived.Shelf.Strings.Search3
set_option linter.unusedSimpArgs false
set_option linter.unusedVariables false
namespace Go.Cx
open Go Go.Shelf Go.RowKit Go.Proofs
noncomputable def znu:List CV->Option (List (List Nat))
 |[]=>some []
 |.str s::r=>match znu r with
  |some l=>some (s::l)
  |none=>none
 |_::_=>none
noncomputable def zdF(sep:List Nat):List (List Nat)->List Nat
 |[]=>[]
 |s::r=>match r with
  |[]=>s
  |_::_=>s++(sep++zdF sep r)
noncomputable def zvg:CV->Bool
 |.slc _ _ n c=>Nat.ble n c
 |_=>true
noncomputable def zlU(m:Mem):List CV->Option CV
 |[x,.str sep]=>match elems m 1 x with
  |some (n,l)=>match znu l with
   |some ss=>match zvg x&&(Nat.ble n 1000000&&Nat.ble (zdF sep ss).length 1000000) with
    |true=>some (.str (zdF sep ss))
    |false=>none
   |none=>none
  |none=>none
 |_=>none
def Ext1(P:Program)(f:FuncId)(g:Mem->List CV->Option CV):Prop:=∀m args v,g m args=some v->(∀vs w,(callFunc f vs).run P w=.ok (.enter f vs) w) /\
 ∀e vs w,denL e args=some vs->Mok e m w->(∀g,g<64->e g=some ⟨g,0,0,0⟩)->∃V,den e v=some V/\Calls P f vs.toArray w fun en w'=>en=.returned V/\Below w.heap.size w w'
theorem zou{e:Env}{x y:CV}{vs:List Value}(h:denL e [x,y]=some vs):∃a b,den e x=some a/\den e y=some b/\vs=[a,b]:=by
 simp only[denL,yc9,ya3]at h;obtain⟨a,h1,l,⟨b,h2,l2,h3,rfl⟩,rfl⟩:=h;cases h3;exact⟨a,b,h1,h2,rfl⟩
variable{P:Program}{ρ : Ren}
theorem zlI{e:Env}:∀{l:List CV} {ss:List (List Nat)} {us:List Value},znu l=some ss->denL e l=some us->us=ss.map fun s=>Value.string ⟨(s.map UInt8.ofNat).toArray⟩
 |[],ss,us,h,hu=>by
  cases h;cases hu;rfl
 |x::r,ss,us,h,hu=>by
  simp only[denL,yc9,ya3]at hu;obtain⟨a,h1,l,h2,rfl⟩:=hu;cases x<;>first |(unfold znu at h;cases h;done) |skip
  unfold znu at h;split at h
  ·rename_i s2 hs;cases h;obtain rfl:=zbP h1;rw[zlI hs h2];rfl
  ·cases h
theorem zki(sep:List Nat):∀ss:List (List Nat),(zdF sep ss).map UInt8.ofNat=Lib.join (ss.map fun s=>s.map UInt8.ofNat) (sep.map UInt8.ofNat)
 |[]=>rfl
 |[s]=>by rw[zdF];simp[Lib.join_one]
 |s::t::r=>by
  have ih:=zki sep (t::r);rw[zdF];simp only[List.map_append,ih];rw[List.map_cons,List.map_cons,Lib.join_cons,Lib.join_cons];simp[Lib.joinTail]
theorem znz{e:Env}{m:Mem}{w:World}(hm:Mok e m w){n:Nat}{x:CV}{l:List CV}{V:Value}(h:elems m 1 x=some (n,l))(hx:den e x=some V)(hc:zvg x=true):(n=0/\∃a c,V=.slice a 0 c)\/∃bk o c,V=.slice (some ⟨bk,o,none⟩) n c/\n<=c:=by
 unfold elems at h;split at h
 ·cases h;cases hx;exact .inl ⟨rfl,_,_,rfl⟩
 ·rename_i t off k c;have hn:k=n:=by
   have h':=h;split at h'<;>first |cases h' |(split at h'<;>first |cases h' |skip)<;>first |rfl |skip
  subst hn;simp only[den,ya3]at hx;obtain⟨b,_,rfl⟩:=hx;exact .inr ⟨_,_,_,rfl,ya9 hc⟩
 ·rename_i t k k2;split at h
  ·rename_i ty sz' cs ho;split at h
   ·rename_i hsz;have hsz:=yb0 hsz;split at h
    ·rename_i l' ht;simp only[ya0,yc4]at h;obtain⟨rfl,rfl⟩:=h;obtain⟨b,lv,pre,suf,h1,h2,h3,h4,h5,h6,⟨fr,h7,h7'⟩,h8,h9⟩:=hm _ _ ho;simp only[den,ya3]at hx;obtain⟨b',hb',rfl⟩:=hx;obtain rfl:b=b':=by rw[h1]at hb';cases hb';rfl
     obtain⟨k1,k2'⟩:=zbu h5 ht;refine .inr ⟨_,_,_,rfl,?_⟩;rw[ya1]at h8;rw[hsz]at h8;omega
    ·cases h
   ·cases h
  ·cases h
 ·simp only[ya0,yc4]at h;obtain⟨rfl,rfl⟩:=h;simp only[den,ya3]at hx;obtain⟨b,_,rfl⟩:=hx;refine .inl ⟨rfl,?_⟩;split<;>exact⟨_,_,rfl⟩
 ·cases h;cases hx;exact .inl ⟨rfl,_,_,rfl⟩
 ·cases h
theorem zsO(L:Lays.n156 P ρ)(X:Builder.Extra P ρ)(he:∀vs w,(callFunc (ρ.f 156) vs).run P w=.ok (.enter (ρ.f 156) vs) w):Ext1 P (ρ.f 156) zlU:=by
 intro m args v hg;refine⟨he,fun e vs w has hm hgl=>?_⟩;unfold zlU at hg;split at hg
 ·rename_i x sep;split at hg
  ·rename_i n l hl;split at hg
   ·rename_i ss hss;split at hg
    ·rename_i hb;simp only[ya2]at hb;have b2:=ya9 hb.2.1;have b3:=ya9 hb.2.2;cases hg;obtain⟨a,b,h1,h2,rfl⟩:=zou has;obtain rfl:=zbP h2;refine⟨_,rfl,?_⟩;obtain⟨us,k1,k2,k3,k4⟩:=zdh hm hl h1;have hus:=zlI hss k1;have hlen:ss.length=n:=by rw[hus]at k2;simpa using k2
     rcases znz hm hl h1 hb.1 with⟨rfl,a',c,rfl⟩ |⟨bk,o,c,rfl,hc⟩
     ·obtain rfl:ss=[]:=List.length_eq_zero_iff.1 hlen;refine(Any.strings_Join_none L X a' c _ w).mono fun en w' hw=>?_
      obtain⟨h1,rfl⟩:=hw;exact⟨h1,.refl _ _⟩
     ·rcases k4 with⟨rfl,h0,rfl⟩ |⟨ad,c',h0,hcell⟩
      ·cases h0
      ·cases h0;by_cases hn:n=0
       ·subst hn;obtain rfl:ss=[]:=List.length_eq_zero_iff.1 hlen;refine(Any.strings_Join_none L X _ c _ w).mono fun en w' hw=>?_
        obtain⟨h1,rfl⟩:=hw;exact⟨h1,.refl _ _⟩
       ·let xs:List ByteArray:=ss.map fun s=>⟨(s.map UInt8.ofNat).toArray⟩
        have hxl:xs.length=n:=by simp[xs,hlen]
        have hxm:xs.map (·.data.toList)=ss.map fun s=>s.map UInt8.ofNat:=by simp[xs]
        have hu2:us=xs.map Value.string:=by rw[hus];simp[xs]
        have hcells:∀(j:Nat) x,xs[j]? = some x->w.cell? ⟨bk,o+j,none⟩=some (.string x):=fun j x hj=>by
         have:=hcell j (.string x) (by rw[hu2,yb9,hj];rfl)
         rwa [Addr.add_lit]at this
        have hbk:bk<w.heap.size:=by
         have hx0:∃x,xs[0]? = some x:=by
          cases hxs:xs with
          |nil=>rw[hxs]at hxl;simp at hxl;omega
          |cons y ys=>exact⟨y,rfl⟩
         obtain⟨x0,hx0⟩:=hx0;have:=hcells 0 x0 hx0;by_cases hlt:bk<w.heap.size
         ·exact hlt
         ·have hnone:w.heap[bk]? = none:=Array.getElem?_eq_none (by omega);simp[World.cell?,hnone]at this
        have hj:=Any.strings_Join L X bk o c xs ⟨(sep.map UInt8.ofNat).toArray⟩ w hcells hbk (by omega) (by omega) (by
         rw[hxm];show(Lib.join _ (sep.map UInt8.ofNat)).length<=_;rw[<- zki,yb7];omega)
        rw[hxl]at hj;refine hj.mono fun en w' hw=>⟨?_,hw.2⟩
        rw[hw.1,hxm,zki]
    ·cases hg
   ·cases hg
  ·cases hg
 ·cases hg
end Go.Cx
