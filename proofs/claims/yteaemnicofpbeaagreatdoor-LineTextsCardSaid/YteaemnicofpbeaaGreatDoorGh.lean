import Derived.Test.YteaemnicofpbeaaGreatDoorGg
import Derived.Test.YteaemnicofpbeaaGreatDoorGi
import Derived.ReadAgain
import Derived.ChangeOld
import Derived.ProofKit
import Derived.RowKit
import Derived.WideShapes
import Derived.DataReads
import Derived.Below
import Derived.Handed
set_option linter.unusedSimpArgs false
set_option linter.unusedVariables false
namespace Go.Cx
open Go Go.RowKit
section
variable{H:Type}{enc:TypeId×Value->H}{P:Program}{W:World}
abbrev FWs:=List (Blk×List CV)
def zlP(L:FWs):Env:=zo8 (L.map (·.1))
def roW(L:FWs):RO:=fun t=>if t<64 then none else(L[t - 64]?).map fun p=>.ro p.2
def zpt(k:Nat):FWs->List (Nat×List CV)
 |[]=>[]
 |p::r=>(k,p.2)::zpt (k+1) r
def FwOk(W:World)(L:FWs):Prop:=∀(i:Nat) p,L[i]? = some p->p.2.all one=true/\∃vs pre suf ty fr,pre.length=p.1.off/\denL (zlP L) p.2=some vs/\W.heap[p.1.blk]? = some (.cells (pre++vs++suf).toArray ty fr)
theorem zhs(L L':FWs):Env.le (zlP L) (zlP (L++L')):=fun t b h=>by
 unfold zlP zo8 at h ⊢;split at h
 ·rename_i hq;rw[if_pos hq];exact h
 ·rename_i hq;rw[if_neg hq,List.map_append,yb8 (List.getElem?_eq_some_iff.1 h).1];exact h
theorem zuw(L L':FWs):(roW L).le (roW (L++L')):=fun t o h=>by
 unfold roW at h ⊢;split at h
 ·cases h
 ·rename_i hq;rw[if_neg hq];cases hL:L[t - 64]? with
  |none=>rw[hL]at h;cases h
  |some p=>rw[yb8 (List.getElem?_eq_some_iff.1 hL).1];exact h
theorem FwOk.snoc{L:FWs}(h:FwOk W L){b:Blk}{cs:List CV}(ha:cs.all one=true){vs pre suf:List Value}{ty:TypeId}{fr:Nat×Nat}(hp:pre.length=b.off)(hd:denL (zlP L) cs=some vs)(hh:W.heap[b.blk]? = some (.cells (pre++vs++suf).toArray ty fr)):FwOk W (L++[(b,cs)]):=by
 intro i p hi;rcases Nat.lt_trichotomy i L.length with hq |hq |hq
 ·rw[yb8 hq]at hi;obtain⟨h1,vs',pre',suf',ty',fr',h2,h3,h4⟩:=h i p hi;exact⟨h1,vs',pre',suf',ty',fr',h2,denL_mono (zhs L _) _ _ h3,h4⟩
 ·subst hq;simp at hi;subst hi;exact⟨ha,vs,pre,suf,ty,fr,hp,denL_mono (zhs L _) _ _ hd,hh⟩
 ·rw[List.getElem?_eq_none (by simp;omega)]at hi;cases hi
end
end Go.Cx
namespace Go.Cx
open Go Go.RowKit
section
variable{H:Type}{enc:TypeId×Value->H}{P:Program}{W:World}
noncomputable def ziT(P:Program)(S:List Nat):List Field->Nat->Nat->Bool
 |[],a,n=>Nat.beq a n
 |f::fs,a,n=>zaH f.type S&&(Nat.beq f.offset a&&ziT P S fs (a+P.cellsOf f.type) n)
noncomputable def znv(P:Program)(S:List Nat)(t:TypeId):Bool:=match P.underlying t with
 |some .bool=>Nat.beq (P.cellsOf t) 1
 |some (.int _)=>Nat.beq (P.cellsOf t) 1
 |some .string=>Nat.beq (P.cellsOf t) 1
 |some (.slice e)=>zaH e S&&(Nat.blt 0 (P.cellsOf e)&&Nat.beq (P.cellsOf t) 1)
 |some (.struct fs)=>ziT P S fs.toList 0 (P.cellsOf t)
 |some (.array n e)=>zaH e S&&Nat.beq (P.cellsOf t) (n*P.cellsOf e)
 |_=>false
noncomputable def zr3(P:Program)(S:List Nat):Bool:=S.all (znv P S)
noncomputable def svD(P:Program):Nat->TypeId->DataW H->List SV
 |0,_,_=>[]
 |n+1,t,d=>match P.underlying t,d with
  |some .bool,.lit (.bool b)=>[.cv (.bool b)]
  |some (.int _),.lit (.int k x)=>[.cv (.int k x)]
  |some .string,.lit (.string s)=>[.cv (.str (s.map UInt8.toNat))]
  |some (.slice e),.nil=>[.isl (P.cellsOf e) 0 fun _=>[]]
  |some (.slice e),.slice elems _=>[.isl (P.cellsOf e) elems.length fun i=>match elems[i]? with
   |some y=>svD P n e y
   |none=>[]]
  |some (.struct fs),.agg parts=>(fs.toList.zip parts).flatMap fun p=>svD P n p.1.type p.2
  |some (.array _ e),.agg parts=>parts.flatMap fun y=>svD P n e y
  |_,_=>[]
def wfD(P:Program):Nat->TypeId->DataW H->Prop
 |0,_,_=>False
 |n+1,t,d=>match P.underlying t,d with
  |some .bool,.lit (.bool _)=>True
  |some (.int k),.lit (.int k' x)=>k'=k/\(Lit.int k x).wf=true
  |some .string,.lit (.string s)=>s.length<=maxLen
  |some (.slice _),.nil=>True
  |some (.slice e),.slice elems _=>elems.length<=maxLen/\∀y∈elems,wfD P n e y
  |some (.struct fs),.agg parts=>parts.length=fs.toList.length/\∀(i:Nat) f y,fs.toList[i]? = some f->parts[i]? = some y->wfD P n f.type y
  |some (.array k e),.agg parts=>parts.length=k/\∀y∈parts,wfD P n e y
  |_,_=>False
theorem zfw{A B:Type}{f:A->Option B}{l:List A}{r:List B}(h:l.mapM f=some r):r.length=l.length/\∀(i:Nat) x,l[i]? = some x->∃y,r[i]? = some y/\f x=some y:=by
 have h1:=mapM_some_length h;refine⟨h1,fun i x hx=>?_⟩;have h2:=mapM_some_get h i x hx;cases hr:r[i]? with
 |some y=>exact⟨y,rfl,h2.trans hr⟩
 |none=>
  have:=(List.getElem?_eq_some_iff.1 hx).1;rw[List.getElem?_eq_none_iff]at hr;omega
def zex(W:World)(P:Program)(n:Nat)(t:TypeId)(cs:List Value)(d:DataW H):Prop:=
 wfD P n t d/\∀L,FwOk W L->∃L' xs,FwOk W (L++L')/\denL (zlP (L++L')) xs=some cs/\xs.all one=true/\RepL (roW (L++L')) noE (svD P n t d) xs
theorem zfq{n:Nat}:∀(items:List (TypeId×List Value×DataW H)),(∀p∈items,zex W P n p.1 p.2.1 p.2.2)->∀L,FwOk W L ->
  ∃(L':FWs) (xss:List (List CV)),FwOk W (L++L')/\xss.length=items.length/\denL (zlP (L++L')) xss.flatten=some (items.flatMap fun p=>p.2.1)/\xss.flatten.all one=true/\RepL (roW (L++L')) noE (items.flatMap fun p=>svD P n p.1 p.2.2) xss.flatten /\
   ∀(i:Nat) p,items[i]? = some p->∃xs,xss[i]? = some xs/\xs.length=p.2.1.length/\RepL (roW (L++L')) noE (svD P n p.1 p.2.2) xs
 |[],_,L,hL=>⟨[],[],by simpa using hL,rfl,rfl,rfl,.nil,fun i p hp=>by simp at hp⟩
 |p::r,h,L,hL=>by
  obtain⟨L1,xs,h1,h2,h3,h4⟩:=(h p (ya5 ..)).2 L hL;obtain⟨L2,xss,g1,g2,g3,g4,g5,g6⟩:=zfq r (fun q hq=>h q (ya4 _ hq)) (L++L1) h1;rw[yc1]at g1 g3 g5 g6;have he:Env.le (zlP (L++L1)) (zlP (L++(L1++L2))):=by rw[<- yc1];exact zhs _ _
  have hr:(roW (L++L1)).le (roW (L++(L1++L2))):=by rw[<- yc1];exact zuw _ _
  have h4':=h4.mono hr (DEnv.le.refl _);refine⟨L1++L2,xs::xss,g1,by simp[g2],?_,?_,?_,fun i q hq=>?_⟩
  ·rw[yb3,List.flatMap_cons];exact zaR (denL_mono he _ _ h2) g3
  ·rw[yb3];exact all_append h3 g4
  ·rw[yb3,List.flatMap_cons];exact RepL.append h4' g5
  ·cases i with
   |zero=>simp at hq;subst hq;exact⟨xs,rfl,(zad h2).symm,h4'⟩
   |succ i=>exact g6 i q (by simpa using hq)
theorem zja{S:List Nat}{cs:List Value}:∀{fs:List Field} {a n:Nat},ziT P S fs a n=true->cs.length=n->(∀f∈fs,zaH f.type S=true)/\(fs.flatMap fun f=>(cs.drop f.offset).take (P.cellsOf f.type))=cs.drop a
 |[],a,n,h,hn=>by
  unfold ziT at h;have:=yb0 h;refine⟨fun f hf=>(by cases hf),?_⟩;rw[List.flatMap_nil,List.drop_eq_nil_of_le (by omega)]
 |f::fs,a,n,h,hn=>by
  unfold ziT at h;simp only[ya2]at h;obtain⟨h1,h2,h3⟩:=h;obtain⟨g1,g2⟩:=zja h3 hn;have ho:=yb0 h2;refine⟨fun q hq=>?_,?_⟩
  ·rcases List.mem_cons.1 hq with rfl |hq
   ·exact h1
   ·exact g1 q hq
  ·rw[List.flatMap_cons,g2,ho,<- List.drop_drop];exact List.take_append_drop _ _
theorem zq7{A B:Type}{l:List A}{r:List B}{i:Nat}{a:A}{b:B}(h:(l.zip r)[i]? = some (a,b)):l[i]? = some a/\r[i]? = some b:=by
 rw[List.getElem?_zip_eq_some]at h;exact h
theorem zlq{S:List Nat}{n:Nat}{t:TypeId}{fs:Array Field}{cs:List Value}{parts:List (DataW H×List MemPlace)}(ht:P.underlying t=some (.struct fs))(hS:ziT P S fs.toList 0 (P.cellsOf t)=true)(hc:cs.length=P.cellsOf t)
  (ih:∀u cs' d ps,zaH u S=true->DataW.trod enc P W 0 (fun _=>true) true n u cs'=some (d,ps)->zex W P n u cs' d)
  (h:(fs.toList.mapM fun f=>DataW.trod enc P W 0 (fun _=>true) true n f.type ((cs.drop f.offset).take (P.cellsOf f.type)))=some parts):zex W P (n+1) t cs (.agg (parts.map (·.1))):=by
 obtain⟨hlen,hget⟩:=zfw h;obtain⟨hm,hflat⟩:=zja hS hc;have hwf:∀(i:Nat) f y,fs.toList[i]? = some f->(parts.map (·.1))[i]? = some y->zex W P n f.type ((cs.drop f.offset).take (P.cellsOf f.type)) y:=fun i f y hf hy=>by
  obtain⟨z,h1,h2⟩:=hget i f hf;rw[yb9,h1]at hy;cases hy;exact ih _ _ _ _ (hm f (List.mem_of_getElem? hf)) h2
 refine⟨?_,fun L hL=>?_⟩
 ·show wfD P (n+1) t (.agg (parts.map (·.1)));unfold wfD;rw[ht];exact⟨by rw[yb7,hlen],fun i f y hf hy=>(hwf i f y hf hy).1⟩
 ·let items:List (TypeId×List Value×DataW H):=(fs.toList.zip (parts.map (·.1))).map fun p=>(p.1.type,(cs.drop p.1.offset).take (P.cellsOf p.1.type),p.2)
  have hitems:∀p∈items,zex W P n p.1 p.2.1 p.2.2:=fun p hp=>by
   obtain⟨⟨f,y⟩,h1,rfl⟩:=List.mem_map.1 hp;obtain⟨i,hi⟩:=List.mem_iff_getElem?.1 h1;obtain⟨h2,h3⟩:=zq7 hi;exact hwf i f y h2 h3
  obtain⟨L',xss,g1,g2,g3,g4,g5,g6⟩:=zfq items hitems L hL;have hz:∀(l:List Field) (r:List (DataW H)),r.length=l.length->((l.zip r).map fun p=>(p.1.type,(cs.drop p.1.offset).take (P.cellsOf p.1.type),p.2)).flatMap (fun p=>p.2.1)=l.flatMap fun f=>(cs.drop f.offset).take (P.cellsOf f.type):=by
   intro l
   induction l with
   |nil=>intro r _;rfl
   |cons f l ihl=>
    intro r hr;cases r with
    |nil=>simp at hr
    |cons y r=>simp only[List.zip_cons_cons,List.map_cons,List.flatMap_cons];rw[ihl r (by simpa using hr)]
  refine⟨L',xss.flatten,g1,?_,g4,?_⟩
  ·rw[g3,hz _ _ (by rw[yb7,hlen]),hflat,List.drop_zero]
  ·have hs:svD P (n+1) t (.agg (parts.map (·.1)))=(fs.toList.zip (parts.map (·.1))).flatMap fun p=>svD P n p.1.type p.2:=by
    show(match P.underlying t,(DataW.agg (parts.map (·.1)):DataW H)with |_,_=>_)=_;simp only[svD,ht]
   rw[hs];have:(items.flatMap fun p=>svD P n p.1 p.2.2)=(fs.toList.zip (parts.map (·.1))).flatMap fun p=>svD P n p.1.type p.2:=by
    show((fs.toList.zip (parts.map (·.1))).map _).flatMap _=_;rw[List.flatMap_map]
   rw[this]at g5;exact g5
theorem zgm{A B:Type}{f g:A->List B}:∀{l:List A},(∀x∈l,f x=g x)->l.flatMap f=l.flatMap g
 |[],_=>rfl
 |x::l,h=>by rw[List.flatMap_cons,List.flatMap_cons,h x (ya5 ..),zgm fun y hy=>h y (ya4 _ hy)]
theorem zfP{cs:List Value}{sz:Nat}:∀{n a:Nat},cs.length=(a+n)*sz->((List.range' a n).flatMap fun i=>(cs.drop (i*sz)).take sz)=cs.drop (a*sz)
 |0,a,h=>by rw[Nat.add_zero]at h;rw[List.range'_zero,List.flatMap_nil,List.drop_eq_nil_of_le (by omega)]
 |n+1,a,h=>by
  rw[List.range'_succ,List.flatMap_cons,zfP (a:=a+1) (n:=n) (by rw[h];congr 1;omega),show(a+1)*sz=a*sz+sz by rw[Nat.add_mul,Nat.one_mul],<- List.drop_drop];exact List.take_append_drop _ _
theorem znw{n k:Nat}{t e:TypeId}{cs:List Value}{parts:List (DataW H×List MemPlace)}(ht:P.underlying t=some (.array k e))(hc:cs.length=k*P.cellsOf e)
  (ih:∀cs' d ps,DataW.trod enc P W 0 (fun _=>true) true n e cs'=some (d,ps)->zex W P n e cs' d)
  (h:((List.range k).mapM fun i=>DataW.trod enc P W 0 (fun _=>true) true n e ((cs.drop (i*P.cellsOf e)).take (P.cellsOf e)))=some parts):zex W P (n+1) t cs (.agg (parts.map (·.1))):=by
 obtain⟨hlen,hget⟩:=zfw h;have hwf:∀(i:Nat) y,(parts.map (·.1))[i]? = some y->zex W P n e ((cs.drop (i*P.cellsOf e)).take (P.cellsOf e)) y:=fun i y hy=>by
  rw[yb9]at hy;cases hp:parts[i]? with
  |none=>rw[hp]at hy;cases hy
  |some z=>
   rw[hp]at hy;cases hy;have hi:i<k:=by have:=(List.getElem?_eq_some_iff.1 hp).1;rw[hlen,List.length_range]at this;exact this
   obtain⟨z',h1,h2⟩:=hget i i (by rw[List.getElem?_range hi]);rw[hp]at h1;cases h1;exact ih _ _ _ h2
 refine⟨?_,fun L hL=>?_⟩
 ·unfold wfD;rw[ht];refine⟨by rw[yb7,hlen,List.length_range],fun y hy=>?_⟩;obtain⟨i,hi⟩:=List.mem_iff_getElem?.1 hy;exact(hwf i y hi).1
 ·let items:List (TypeId×List Value×DataW H):=((List.range k).zip (parts.map (·.1))).map fun p=>(e,(cs.drop (p.1*P.cellsOf e)).take (P.cellsOf e),p.2)
  have hitems:∀p∈items,zex W P n p.1 p.2.1 p.2.2:=fun p hp=>by
   obtain⟨⟨j,y⟩,h1,rfl⟩:=List.mem_map.1 hp;obtain⟨i,hi⟩:=List.mem_iff_getElem?.1 h1;obtain⟨h2,h3⟩:=zq7 hi;have hij:i=j:=by
    have hik:i<k:=by have:=(List.getElem?_eq_some_iff.1 h2).1;rwa [List.length_range]at this
    rw[List.getElem?_range hik]at h2;cases h2;rfl
   subst hij;exact hwf i y h3
  obtain⟨L',xss,g1,g2,g3,g4,g5,g6⟩:=zfq items hitems L hL;have hz:∀(l:List Nat) (r:List (DataW H)),r.length=l.length->((l.zip r).map fun p=>((e:TypeId),(cs.drop (p.1*P.cellsOf e)).take (P.cellsOf e),p.2)).flatMap (fun p=>p.2.1)=l.flatMap fun i=>(cs.drop (i*P.cellsOf e)).take (P.cellsOf e):=by
   intro l
   induction l with
   |nil=>intro r _;rfl
   |cons f l ihl=>
    intro r hr;cases r with
    |nil=>simp at hr
    |cons y r=>simp only[List.zip_cons_cons,List.map_cons,List.flatMap_cons];rw[ihl r (by simpa using hr)]
  have hy:∀(l:List Nat) (r:List (DataW H)),r.length=l.length->(((l.zip r).map fun p=>((e:TypeId),(cs.drop (p.1*P.cellsOf e)).take (P.cellsOf e),p.2)).flatMap fun p=>svD P n p.1 p.2.2)=r.flatMap fun y=>svD P n e y:=by
   intro l
   induction l with
   |nil=>intro r hr;cases r with |nil=>rfl |cons _ _=>simp at hr
   |cons f l ihl=>
    intro r hr;cases r with
    |nil=>simp at hr
    |cons y r=>simp only[List.zip_cons_cons,List.map_cons,List.flatMap_cons];rw[ihl r (by simpa using hr)]
  refine⟨L',xss.flatten,g1,?_,g4,?_⟩
  ·rw[g3,hz _ _ (by rw[yb7,hlen]),List.range_eq_range',zfP (by rw[Nat.zero_add];exact hc),Nat.zero_mul,List.drop_zero]
  ·have hs:svD P (n+1) t (.agg (parts.map (·.1)))=(parts.map (·.1)).flatMap fun y=>svD P n e y:=by simp only[svD,ht]
   rw[hs,<- hy _ _ (by rw[yb7,hlen])];exact g5
theorem zl6{a:Addr}{n:Nat}{cs:List Value}(h:W.cells? 0 a n=some cs):cs.length=n/\∀i,i<n->∃v,cs[i]? = some v/\W.cell? (a.add i)=some v:=by
 unfold World.cells? at h;rw[if_pos (Nat.zero_le _)]at h;obtain⟨h1,h2⟩:=zfw h;rw[List.length_range]at h1;refine⟨h1,fun i hi=>?_⟩;obtain⟨v,h3,h4⟩:=h2 i i (by rw[List.getElem?_range hi]);exact⟨v,h3,h4⟩
theorem zlb{a:Addr}{v:Value}(h:W.cell? a=some v):a.spot=none/\∃c ty fr,W.heap[a.block]? = some (.cells c ty fr)/\c[a.off]? = some v:=by
 unfold World.cell? at h;split at h
 ·rename_i c ty fr hc;split at h
  ·cases h
  ·rename_i hs;refine⟨by cases hsp:a.spot with |none=>rfl |some _=>rw[hsp]at hs;exact absurd rfl hs,c,ty,fr,hc,h⟩
 ·cases h
theorem zra(a:Addr)(i j:Nat):(a.add i).add j=a.add (i+j):=by
 unfold Addr.add;by_cases h1:i=0<;>by_cases h2:j=0<;>simp[h1,h2];omega
theorem zm9{n:Nat}{t e:TypeId}{a:Addr}{len cap:Nat}{elems rest:List (DataW H×List MemPlace)}(ht:P.underlying t=some (.slice e))(hsz:0<P.cellsOf e)(hle:len<=cap)(hmax:cap<=maxLen)
  (ih:∀cs' d ps,DataW.trod enc P W 0 (fun _=>true) true n e cs'=some (d,ps)->zex W P n e cs' d)
  (h1:((List.range len).mapM fun i=>(W.cells? 0 (a.add (i*P.cellsOf e)) (P.cellsOf e)).bind (DataW.trod enc P W 0 (fun _=>true) true n e))=some elems)
  (h2:((List.range (cap - len)).mapM fun j=>(W.cells? 0 (a.add ((len+j)*P.cellsOf e)) (P.cellsOf e)).bind (DataW.trod enc P W 0 (fun _=>true) true n e))=some rest):
  zex W P (n+1) t [.slice (some a) len cap] (.slice (elems.map (·.1)) (rest.map (·.1))):=by
 obtain⟨hl1,hg1⟩:=zfw h1;obtain⟨hl2,hg2⟩:=zfw h2;rw[List.length_range]at hl1 hl2;have hone:∀i,i<cap->∃cs y,W.cells? 0 (a.add (i*P.cellsOf e)) (P.cellsOf e)=some cs/\(elems++rest)[i]? = some y/\zex W P n e cs y.1:=fun i hi=>by
  by_cases hq:i<len
  ·obtain⟨y,g1,g2⟩:=hg1 i i (by rw[List.getElem?_range hq]);cases hc:W.cells? 0 (a.add (i*P.cellsOf e)) (P.cellsOf e) with
   |none=>rw[hc]at g2;cases g2
   |some cs=>
    rw[hc]at g2;exact⟨cs,y,rfl,by rw[yb8 (by omega)];exact g1,ih cs y.1 y.2 g2⟩
  ·obtain⟨y,g1,g2⟩:=hg2 (i - len) (i - len) (by rw[List.getElem?_range (by omega)]);rw[show len+(i - len)=i by omega]at g2;cases hc:W.cells? 0 (a.add (i*P.cellsOf e)) (P.cellsOf e) with
   |none=>rw[hc]at g2;cases g2
   |some cs=>
    rw[hc]at g2;exact⟨cs,y,rfl,by rw[yd0 (by omega),hl1];exact g1,ih cs y.1 y.2 g2⟩
 have hwf:∀(i:Nat) y,(elems.map (·.1))[i]? = some y->wfD P n e y:=fun i y hy=>by
  rw[yb9]at hy;cases hp:elems[i]? with
  |none=>rw[hp]at hy;cases hy
  |some z=>
   rw[hp]at hy;cases hy;have hi:=(List.getElem?_eq_some_iff.1 hp).1;obtain⟨cs,y',g1,g2,g3⟩:=hone i (by omega);rw[yb8 hi,hp]at g2;cases g2;exact g3.1
 refine⟨?_,fun L hL=>?_⟩
 ·unfold wfD;rw[ht];refine⟨by rw[yb7,hl1];omega,fun y hy=>?_⟩;obtain⟨i,hi⟩:=List.mem_iff_getElem?.1 hy;exact hwf i y hi
 ·have hs:svD P (n+1) t (.slice (elems.map (·.1)) (rest.map (·.1)))=[.isl (P.cellsOf e) (elems.map (·.1)).length fun i=>match(elems.map (·.1))[i]? with
    |some y=>svD P n e y
    |none=>[]]:=by simp only[svD,ht]
  rw[hs,yb7,hl1];rcases Nat.eq_zero_or_pos cap with h0 |h0
  ·obtain rfl:len=0:=by omega
   subst h0;exact⟨[],[.void a],by simpa using hL,rfl,rfl,.cons .islV .nil⟩
  ·
   have hcell:∀j,j<cap*P.cellsOf e->∃v,W.cell? (a.add j)=some v:=fun j hj=>by
    obtain⟨cs,y,g1,_,_⟩:=hone (j / P.cellsOf e) (Nat.div_lt_of_lt_mul (by rw[Nat.mul_comm];exact hj));obtain⟨v,_,g2⟩:=(zl6 g1).2 (j%P.cellsOf e) (Nat.mod_lt _ hsz);refine⟨v,?_⟩;rw[zra]at g2;rw[show j / P.cellsOf e*P.cellsOf e+j%P.cellsOf e=j by rw[Nat.mul_comm];exact Nat.div_add_mod j _]at g2;exact g2
   have h00:0<cap*P.cellsOf e:=Nat.mul_pos h0 hsz;obtain⟨v0,hv0⟩:=hcell 0 h00;have hadd0:a.add 0=a:=if_pos rfl;rw[hadd0]at hv0;obtain⟨hsp,C,ty,fr,hC,_⟩:=zlb hv0;have hCj:∀j v,W.cell? (a.add j)=some v->C[a.off+j]? = some v:=fun j v hv=>by
    obtain⟨_,C',ty',fr',g1,g2⟩:=zlb hv;have hb:(a.add j).block=a.block:=by unfold Addr.add;split<;>rfl
    have ho:(a.add j).off=a.off+j:=by unfold Addr.add;split<;>simp_all
    rw[hb,hC]at g1;cases g1;rw[ho]at g2;exact g2
   have hCs:a.off+cap*P.cellsOf e<=C.size:=by
    obtain⟨v,hv⟩:=hcell (cap*P.cellsOf e - 1) (by omega);have:=hCj _ v hv;have:=(Array.getElem?_eq_some_iff.1 this).1;omega
   let items:List (TypeId×List Value×DataW H):=(List.range cap).map fun i=>(e,(C.toList.drop (a.off+i*P.cellsOf e)).take (P.cellsOf e),(((elems++rest)[i]?).map (·.1)).getD .nil)
   have hitem:∀i,i<cap->zex W P n e ((C.toList.drop (a.off+i*P.cellsOf e)).take (P.cellsOf e)) ((((elems++rest)[i]?).map (·.1)).getD .nil):=fun i hi=>by
    obtain⟨cs,y,g1,g2,g3⟩:=hone i hi;have hcs:(C.toList.drop (a.off+i*P.cellsOf e)).take (P.cellsOf e)=cs:=by
     obtain⟨k1,k2⟩:=zl6 g1;apply List.ext_getElem?;intro j;rw[List.getElem?_take];by_cases hj:j<P.cellsOf e
     ·rw[if_pos hj,List.getElem?_drop];obtain⟨v,k3,k4⟩:=k2 j hj;rw[zra]at k4;have:=hCj _ v k4;rw[k3,show a.off+i*P.cellsOf e+j=a.off+(i*P.cellsOf e+j)by omega];rw[Array.getElem?_toList];exact this
     ·rw[if_neg hj,List.getElem?_eq_none (by omega)]
    rw[hcs,g2];exact g3
   have hitems:∀p∈items,zex W P n p.1 p.2.1 p.2.2:=fun p hp=>by
    obtain⟨i,hi,rfl⟩:=List.mem_map.1 hp;exact hitem i (List.mem_range.1 hi)
   obtain⟨L',xss,g1,g2,g3,g4,g5,g6⟩:=zfq items hitems L hL;have hil:items.length=cap:=by simp[items]
   have hflat:(items.flatMap fun p=>p.2.1)=(C.toList.drop a.off).take (cap*P.cellsOf e):=by
    show((List.range cap).map _).flatMap _=_;rw[List.flatMap_map,List.range_eq_range'];have:=zfP (cs:=(C.toList.drop a.off).take (cap*P.cellsOf e)) (sz:=P.cellsOf e) (n:=cap) (a:=0) (by rw[List.length_take,List.length_drop,Array.length_toList,Nat.zero_add];omega);rw[Nat.zero_mul,List.drop_zero]at this;rw[<- this];refine zgm fun i hi=>?_
    have hi:i<cap:=by simpa using hi
    have hm:=zci (sz:=P.cellsOf e) hi;simp only;rw[List.drop_take,List.take_take,List.drop_drop,Nat.min_eq_left (by omega)]
   let b:Blk:=⟨a.block,a.off,0,0⟩
   have hsnoc:FwOk W ((L++L')++[(b,xss.flatten)]):=by
    refine g1.snoc g4 (vs:=(C.toList.drop a.off).take (cap*P.cellsOf e)) (pre:=C.toList.take a.off) (suf:=C.toList.drop (a.off+cap*P.cellsOf e)) (ty:=ty) (fr:=fr) ?_ (by rw[g3,hflat]) ?_
    ·rw[List.length_take,Array.length_toList];show min a.off C.size=a.off;omega
    ·show W.heap[a.block]? = _;rw[hC];congr 2;rw[yc1,<- List.drop_drop,List.take_append_drop,List.take_append_drop]
   rw[yc1]at hsnoc;have he:Env.le (zlP (L++L')) (zlP (L++(L'++[(b,xss.flatten)]))):=by rw[<- yc1];exact zhs _ _
   have hr:(roW (L++L')).le (roW (L++(L'++[(b,xss.flatten)]))):=by rw[<- yc1];exact zuw _ _
   have htag:(L++(L'++[(b,xss.flatten)]))[(L++L').length]? = some (b,xss.flatten):=by
    rw[<- yc1,yd0 (Nat.le_refl _),Nat.sub_self];rfl
   refine⟨L'++[(b,xss.flatten)],[.slc (64+(L++L').length) 0 len cap],hsnoc,?_,rfl,.cons ?_ .nil⟩
   ·have hen:zlP (L++(L'++[(b,xss.flatten)])) (64+(L++L').length)=some b:=by
     unfold zlP zo8;rw[if_neg (by omega),Nat.add_sub_cancel_left,yb9,htag];rfl
    simp only[denL,den,hen,yc5,Option.bind_some];have:(⟨b.blk,b.off+0,none⟩:Addr)=a:=by
     obtain⟨ab,ao,asp⟩:=a;cases hsp;rfl
    rw[this]
   ·have hxl:∀i,i<cap->∃xs,xss[i]? = some xs/\xs.length=P.cellsOf e/\RepL (roW (L++L')) noE (svD P n e ((((elems++rest)[i]?).map (·.1)).getD .nil)) xs:=fun i hi=>by
     obtain⟨xs,k1,k2,k3⟩:=g6 i _ (by rw[yb9,List.getElem?_range hi];rfl);refine⟨xs,k1,?_,k3⟩;rw[k2,List.length_take,List.length_drop,Array.length_toList];have:=zci (sz:=P.cellsOf e) hi;omega
    have hseg:∀(xss:List (List CV)) (i:Nat) (xs:List CV),(∀(j:Nat) ys,xss[j]? = some ys->ys.length=P.cellsOf e)->xss[i]? = some xs->seg xss.flatten (i*P.cellsOf e) (P.cellsOf e)=xs:=by
     intro xss
     induction xss with
     |nil=>intro i xs _ h;simp at h
     |cons ys r ihr=>
      intro i xs hall hi;have h0:=hall 0 ys rfl;cases i with
      |zero=>
       simp at hi;subst hi;unfold seg;rw[Nat.zero_mul,List.drop_zero,yb3,<- h0,List.take_left]
      |succ i=>
       have:=ihr i xs (fun j zs hj=>hall (j+1) zs (by simpa using hj)) (by simpa using hi);unfold seg at this ⊢;rw[yb3,Nat.add_mul,Nat.one_mul,Nat.add_comm,<- List.drop_drop,<- h0,List.drop_left];rw[h0];exact this
    have hall:∀(j:Nat) ys,xss[j]? = some ys->ys.length=P.cellsOf e:=fun j ys hj=>by
     have hjl:=(List.getElem?_eq_some_iff.1 hj).1;obtain⟨xs,k1,k2,_⟩:=hxl j (by omega);rw[hj]at k1;cases k1;exact k2
    have hflen:xss.flatten.length=cap*P.cellsOf e:=by
     rw[<- zad g3,hflat,List.length_take,List.length_drop,Array.length_toList];omega
    have hro:roW (L++(L'++[(b,xss.flatten)])) (64+(L++L').length)=some (.ro xss.flatten):=by
     unfold roW;rw[if_neg (by omega),Nat.add_sub_cancel_left,htag];rfl
    refine .islS hro rfl ?_ hle g4 fun i hi=>?_
    ·rw[hflen,Nat.zero_add];exact yd2 _ hle
    ·obtain⟨xs,k1,k2,k3⟩:=hxl i (by omega);rw[Nat.zero_add,hseg xss i xs hall k1];have hie:i<elems.length:=by omega
     rw[yb8 hie]at k3;rw[yb9];cases hp:elems[i]? with
     |none=>rw[List.getElem?_eq_none_iff]at hp;omega
     |some z=>
      rw[hp]at k3;exact k3.mono hr (DEnv.le.refl _)
theorem zpW{S:List Nat}(hS:zr3 P S=true):∀(n:Nat) (t:TypeId) (cs:List Value) (d:DataW H) (ps:List MemPlace),zaH t S=true->DataW.trod enc P W 0 (fun _=>true) true n t cs=some (d,ps)->zex W P n t cs d:=by
 have good:∀{t:TypeId},zaH t S=true->znv P S t=true:=fun ht=>List.all_eq_true.1 hS _ (memN_iff.1 ht)
 intro n
 induction n with
 |zero=>intro t cs d ps _ h;simp[DataW.trod]at h
 |succ n ih=>
  intro t cs d ps ht h;have hg:=good ht;rw[DataW.trod_step]at h;unfold DataW.trodStep at h;unfold znv at hg;split at h
  ·rename_i b hu;cases h;exact⟨by unfold wfD;rw[hu];trivial,fun L hL=>⟨[],[.bool b],by simpa using hL,rfl,rfl,by simp only[svD,hu];exact .cons (.cv rfl) .nil⟩⟩
  ·rename_i k k' x hu;split at h
   ·rename_i hc;obtain⟨rfl,hw⟩:=hc;cases h;exact⟨by unfold wfD;rw[hu];exact⟨rfl,hw⟩,fun L hL=>⟨[],[.int k' x],by simpa using hL,rfl,rfl,by simp only[svD,hu];exact .cons (.cv rfl) .nil⟩⟩
   ·cases h
  ·rename_i hu;rw[hu]at hg;cases hg
  ·rename_i s hu;split at h
   ·rename_i hc;cases h;refine⟨by unfold wfD;rw[hu];simpa using hc,fun L hL=>⟨[],[.str (s.data.toList.map UInt8.toNat)],by simpa using hL,?_,rfl,by simp only[svD,hu];exact .cons (.cv rfl) .nil⟩⟩;have hs:(⟨((s.data.toList.map UInt8.toNat).map UInt8.ofNat).toArray⟩:ByteArray)=s:=by
     rw[List.map_map];have:(UInt8.ofNat ∘ UInt8.toNat)=id:=by funext x;simp
     rw[this,List.map_id]
    simp only[denL,den,hs,yc5,Option.bind_some]
   ·cases h
  ·rename_i hu;rw[hu]at hg;cases hg
  ·rename_i hu;rw[hu]at hg;cases hg
  ·rename_i e hu;cases h;exact⟨by unfold wfD;rw[hu];trivial,fun L hL=>⟨[],[.nils],by simpa using hL,rfl,rfl,by simp only[svD,hu];exact .cons .islN .nil⟩⟩
  ·rename_i e a len cap hu;rw[hu]at hg;simp only[ya2]at hg;split at h
   ·rename_i hc;simp only[if_true,ya3,yc9]at h;obtain⟨elems,h1,rest,h2,h3⟩:=h;simp only[yc4]at h3;obtain⟨rfl,_⟩:=h3;exact zm9 hu (ya9 hg.2.1) hc.2.1 hc.2.2 (fun cs' d ps hh=>ih e cs' d ps hg.1 hh) h1 h2
   ·cases h
  ·rename_i fs cs' hu;rw[hu]at hg;split at h
   ·rename_i hc;simp only[ya3]at h;obtain⟨parts,h1,h2⟩:=h;simp only[yc4]at h2;obtain⟨rfl,_⟩:=h2;exact zlq hu hg hc ih h1
   ·cases h
  ·rename_i cs' k e hu;rw[hu]at hg;simp only[ya2]at hg;split at h
   ·rename_i hc;simp only[ya3]at h;obtain⟨parts,h1,h2⟩:=h;simp only[yc4]at h2;obtain⟨rfl,_⟩:=h2;exact znw hu (hc.trans (yb0 hg.2)) (fun cs'' d ps hh=>ih e cs'' d ps hg.1 hh) h1
   ·cases h
  all_goals first
   |(cases h;done)
   |(rename_i hu;rw[hu]at hg;cases hg;done)
   |(exfalso;simp_all;done)
end
end Go.Cx
namespace Go.Cx
open Go Go.RowKit Go.WideShapes Go.ChangeShapes
theorem zk2{g:Nat}{cs:List CV}:∀{L:FWs} {k:Nat},(g,cs)∈zpt k L->∃i b,g=k+i/\L[i]? = some (b,cs)
 |[],k,h=>by cases h
 |p::r,k,h=>by
  rcases List.mem_cons.1 h with h |h
  ·cases h;exact⟨0,p.1,rfl,rfl⟩
  ·obtain⟨i,b,h1,h2⟩:=zk2 (L:=r) h;exact⟨i+1,b,by omega,h2⟩
theorem ziG{K:Nat}:∀{L:FWs} {k t:Nat},(zf0 K (zpt k L)).get t=if t<k then none else(L[t - k]?).map fun p=>.ro p.2
 |[],k,t=>by
  show(⟨K,.nil⟩:Mem).get t=_;split<;>simp[Mem.get,Tr.get_nil]
 |p::r,k,t=>by
  show((zf0 K (zpt (k+1) r)).put k (.ro p.2)).get t=_;rw[Mem.get_put,ziG (L:=r)];by_cases h1:t=k
  ·subst h1;simp
  ·rw[if_neg h1];by_cases h2:t<k
   ·rw[if_pos h2,if_pos (by omega)]
   ·rw[if_neg h2,if_neg (by omega),show t - k=(t - (k+1))+1 by omega,yc6]
theorem zoK{K:Nat}{M:List (Nat×List CV)}:∀{l:List (Nat×List CV)} {t:Nat},(zf0 K (l++M)).get t=match l.find? fun p=>p.1==t with
  |some p=>some (.ro p.2)
  |none=>(zf0 K M).get t
 |[],t=>rfl
 |(g,cs)::r,t=>by
  show((zf0 K (r++M)).put g (.ro cs)).get t=_;rw[Mem.get_put,zoK (l:=r)];by_cases h:t=g
  ·subst h;simp
  ·rw[if_neg h,List.find?_cons];have:(g==t)=false:=by simpa using fun hh:g=t=>h hh.symm
   simp only[this]
section
variable{H:Type}{enc:TypeId×Value->H}{P:Program}{W:World}
def RowsV(W:World)(l:List (Nat×List CV)):Prop:=(l.map (·.1)).Nodup/\∀g cs,(g,cs)∈l->g<64/\cs.all one=true/\∃vs ty fr,(∀e,denL e cs=some vs)/\W.heap[g]? = some (.cells vs.toArray ty fr)
def zlQ(W:World)(L:FWs)(l:List (Nat×List CV)):Prop:=(l.map (·.1)).Nodup/\∀g cs,(g,cs)∈l->g<64/\cs.all one=true/\∃vs ty fr,denL (zlP L) cs=some vs/\W.heap[g]? = some (.cells vs.toArray ty fr)
theorem RowsV.to{l:List (Nat×List CV)}(h:RowsV W l)(L:FWs):zlQ W L l:=
 ⟨h.1,fun g cs hg=>by obtain⟨h1,h2,vs,ty,fr,h3,h4⟩:=h.2 g cs hg;exact⟨h1,h2,vs,ty,fr,h3 _,h4⟩⟩
theorem zsK{X:Ext}(hX:zkz P X)(hm:P.follows .mixedOrders=true){l:List (Nat×List CV)}{f:FuncId}{args:List SV}{xs:List CV}{vs:List Value}{L:FWs}(hl:zlQ W L l)(hL:FwOk W L)(ha:RepL (roW L) noE args xs)(hd:denL (zlP L) xs=some vs)
  (h:DSpec P X l f args [] fun v _=>v=.cv (.bool true)):Calls P f vs.toArray W fun en w'=>en=.returned (.bool true)/\Below W.heap.size W w':=by
 let m:Mem:=zf0 (64+(L.map (·.1)).length) (l++zpt 64 L)
 have hget:∀t,m.get t=match l.find? fun p=>p.1==t with
   |some p=>some (.ro p.2)
   |none=>if t<64 then none else(L[t - 64]?).map fun p=>.ro p.2:=fun t=>by
  show(zf0 _ (l++zpt 64 L)).get t=_;rw[zoK];cases l.find? fun p=>p.1==t with
  |some p=>rfl
  |none=>exact ziG
 have hmem:∀g cs,(g,cs)∈l->m.get g=some (.ro cs):=fun g cs hm=>by
  have:l.find? (fun p=>p.1==g)=some (g,cs):=by
   have hn:=hl.1;clear hget hL ha hd h hl
   induction l with
   |nil=>cases hm
   |cons p r ih=>
    simp only[List.map_cons,List.nodup_cons]at hn;rcases List.mem_cons.1 hm with h1 |h1
    ·subst h1;simp
    ·have hne:(p.1==g)=false:=by
      simp only[beq_eq_false_iff_ne,ne_eq];intro hh;exact hn.1 (List.mem_map.2 ⟨_,h1,hh.symm⟩)
     rw[List.find?_cons,hne];exact ih h1 hn.2
  rw[hget,this]
 have hfind:∀t,64<=t->l.find? (fun p=>p.1==t)=none:=fun t ht=>by
  rw[List.find?_eq_none];intro p hp hq;have:=(hl.2 p.1 p.2 hp).1;have:p.1=t:=by simpa using hq
  omega
 have hnx:m.nxt=64+L.length:=by show(zf0 _ _).nxt=_;rw[zjM,yb7]
 have hwf:Wf m:=fun t ht=>by
  rw[hnx]at ht;rw[hget,hfind t (by omega)];simp only;rw[if_neg (by omega),List.getElem?_eq_none (by omega)];rfl
 let R:RO:=fun t=>m.get t
 have hmk:Mk R m:=⟨hwf,fun t o ho=>ho⟩
 have hle:(roW L).le R:=fun t o ho=>by
  unfold roW at ho;split at ho
  ·cases ho
  ·rename_i hq;show m.get t=some o;rw[hget,hfind t (by omega)];simp only;rw[if_neg hq];exact ho
 have hgl:GlbOk l R:=fun g cs hm=>⟨.ro cs,hmem g cs hm,rfl,(hl.2 g cs hm).2.1⟩
 have hrel:Rel (zvk W) (zlP L) m W:=by
  refine zx1 fun g cs hm=>?_
  rcases List.mem_append.1 hm with hm |hm
  ·obtain⟨h1,h2,vs,ty,fr,h3,h4⟩:=hl.2 g cs hm;exact⟨h2,⟨g,0,0,0⟩,vs,[],[],ty,fr,zmw h1,rfl,h3,by simpa using h4,fun _=>rfl⟩
  ·obtain⟨i,b,h1,h2⟩:=zk2 hm;obtain⟨h3,vs,pre,suf,ty,fr,h4,h5,h6⟩:=hL i _ h2;refine⟨h3,b,vs,pre,suf,ty,fr,?_,h4,h5,h6,fun hh=>absurd hh (by omega)⟩;unfold zo8;rw[if_neg (by omega),show g - 64=i by omega,yb9,h2];rfl
 obtain⟨y,m',R',e',v,O',hev,_,_,hrep,_,hpost⟩:=h.run ⟨m,[],R⟩ R noE m xs hgl (MSat.empty hmk) (ha.mono hle (DEnv.le.refl _));subst hpost;cases hrep;obtain⟨n,hn⟩:=hev;refine(zkW hX hm (hn n (Nat.le_refl _)) (fun _ _ h=>by cases h) hd hrel).mono ?_;rintro en w' ⟨e',V,_,hV,rfl,hrel⟩;refine⟨by rw[zbv hV],hrel.frm.os,hrel.frm.tape,hrel.frm.output,hrel.frm.size,hrel.frm.block⟩
theorem zmj{W':World}(hb:Below W.heap.size W W'){p:MemPlace}(hp:p.block<W.heap.size):W.sameAt W' p:=by
 cases p with
 |cell b off=>
  have h1:b<W.heap.size:=hp;show W'.cell? ⟨b,off,none⟩=W.cell? ⟨b,off,none⟩;unfold World.cell?;rw[hb.block b h1]
 |map b=>exact hb.block b hp
theorem ze5{W':World}(hb:Below W.heap.size W W'){base:Nat}{sp:Nat->Bool}{hd:Bool}:∀{ts:List TypeId} {vs:List Value} {ds:List (DataW H)} {ps:List MemPlace},DataW.TrodAll enc P W base sp hd ts vs ds ps->(∀p∈ps,p.block<W.heap.size)->DataW.TrodAll enc P W' base sp hd ts vs ds ps
 |[],[],[],_,h,_=>h
 |_::_,_::_,_::_,_,⟨p,q,⟨n,h1⟩,h2,e⟩,hp=>by
  subst e;exact⟨p,q,⟨n,DataW.trod_carry n _ _ _ h1 fun x hx=>zmj hb (hp x (List.mem_append_left _ hx))⟩,ze5 hb h2 fun x hx=>hp x (yc3 _ hx),rfl⟩
 |[],[],_::_,_,h,_=>h.elim
 |[],_::_,_,_,h,_=>h.elim
 |_::_,[],_,_,h,_=>h.elim
 |_::_,_::_,[],_,h,_=>h.elim
theorem znj{f:Func}{s:ChangeSpec}{apart fresh handsOn again:Bool}{W':World}{args:Array Value}{v:Value}{ds gs:List (DataW H)}{before pa pv:List MemPlace}
  (hW:DataW.Whole enc P f.params.toList s.vars apart W args.toList ds gs before)
  (hres:∀(b:Nat) (sp:Nat->Bool) (hd:Bool),DataW.TrodAll enc P W' b sp hd f.resultTypes.toList (v.resultList f.resultTypes.size) (s.fn H (ds++gs)).results [])
  (hargs:∀sp:Nat->Bool,(∀p∈before,sp p.block=true)->DataW.TrodAll enc P W' 0 sp true f.params.toList args.toList (s.fn H (ds++gs)).args pa)
  (hvars:∀sp:Nat->Bool,(∀p∈before,sp p.block=true)->DataW.TrodVars enc P W' sp s.vars (s.fn H (ds++gs)).vars pv)
  (hps:before=pa++pv) (hb:Below W.heap.size W W')
  (hok:∀(j:Nat) (t:TypeId) (r:Value),f.resultTypes[j]? = some t->(v.resultList f.resultTypes.size)[j]? = some r->Value.okWide P W' .any 0 t r):
  s.post enc P f apart fresh handsOn again W args v W':=by
 have lt:∀p∈before,p.block<W.heap.size:=fun p hp=>hW.lt p hp
 have old:∀p∈before,(fun b=>decide (b<W.heap.size)) p.block=true:=fun p hp=>by simpa using lt p hp
 have hkept:=hb.frame (· ∈ before);refine⟨ds,gs,before,[],pa,pv,hW,hres _ _ _,hargs _ old,hvars _ old,World.keptBut_mono (fun p hp=>?_) hkept,fun _=>?_⟩
 ·refine⟨hp,?_⟩;rw[hps]at hp;exact .inr (List.mem_append.1 hp)
 ·obtain⟨_,_,_,_,_,hz,hn⟩:=hW;refine⟨hok,_,_,([]++pa)++pv,⟨[]++pa,pv,trodAll_append (hargs _ (fun _ _=>rfl)) (hres _ _ _),hvars _ (fun _ _=>rfl),rfl,fun b off hp=>?_,fun ha=>?_⟩,fun p hp _=>?_⟩
  ·have hm:MemPlace.cell b off∈before:=by rw[hps];simpa using hp
   rw[hb.frozen (p:=⟨b,off,none⟩) (lt _ hm)];exact hz b off hm
  ·have:=hn ha;rw[hps]at this;simpa using this
  ·rw[hps];simpa using hp
theorem zte{f:Func}{s:ChangeSpec}{apart fresh handsOn again:Bool}{W':World}{args:Array Value}{ds:List (DataW H)}{before:List MemPlace}{v:Value}
  (hW:DataW.Whole enc P f.params.toList s.vars apart W args.toList ds [] before) (hvars:s.vars=[]) (hv:v=.bool true)
  (hlaid:laidOutB P=true) (hrows:mapsRowed P=true) (hfull:((List.range P.types.size).all fun t=>match P.underlying t with |some (.slice e)=>decide (0<P.cellsOf e) |_=>true)=true) (hps:∀t∈f.params.toList,t<P.types.size)
  (hs:(s.fn H ds).results=[.lit (.bool true)]/\(s.fn H ds).args=ds/\(s.fn H ds).vars=[])
  {tb:TypeId} (hr:f.resultTypes = #[tb]) (ht:P.underlying tb=some .bool) (hb:Below W.heap.size W W'):
  s.post enc P f apart fresh handsOn again W args v W':=by
 subst hv;have hW':=hW;obtain⟨p,q,hA,hV,rfl,_,_⟩:=hW';rw[hvars]at hV;have hq:q=[]:=hV;subst hq;rw[yc2]at hW;have hlt:∀x∈p,x.block<W.heap.size:=fun x hx=>hW.lt x hx
 refine znj (pa:=p) (pv:=[]) hW (fun b sp hd=>?_) (fun sp hsp=>?_) (fun sp _=>?_) (by rw[yc2]) hb (fun j t r h1 h2=>?_)
 ·rw[yc2,hs.1,hr];exact trodAll_mk1 (shut_bool ht _)
 ·rw[yc2,hs.2.1];exact ze5 hb (DataW.TrodAll.respare (kids_rows hlaid hrows) (fun t e hT hu=>slices_full_of P hfull t e hT hu) hps hA fun x hx=>hsp x hx) hlt
 ·rw[yc2,hs.2.2,hvars];rfl
 ·rw[hr]at h1 h2;have hj:j=0:=by
   cases j with
   |zero=>rfl
   |succ j=>simp at h1
  subst hj;simp at h1;subst h1;have:r=.bool true:=by simpa[Value.resultList]using h2.symm
  subst this;exact okWide_bool_mk ht _
end
end Go.Cx
namespace Go.Cx
open Go
mutual
inductive Same:SV->SV->Prop
 |refl (v:SV):Same v v
 |nils {sz:Nat} {el:Nat->List SV}:Same (.cv .nils) (.isl sz 0 el)
 |isl {sz n:Nat} {el el':Nat->List SV}:(∀i,i<n->el i=el' i)->Same (.isl sz n el) (.isl sz n el')
 |islD {sz n:Nat} {el el':Nat->List SV}:(∀i,i<n->SameL (el i) (el' i))->Same (.isl sz n el) (.isl sz n el')
 |islx {sz n:Nat} {el el':Nat->List SV}:(∀i,i<n->SameL (el i) (el' i))->Same (.islx sz n el) (.islx sz n el')
 |toX {sz n:Nat} {el el':Nat->List SV}:(∀i,i<n->SameL (el i) (el' i))->Same (.isl sz n el) (.islx sz n el')
 |nilX {sz:Nat} {el:Nat->List SV}:Same (.cv .nils) (.islx sz 0 el)
 |tup {a b:List SV}:SameL a b->Same (.tup a) (.tup b)
 |agg {a b:List SV}:SameL a b->Same (.agg a) (.agg b)
inductive SameL:List SV->List SV->Prop
 |nil:SameL [] []
 |cons {x y:SV} {a b:List SV}:Same x y->SameL a b->SameL (x::a) (y::b)
end
mutual
theorem Rep.same{R:RO}{e:DEnv}:∀{v v':SV} {x:CV},Same v v'->Rep R e v x->Rep R e v' x
 |_,_,_,.refl _,h=>h
 |_,_,_,.nils,h=>by cases h with |cv h=>exact .islN
 |_,_,_,.isl hq,h=>by
  cases h with
  |islN=>exact .islN
  |islV=>exact .islV
  |islS h1 h2 h3 h4 h0 h5=>exact .islS h1 h2 h3 h4 h0 fun i hi=>by rw[<- hq i hi];exact h5 i hi
  |islO h1 h2 h0 h3=>exact .islO h1 h2 h0 fun i hi=>by rw[<- hq i hi];exact h3 i hi
 |_,_,_,.islD hq,h=>by
  cases h with
  |islN=>exact .islN
  |islV=>exact .islV
  |islS h1 h2 h3 h4 h0 h5=>exact .islS h1 h2 h3 h4 h0 fun i hi=>RepL.same (hq i hi) (h5 i hi)
  |islO h1 h2 h0 h3=>exact .islO h1 h2 h0 fun i hi=>RepL.same (hq i hi) (h3 i hi)
 |_,_,_,.islx hq,h=>by
  cases h with
  |islE=>exact .islE
  |islx h=>cases h with
   |islN=>exact .islx .islN
   |islV=>exact .islx .islV
   |islS h1 h2 h3 h4 h0 h5=>exact .islx (.islS h1 h2 h3 h4 h0 fun i hi=>RepL.same (hq i hi) (h5 i hi))
   |islO h1 h2 h0 h3=>exact .islx (.islO h1 h2 h0 fun i hi=>RepL.same (hq i hi) (h3 i hi))
 |_,_,_,.toX hq,h=>by
  cases h with
  |islN=>exact .islx .islN
  |islV=>exact .islx .islV
  |islS h1 h2 h3 h4 h0 h5=>exact .islx (.islS h1 h2 h3 h4 h0 fun i hi=>RepL.same (hq i hi) (h5 i hi))
  |islO h1 h2 h0 h3=>exact .islx (.islO h1 h2 h0 fun i hi=>RepL.same (hq i hi) (h3 i hi))
 |_,_,_,.nilX,h=>by cases h with |cv h=>exact .islx .islN
 |_,_,_,.tup hs,h=>by cases h with |tup h=>exact .tup (RepL.same hs h)
 |_,_,_,.agg hs,h=>by cases h with |agg h=>exact .agg (RepL.same hs h)
theorem RepL.same{R:RO}{e:DEnv}:∀{vs vs':List SV} {xs:List CV},SameL vs vs'->RepL R e vs xs->RepL R e vs' xs
 |_,_,_,.nil,h=>by cases h;exact .nil
 |_,_,_,.cons h1 h2,h=>by cases h with |cons h3 h4=>exact .cons (Rep.same h1 h3) (RepL.same h2 h4)
end
theorem DSpecT.same{P:Program}{X:Ext}{gl:List (Nat×List CV)}{tk:List CV->Mem->Task}{args:List SV}{objs:List SObj}{post post':SV->List SObj->Prop}(h:DSpecT P X gl tk args objs post)(k:∀v O,post v O->∃v',Same v v'/\post' v' O):DSpecT P X gl tk args objs post':=
 ⟨fun G R e m xs h1 h2 h3=>by
  obtain⟨y,m',R',e',v,O',q1,q2,q3,q4,q5,q6⟩:=h.run G R e m xs h1 h2 h3;obtain⟨v',k1,k2⟩:=k v O' q6;exact⟨y,m',R',e',v',O',q1,q2,q3,Rep.same k1 q4,q5,k2⟩⟩
theorem DSpecT.arg{P:Program}{X:Ext}{gl:List (Nat×List CV)}{tk:List CV->Mem->Task}{args args':List SV}{objs:List SObj}{post:SV->List SObj->Prop}(h:DSpecT P X gl tk args objs post)(k:SameL args' args):DSpecT P X gl tk args' objs post:=
 ⟨fun G R e m xs h1 h2 h3=>h.run G R e m xs h1 h2 (RepL.same k h3)⟩
theorem DSpec.arg{P:Program}{X:Ext}{gl:List (Nat×List CV)}{f:FuncId}{args args':List SV}{objs:List SObj}{post:SV->List SObj->Prop}(h:DSpec P X gl f args objs post)(k:SameL args' args):DSpec P X gl f args' objs post:=DSpecT.arg h k
theorem DSpec.same{P:Program}{X:Ext}{gl:List (Nat×List CV)}{f:FuncId}{args:List SV}{objs:List SObj}{post post':SV->List SObj->Prop}(h:DSpec P X gl f args objs post)(k:∀v O,post v O->∃v',Same v v'/\post' v' O):DSpec P X gl f args objs post':=DSpecT.same h k
theorem DIterO.arg{P:Program}{X:Ext}{gl:List (Nat×List CV)}{f:FuncId}{args args':Nat->List SV}{objs:List SObj}{ys:Nat->Option (List SV)}{post:Gh->SV->List SObj->Prop}(h:DIterO P X gl f args objs ys post)(k:∀l,SameL (args' l) (args l)):DIterO P X gl f args' objs ys post:=
 ⟨fun h1 h2 h3 h4 h5 h6 h7 h8=>h.run h1 h2 h3 h4 h5 h6 h7 (RepL.same (k _) h8)⟩
theorem YLaw.same{P:Program}{X:Ext}{l:Nat}{ys ys':Nat->Option (List SV)}{b:Old}{I:Inv}(h:YLaw P X l ys' b I)(k:∀n vs,ys n=some vs->∃vs',ys' n=some vs'/\SameL vs vs'):YLaw P X l ys b I:=
 ⟨h.far,fun hi hw hm hy hr=>by
  obtain⟨vs',h1,h2⟩:=k _ _ hy;exact h.yl hi hw hm h1 (RepL.same h2 hr)⟩
end Go.Cx
namespace Go.Cx
open Go
inductive SameO:SObj->SObj->Prop
 |refl (o:SObj):SameO o o
 |list {ty:TypeId} {sz n:Nat} {el el':Nat->List SV}:(∀i,i<n->SameL (el i) (el' i))->SameO (.list ty sz n el) (.list ty sz n el')
 |cells {ty:TypeId} {a b:List SV}:SameL a b->SameO (.cells ty a) (.cells ty b)
inductive SameOs:List SObj->List SObj->Prop
 |nil:SameOs [] []
 |cons {x y:SObj} {a b:List SObj}:SameO x y->SameOs a b->SameOs (x::a) (y::b)
theorem SameO.live{x y:SObj}(h:SameO x y):x=.dead↔y=.dead:=by
 cases h with
 |refl=>exact Iff.rfl
 |list _=>exact⟨fun h=>(by cases h),fun h=>(by cases h)⟩
 |cells _=>exact⟨fun h=>(by cases h),fun h=>(by cases h)⟩
theorem OR.same{R:RO}{e:DEnv}{m:Mem}{x:CV}{a b:SObj}(hs:SameO a b)(h:OR R e m x a):OR R e m x b:=by
 cases hs with
 |refl=>exact h
 |list hq=>
  rcases h with h |⟨t,c,xs,h1,h2,h3,h4,h5,h6,h7⟩ |⟨t,xs,h1,h2,h3,h4,h5⟩
  ·exact .inl h
  ·exact .inr (.inl ⟨t,c,xs,h1,h2,h3,h4,h5,h6,fun i hi=>RepL.same (hq i hi) (h7 i hi)⟩)
  ·exact .inr (.inr ⟨t,xs,h1,h2,h3,h4,fun i hi=>RepL.same (hq i hi) (h5 i hi)⟩)
 |cells hq=>
  obtain⟨t,xs,h1,h2,h3⟩:=h;exact⟨t,xs,h1,h2,RepL.same hq h3⟩
theorem SameOs.at:∀{a b:List SObj},SameOs a b->∀(i:Nat),(∀y,b[i]? = some y->∃x,a[i]? = some x/\SameO x y)/\(∀x,a[i]? = some x->∃y,b[i]? = some y/\SameO x y)
 |_,_,.nil,i=>⟨fun y h=>by simp at h,fun x h=>by simp at h⟩
 |_,_,.cons h1 h2,0=>⟨fun y h=>by simp at h;subst h;exact⟨_,rfl,h1⟩,fun x h=>by simp at h;subst h;exact⟨_,rfl,h1⟩⟩
 |_,_,.cons h1 h2,i+1=>by
  have:=h2.at i;simpa using this
theorem MSat.same{G:Ctx}{R:RO}{e:DEnv}{O O':List SObj}{m:Mem}(hs:SameOs O O')(h:MSat G R e O m):MSat G R e O' m:=by
 refine⟨h.fr,h.sk,h.le,h.rn,h.own,h.inj,fun o so ho=>?_,fun o x hx=>?_⟩
 ·obtain⟨s1,h1,h2⟩:=(hs.at o).1 so ho;rcases h.ob o s1 h1 with h3 |⟨x,h3,h4⟩
  ·exact .inl (h2.live.1 h3)
  ·exact .inr ⟨x,h3,h4.same h2⟩
 ·obtain⟨s1,h1,h2⟩:=h.dom o x hx;obtain⟨s2,h3,h4⟩:=(hs.at o).2 s1 h1;exact⟨s2,h3,fun hd=>h2 (h4.live.2 hd)⟩
end Go.Cx
namespace Go.Cx
open Go
section
variable{H:Type}{P:Program}{n:Nat}{t:TypeId}{d:DataW H}
theorem zue{k:IntKind}(ht:P.underlying t=some (.int k))(h:wfD P n t d):∃x,d=.lit (.int k x)/\(Lit.int k x).wf=true/\svD P n t d=[.cv (.int k x)]:=by
 cases n with
 |zero=>exact h.elim
 |succ n=>
  cases d with
  |lit l=>
   cases l with
   |int k' x=>
    simp only[wfD,ht]at h;obtain⟨rfl,h⟩:=h;exact⟨x,rfl,h,by simp only[svD,ht]⟩
   |_=>simp only[wfD,ht]at h
  |_=>simp only[wfD,ht]at h
theorem zlo{fs:Array Field}(ht:P.underlying t=some (.struct fs))(h:wfD P n t d):∃m parts,n=m+1/\d=.agg parts/\parts.length=fs.toList.length/\(∀(i:Nat) f y,fs.toList[i]? = some f->parts[i]? = some y->wfD P m f.type y)/\svD P n t d=(fs.toList.zip parts).flatMap fun p=>svD P m p.1.type p.2:=by
 cases n with
 |zero=>exact h.elim
 |succ n=>
  cases d with
  |agg parts=>
   simp only[wfD,ht]at h;exact⟨n,parts,rfl,rfl,h.1,h.2,by simp only[svD,ht]⟩
  |_=>simp only[wfD,ht]at h
theorem znU{e:TypeId}(ht:P.underlying t=some (.slice e))(h:wfD P n t d):∃(m:Nat) (elems:List (DataW H)),n=m+1/\elems.length<=maxLen/\(∀y∈elems,wfD P m e y)/\∃el:Nat->List SV,svD P n t d=[.isl (P.cellsOf e) elems.length el]/\∀i y,elems[i]? = some y->el i=svD P m e y:=by
 cases n with
 |zero=>exact h.elim
 |succ n=>
  cases d with
  |nil=>exact⟨n,[],rfl,Nat.zero_le _,fun y hy=>(by cases hy),fun _=>[],(by simp only[svD,ht];rfl),fun i y h=>(by simp at h)⟩
  |slice elems cap=>
   simp only[wfD,ht]at h;exact⟨n,elems,rfl,h.1,h.2,_,(by simp only[svD,ht];rfl),fun i y hy=>(by simp only[hy])⟩
  |_=>simp only[wfD,ht]at h
theorem words{A B C:Type}[Inhabited B]{f:A->C}{g:B->C}:∀{l:List A},(∀y∈l,∃b,f y=g b)->∃r:List B,r.length=l.length/\∀i y,l[i]? = some y->f y=g (r.getD i default)
 |[],_=>⟨[],rfl,fun i y h=>by simp at h⟩
 |y::l,h=>by
  obtain⟨b,hb⟩:=h y ya5;obtain⟨r,h1,h2⟩:=words fun z hz=>h z (ya4 _ hz)
  refine⟨b::r,by simp[h1],fun i z hz=>?_⟩;cases i with
  |zero=>simp at hz;subst hz;simpa using hb
  |succ i=>simpa using h2 i z (by simpa using hz)
theorem ziD{e:TypeId}{B:Type}[Inhabited B]{g:B->List SV}(ht:P.underlying t=some (.slice e))(h:wfD P n t d)(hg:∀m (y:DataW H),wfD P m e y->∃b,svD P m e y=g b):∃r:List B,r.length<=maxLen/\∃v,svD P n t d=[v]/\Same v (.isl (P.cellsOf e) r.length fun i=>g (r.getD i default)):=by
 obtain⟨m,elems,_,h1,h2,el,h3,h4⟩:=znU ht h;obtain⟨r,h5,h6⟩:=words (f:=fun y=>svD P m e y) (g:=g) (l:=elems) fun y hy=>hg m y (h2 y hy)
 refine⟨r,by omega,_,h3,?_⟩;rw[h5];exact .isl fun i hi=>by rw[h4 i _ (yb5 hi)];exact h6 i _ (yb5 hi)
theorem SameL.rfl:∀{l:List SV},SameL l l
 |[]=>.nil
 |_::_=>.cons (.refl _) SameL.rfl
theorem SameL.app:∀{a b c d:List SV},SameL a b->SameL c d->SameL (a++c) (b++d)
 |_,_,_,_,.nil,h=>h
 |_,_,_,_,.cons h1 h2,h=>.cons h1 (SameL.app h2 h)
end
end Go.Cx
namespace Go.Cx
open Go Go.RowKit Go.WideShapes Go.ChangeShapes
section
variable{H:Type}{P:Program}{W:World}
theorem zsf{L:FWs}:zlQ W L []:=⟨List.nodup_nil,fun g cs h=>by cases h⟩
theorem zpT{L L':FWs}{l:List (Nat×List CV)}(h:zlQ W L l):zlQ W (L++L') l:=
 ⟨h.1,fun g cs hg=>by obtain⟨h1,h2,vs,ty,fr,h3,h4⟩:=h.2 g cs hg;exact⟨h1,h2,vs,ty,fr,denL_mono (zhs L L') _ _ h3,h4⟩⟩
theorem zgc{L:FWs}{g:Nat}{cs:List CV}{l:List (Nat×List CV)}(hg:g<64)(ha:cs.all one=true)(hn:g∉l.map (·.1))(h:∃vs ty fr,denL (zlP L) cs=some vs/\W.heap[g]? = some (.cells vs.toArray ty fr))(hl:zlQ W L l):zlQ W L ((g,cs)::l):=
 ⟨by rw[List.map_cons,List.nodup_cons];exact⟨hn,hl.1⟩,fun g' cs' hm=>by
  rcases List.mem_cons.1 hm with hm |hm
  ·cases hm;exact⟨hg,ha,h⟩
  ·exact hl.2 g' cs' hm⟩
theorem zon{e:Env}{y:CV}{v:Value}{ys:List CV}{ws:List Value}(h:denL e [y]=some [v])(hr:denL e ys=some ws):denL e (y::ys)=some (v::ws):=by
 simp only[denL,yc9,ya3]at h ⊢;obtain⟨V,h1,l,h2,h3⟩:=h;cases h2;simp only[List.cons.injEq,and_true]at h3;subst h3;exact⟨V,h1,ws,hr,rfl⟩
theorem zs3{e:Env}{xs:List CV}{cs:Array Value}{ys:List CV}{ws:List Value}(h:denL e xs=some cs.toList)(hr:denL e ys=some ws):denL e (.agg xs::ys)=some (.agg cs::ws):=
 zon (by simp only[denL,den,h,yc5,Option.bind_some,Array.toArray_toList]) hr
theorem zsG{e:Env}{k:IntKind}{x:Int}{ys:List CV}{ws:List Value}(hr:denL e ys=some ws):denL e (.int k x::ys)=some (.int k x::ws):=
 zon rfl hr
end
end Go.Cx
