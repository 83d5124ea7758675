import Derived.Test.YteaemnicofpbeaaGreatDoorGd
set_option linter.unusedSimpArgs false
set_option linter.unusedVariables false
namespace Go.Cx
open Go
inductive SV where
 |junk
 |cv (x:CV)
 |agg (cs:List SV)
 |tup (vs:List SV)
 |ptr (o off:Nat)
 |ept (o sz i off:Nat)
 |lst (o:Nat)
 |sub (o off n c:Nat)
 |isl (sz n:Nat) (el:Nat->List SV)
 |islx (sz n:Nat) (el:Nat->List SV)
 |ipt (cs:List SV) (off:Nat)
 |emp
 |fn (f:FuncId) (a b:List SV)
 |map (o:Nat)
 |ifc (ty:TypeId) (v:SV)
 deriving Inhabited
inductive PM where
 |p (t:Nat)
 |m (t:Nat)
@[reducible] def PM.c:PM->CV
 |.p t=>.ptr t 0
 |.m t=>.map t
def zsB:CV->Bool
 |.nils=>true
 |.void _=>true
 |_=>false
abbrev DEnv:=Nat->Option CV
def noE:DEnv:=fun _=>none
def tg:CV->Option Nat
 |.ptr t _=>some t
 |.slc t _ _ c=>match c with
  |0=>none
  |_+1=>some t
 |.opn t _ _=>some t
 |.map t=>some t
 |_=>none
theorem zrx{x:CV}(h:zsB x=true):tg x=none:=by cases x<;>simp[zsB]at h<;>rfl
theorem zdD{x:CV}(h:zsB x=true):x=.nils\/∃a,x=.void a:=by cases x<;>simp[zsB]at h<;>simp
theorem zcD{t off n c:Nat}(h:0<c):tg (.slc t off n c)=some t:=by
 cases c with
 |zero=>omega
 |succ c=>rfl
theorem zeA{t u off n c:Nat}(h:tg (.slc t off n c)=some u):u=t/\0<c:=by
 cases c with
 |zero=>cases h
 |succ c=>cases h;exact⟨rfl,Nat.succ_pos _⟩
def zj0:CV->Bool
 |.bool _=>true
 |.int _ _=>true
 |.str _=>true
 |.nilp=>true
 |.nils=>true
 |.nilf=>true
 |.nilm=>true
 |.nili=>true
 |.yld _=>true
 |_=>false
def zjK:CO->Option (List CV)
 |.cells _ cs=>some cs
 |.opn _ _ cs=>some cs
 |.ro cs=>some cs
 |_=>none
theorem zfU{m:Mem}{t:Nat}{o:CO}{cs:List CV}(h:m.get t=some o)(hr:zjK o=some cs):zdW m t=some cs:=by
 unfold zdW;rw[h];cases o<;>simp[zjK]at hr ⊢ <;> exact hr
inductive KC where
 |int (k:IntKind)
 |str
 |wide (ok:CV->Bool)
noncomputable def KC.has:KC->CV->Bool
 |.int k,.int k' _=>kEq k k'
 |.str,.str _=>true
 |.wide ok,.agg cs=>ok (.agg cs)&&cvEq (.agg cs) (.agg cs)
 |_,_=>false
noncomputable def zfT:CV->CV->Bool
 |.int _ a,.int _ b=>ieq a b
 |.str a,.str b=>zjc a b
 |a,b=>cvEq a b
def nk:CV->CV ⊕ List UInt8
 |.str a=>.inr (a.map UInt8.ofNat)
 |x=>.inl x
noncomputable def zcK(k:CV):List (CV×CV×Nat)->Option CV
 |[]=>none
 |(a,b,_)::es=>match zfT k a with
  |true=>some b
  |false=>zcK k es
def seg(cs:List CV)(off n:Nat):List CV:=(cs.drop off).take n
mutual
inductive Rep (R:RO):DEnv->SV->CV->Prop
 |junk {e x}:Rep R e .junk x
 |cv {e x}:zj0 x=true->Rep R e (.cv x) x
 |agg {e cs xs}:RepL R e cs xs->Rep R e (.agg cs) (.agg xs)
 |tup {e cs xs}:RepL R e cs xs->Rep R e (.tup cs) (.tup xs)
 |ptr {e o off t}:e o=some (.ptr t 0)->Rep R e (.ptr o off) (.ptr t off)
 |eptS {e o sz i off t n c}:e o=some (.slc t 0 n c)->Rep R e (.ept o sz i off) (.ptr t (i*sz+off))
 |eptO {e o sz i off t n}:e o=some (.opn t 0 n)->Rep R e (.ept o sz i off) (.ptr t (i*sz+off))
 |lstN {e o}:e o=some .nils->Rep R e (.lst o) .nils
 |lstV {e o a}:e o=some (.void a)->Rep R e (.lst o) (.void a)
 |lstS {e o t n c}:e o=some (.slc t 0 n c)->Rep R e (.lst o) (.slc t 0 n c)
 |lstE {e o t off}:e o=some (.slc t off 0 0)->Rep R e (.lst o) (.slc t off 0 0)
 |lstO {e o t n}:e o=some (.opn t 0 n)->Rep R e (.lst o) (.opn t 0 n)
 |sub {e o off n c t}:e o=some (.ptr t 0)->Rep R e (.sub o off n c) (.slc t off n c)
 |islN {e sz el}:Rep R e (.isl sz 0 el) .nils
 |islV {e sz el a}:Rep R e (.isl sz 0 el) (.void a)
 |islE {e sz el t k a}:Rep R e (.islx sz 0 el) (.emp t k a)
 |islx {e sz n el x}:Rep R e (.isl sz n el) x->Rep R e (.islx sz n el) x
 |islS {e sz n el t off c o cs}:R t=some o->zjK o=some cs->off+n*sz<=cs.length->n<=c->cs.all one=true->(∀i,i<n->RepL R noE (el i) (seg cs (off+i*sz) sz))->Rep R e (.isl sz n el) (.slc t off n c)
 |islO {e sz n el t k ty cs}:R t=some (.opn ty sz cs)->(k+n)*sz<=cs.length->cs.all one=true->(∀i,i<n->RepL R noE (el i) (seg cs ((k+i)*sz) sz))->Rep R e (.isl sz n el) (.opn t k n)
 |ipt {e cs off t b o xs}:R t=some o->zjK o=some xs->b+cs.length<=xs.length->xs.all one=true->RepL R noE cs (seg xs b cs.length)->Rep R e (.ipt cs off) (.ptr t (b+off))
 |empN {e}:Rep R e .emp .nils
 |empV {e a}:Rep R e .emp (.void a)
 |empS {e t off}:(∃o cs,R t=some o/\zjK o=some cs/\off<=cs.length/\cs.all one=true)->Rep R e .emp (.slc t off 0 0)
 |fn {e f a b x y}:RepL R e a x->RepL R e b y->Rep R e (.fn f a b) (.fn f x y)
 |map {e o t}:e o=some (.map t)->Rep R e (.map o) (.map t)
 |ifc {e ty v x}:Rep R e v x->Rep R e (.ifc ty v) (.ifc ty x)
inductive RepL (R:RO):DEnv->List SV->List CV->Prop
 |nil {e}:RepL R e [] []
 |cons {e v x vs xs}:Rep R e v x->RepL R e vs xs->RepL R e (v::vs) (x::xs)
end
def DEnv.le(e e':DEnv):Prop:=∀o x,e o=some x->e' o=some x
theorem DEnv.le.refl(e:DEnv):DEnv.le e e:=fun _ _ h=>h
theorem DEnv.le.trans{a b c:DEnv}(h:DEnv.le a b)(k:DEnv.le b c):DEnv.le a c:=fun o x hx=>k o x (h o x hx)
section
variable{R R':RO}
theorem Rep.mono(hR:R.le R'){e:DEnv}{v:SV}{x:CV}(h:Rep R e v x):∀{e':DEnv},e.le e'->Rep R' e' v x:=by
 induction h using Rep.rec (motive_2:=fun e vs xs _=>∀{e':DEnv},e.le e'->RepL R' e' vs xs) with
 |junk=>intro e' he;exact .junk
 |cv h=>intro e' he;exact .cv h
 |agg h ih=>intro e' he;exact .agg (ih he)
 |tup h ih=>intro e' he;exact .tup (ih he)
 |ptr h=>intro e' he;exact .ptr (he _ _ h)
 |eptS h=>intro e' he;exact .eptS (he _ _ h)
 |eptO h=>intro e' he;exact .eptO (he _ _ h)
 |lstN h=>intro e' he;exact .lstN (he _ _ h)
 |lstV h=>intro e' he;exact .lstV (he _ _ h)
 |lstS h=>intro e' he;exact .lstS (he _ _ h)
 |lstE h=>intro e' he;exact .lstE (he _ _ h)
 |lstO h=>intro e' he;exact .lstO (he _ _ h)
 |sub h=>intro e' he;exact .sub (he _ _ h)
 |islN=>intro e' he;exact .islN
 |islV=>intro e' he;exact .islV
 |islE=>intro e' he;exact .islE
 |islS h1 h2 h3 h4 h0 h5 ih=>intro e' he;exact .islS (hR _ _ h1) h2 h3 h4 h0 fun i hi=>ih i hi (DEnv.le.refl _)
 |islO h1 h2 h0 h3 ih=>intro e' he;exact .islO (hR _ _ h1) h2 h0 fun i hi=>ih i hi (DEnv.le.refl _)
 |islx h ih=>intro e' he;exact .islx (ih he)
 |ipt h1 h2 h3 h0 h4 ih=>intro e' he;exact .ipt (hR _ _ h1) h2 h3 h0 (ih (DEnv.le.refl _))
 |empN=>intro e' he;exact .empN
 |empV=>intro e' he;exact .empV
 |empS h=>intro e' he;obtain⟨o,cs,h1,h2,h3⟩:=h;exact .empS ⟨o,cs,hR _ _ h1,h2,h3⟩
 |fn ha hb iha ihb=>intro e' he;exact .fn (iha he) (ihb he)
 |map h=>intro e' he;exact .map (he _ _ h)
 |ifc h ih=>intro e' he;exact .ifc (ih he)
 |nil=>exact .nil
 |cons h hs ih ihs=>rename_i e'' he;exact .cons (ih he) (ihs he)
theorem RepL.mono(hR:R.le R'):∀{vs:List SV} {xs:List CV} {e e':DEnv},RepL R e vs xs->e.le e'->RepL R' e' vs xs
 |_,_,_,_,.nil,_=>.nil
 |_,_,_,_,.cons h hs,he=>.cons (h.mono hR he) (RepL.mono hR hs he)
end
section
variable{R:RO}{e:DEnv}
theorem RepL.length:∀{vs:List SV} {xs:List CV},RepL R e vs xs->vs.length=xs.length
 |_,_,.nil=>rfl
 |_,_,.cons _ h=>by simp[RepL.length h]
theorem RepL.get:∀{vs:List SV} {xs:List CV} {i:Nat} {v:SV},RepL R e vs xs->vs[i]? = some v->∃x,xs[i]? = some x/\Rep R e v x
 |_,_,_,_,.nil,h=>by simp at h
 |_,_,0,v,.cons hv _,h=>by simp at h;subst h;exact⟨_,rfl,hv⟩
 |_,_,i+1,v,.cons _ hs,h=>by simp at h;simpa using RepL.get hs h
theorem RepL.append:∀{vs ws:List SV} {xs ys:List CV},RepL R e vs xs->RepL R e ws ys->RepL R e (vs++ws) (xs++ys)
 |_,_,_,_,.nil,h=>h
 |_,_,_,_,.cons hv hs,h=>.cons hv (RepL.append hs h)
theorem RepL.take:∀{vs:List SV} {xs:List CV} (n:Nat),RepL R e vs xs->RepL R e (vs.take n) (xs.take n)
 |_,_,n,.nil=>by simp;exact .nil
 |_,_,0,.cons _ _=>.nil
 |_,_,n+1,.cons hv hs=>.cons hv (RepL.take n hs)
theorem RepL.drop:∀{vs:List SV} {xs:List CV} (n:Nat),RepL R e vs xs->RepL R e (vs.drop n) (xs.drop n)
 |_,_,n,.nil=>by simp;exact .nil
 |_,_,0,.cons hv hs=>.cons hv hs
 |_,_,n+1,.cons _ hs=>RepL.drop n hs
theorem RepL.set:∀{vs:List SV} {xs:List CV} (i:Nat) {v:SV} {x:CV},RepL R e vs xs->Rep R e v x->RepL R e (vs.set i v) (xs.set i x)
 |_,_,_,_,_,.nil,_=>.nil
 |_,_,0,_,_,.cons _ hs,h=>.cons h hs
 |_,_,i+1,_,_,.cons hv hs,h=>.cons hv (RepL.set i hs h)
theorem RepL.junks:∀(xs:List CV),RepL R e (List.replicate xs.length .junk) xs
 |[]=>.nil
 |_::xs=>.cons .junk (RepL.junks xs)
end
inductive SObj where
 |dead
 |cells (ty:TypeId) (cs:List SV)
 |list (ty:TypeId) (sz n:Nat) (el:Nat->List SV)
 |map (c:KC) (f:CV->Option SV) (st:Option (CV×Nat))
 deriving Inhabited
structure MapRep(R:RO)(c:KC)(f:CV->Option SV)(st:Option (CV×Nat))(es:List (CV×CV×Nat))(clock:Nat):Prop where
 has:∀p∈es,c.has p.1=true
 get:∀k,c.has k=true->(zcK k es=none/\f k=none)\/∃b v,zcK k es=some b/\f k=some v/\Rep R noE v b
 ne:(es.map fun p=>nk p.1).Nodup
 stp:(es.map fun p=>p.2.2).Nodup
 lt:∀p∈es,p.2.2<clock
 last:∀k s,st=some (k,s)->c.has k=true/\∃b,(k,b,s)∈es
theorem MapRep.mono{R R':RO}(hR:R.le R'){c:KC}{f:CV->Option SV}{st:Option (CV×Nat)}{es:List (CV×CV×Nat)}{clock:Nat}(h:MapRep R c f st es clock):MapRep R' c f st es clock:=
 ⟨h.has,fun k hk=>(h.get k hk).imp id fun⟨b,v,h1,h2,h3⟩=>⟨b,v,h1,h2,h3.mono hR (DEnv.le.refl _)⟩,h.ne,h.stp,h.lt,h.last⟩
def OR(R:RO)(e:DEnv)(m:Mem)(x:CV):SObj->Prop
 |.dead=>False
 |.cells ty cs=>∃t xs,x=.ptr t 0/\m.get t=some (.cells ty xs)/\RepL R e cs xs
 |.list ty sz n el=>((zsB x=true\/∃t off o cs,x=.slc t off 0 0/\R t=some o/\zjK o=some cs/\off<=cs.length/\cs.all one=true)/\n=0) \/
   (∃t c xs,x=.slc t 0 n c/\0<c/\n<=c/\m.get t=some (.cells ty xs)/\c*sz=xs.length/\xs.all one=true/\∀i,i<n->RepL R noE (el i) (seg xs (i*sz) sz)) \/
   (∃t xs,x=.opn t 0 n/\m.get t=some (.opn ty sz xs)/\n*sz<=xs.length/\xs.all one=true/\∀i,i<n->RepL R noE (el i) (seg xs (i*sz) sz))
 |.map c f st=>∃t es clock,x=.map t/\m.get t=some (.map es clock)/\MapRep R c f st es clock
structure Ctx where
 m0:Mem
 S0:List Nat
 R0:RO
def Ctx.own(G:Ctx)(t:Nat):Prop:=G.m0.nxt<=t\/t∈G.S0
structure MSat(G:Ctx)(R:RO)(e:DEnv)(O:List SObj)(m:Mem):Prop where
 fr:Fr G.S0 G.m0 m
 sk:Mk R m
 le:G.R0.le R
 rn:∀t o,R t=some o->G.R0 t=some o\/G.own t
 own:∀o x t,e o=some x->tg x=some t->G.own t/\R t=none
 inj:∀o o' x x' t,e o=some x->e o'=some x'->tg x=some t->tg x'=some t->o=o'
 ob:∀o so,O[o]? = some so->so=.dead\/∃x,e o=some x/\OR R e m x so
 dom:∀o x,e o=some x->∃so,O[o]? = some so/\so≠.dead
structure TSat(R:RO)(e:DEnv)(T:List SV)(t:Tmps):Prop where
 sz:t.sz=T.length
 get:∀i v,T[i]? = some v->v=.junk\/∃x,t.get i=some x/\Rep R e v x
section
variable{G:Ctx}{R R':RO}{e e':DEnv}{O:List SObj}{m m':Mem}{T:List SV}{t:Tmps}
theorem TSat.mono(h:TSat R e T t)(hR:R.le R')(he:e.le e'):TSat R' e' T t:=
 ⟨h.sz,fun i v hv=>(h.get i v hv).imp id fun⟨x,h1,h2⟩=>⟨x,h1,h2.mono hR he⟩⟩
theorem TSat.set(h:TSat R e T t){d:Nat}{v:SV}{x:CV}(hv:Rep R e v x)(hd:d<T.length):TSat R e (T.set d v) (t.set d x):=by
 refine⟨by rw[Tmps.set_sz,h.sz,List.length_set],fun i u hi=>?_⟩;rw[yc8]at hi;by_cases hq:d=i
 ·subst hq;rw[if_pos rfl,if_pos hd]at hi;cases hi;exact .inr ⟨x,Tmps.get_set_self t x (by rw[h.sz];exact hd),hv⟩
 ·rw[if_neg hq]at hi;rw[Tmps.get_set_ne t x (fun e=>hq e.symm)];exact h.get i u hi
theorem MSat.obj(h:MSat G R e O m){o:Nat}{x:CV}(hx:e o=some x):∃so,O[o]? = some so/\OR R e m x so:=by
 obtain⟨so,h1,h2⟩:=h.dom o x hx;rcases h.ob o so h1 with h3 |⟨y,h3,h4⟩
 ·exact absurd h3 h2
 ·rw[hx]at h3;cases h3;exact⟨so,h1,h4⟩
theorem MSat.cells(h:MSat G R e O m){o:Nat}{ty:TypeId}{cs:List SV}(ho:O[o]? = some (.cells ty cs)):∃t xs,e o=some (.ptr t 0)/\m.get t=some (.cells ty xs)/\RepL R e cs xs:=by
 rcases h.ob o _ ho with h1 |⟨x,h1,t,xs,rfl,h3,h4⟩
 ·cases h1
 ·exact⟨t,xs,h1,h3,h4⟩
theorem OR.mono(hR:R.le R')(he:e.le e'){x:CV}{so:SObj}(h:OR R e m x so)(hm:∀t,tg x=some t->m'.get t=m.get t):OR R' e' m' x so:=by
 cases so with
 |dead=>exact h
 |cells ty cs=>
  obtain⟨t,xs,rfl,h2,h3⟩:=h;exact⟨t,xs,rfl,by rw[hm t rfl];exact h2,h3.mono hR he⟩
 |list ty sz n el=>
  rcases h with⟨h,hn⟩ |⟨t,c,xs,rfl,h0,h1,h2,h3,ha,h4⟩ |⟨t,xs,rfl,h2,h3,ha,h4⟩
  ·refine .inl ⟨h.imp id ?_,hn⟩;rintro⟨t,off,o,cs,h1,h2,h3⟩;exact⟨t,off,o,cs,h1,hR _ _ h2,h3⟩
  ·exact .inr (.inl ⟨t,c,xs,rfl,h0,h1,by rw[hm t (zcD h0)];exact h2,h3,ha,fun i hi=>(h4 i hi).mono hR (DEnv.le.refl _)⟩)
  ·exact .inr (.inr ⟨t,xs,rfl,by rw[hm t rfl];exact h2,h3,ha,fun i hi=>(h4 i hi).mono hR (DEnv.le.refl _)⟩)
 |map c f st=>
  obtain⟨t,es,clock,rfl,h2,h3⟩:=h;exact⟨t,es,clock,rfl,by rw[hm t rfl];exact h2,h3.mono hR⟩
theorem OR.lt(hw:Wf m){x:CV}{so:SObj}(h:OR R e m x so){t:Nat}(ht:tg x=some t):∃o,m.get t=some o/\zcl o=false/\t<m.nxt:=by
 cases so with
 |dead=>exact h.elim
 |cells ty cs=>
  obtain⟨t',xs,rfl,h2,h3⟩:=h;cases ht;exact⟨_,h2,rfl,hw.lt h2⟩
 |list ty sz n el=>
  rcases h with⟨h |⟨t',off,o,cs,h,_⟩,_⟩ |⟨t',c,xs,rfl,h0,h1,h2,h3,ha,h4⟩ |⟨t',xs,rfl,h2,h3,ha,h4⟩
  ·rw[zrx h]at ht;cases ht
  ·subst h;cases ht
  ·obtain⟨rfl,_⟩:=zeA ht;exact⟨_,h2,rfl,hw.lt h2⟩
  ·cases ht;exact⟨_,h2,rfl,hw.lt h2⟩
 |map c f st=>
  obtain⟨t',es,clock,rfl,h2,h3⟩:=h;cases ht;exact⟨_,h2,rfl,hw.lt h2⟩
theorem MSat.lt(h:MSat G R e O m){o t:Nat}{x:CV}(hx:e o=some x)(ht:tg x=some t):∃o,m.get t=some o/\zcl o=false/\t<m.nxt:=by
 obtain⟨so,_,h2⟩:=h.obj hx;exact h2.lt h.sk.wf ht
end
def DEnv.put(e:DEnv)(o:Nat)(x:Option CV):DEnv:=fun i=>if i=o then x else e i
theorem DEnv.put_self(e:DEnv)(o:Nat)(x:Option CV):e.put o x o=x:=if_pos rfl
theorem DEnv.put_ne(e:DEnv){o i:Nat}(x:Option CV)(h:i≠o):e.put o x i=e i:=if_neg h
theorem DEnv.le_put{e:DEnv}{o:Nat}(h:e o=none)(x:Option CV):e.le (e.put o x):=fun i y hy=>by
 unfold DEnv.put;split
 ·rename_i hq;rw[hq,h]at hy;cases hy
 ·exact hy
section
variable{G:Ctx}{R R':RO}{e:DEnv}{O:List SObj}{m m':Mem}{T:List SV}{t:Tmps}
theorem MSat.free(h:MSat G R e O m){o:Nat}(ho:O.length<=o):e o=none:=by
 cases hx:e o with
 |none=>rfl
 |some x=>
  obtain⟨so,h1,_⟩:=h.dom o x hx;rw[List.getElem?_eq_none ho]at h1;cases h1
theorem MSat.new(h:MSat G R e O m){T:Nat}{co:CO}(hn:New m T co m'){x:CV}{so:SObj}(hx:tg x=some T)(hrec:zcl co=false)(hne:so≠.dead)(hor:∀e',e.le e'->OR R e' m' x so):e.le (e.put O.length (some x))/\MSat G R (e.put O.length (some x)) (O++[so]) m':=by
 have hle:e.le (e.put O.length (some x)):=DEnv.le_put (h.free (Nat.le_refl _)) _;have hT:=hn.tag;have hnx:=h.fr.nxt;refine⟨hle,⟨h.fr.new hn,h.sk.new hn,h.le,h.rn,fun o y t hy ht=>?_,fun o o' y y' t hy hy' ht ht'=>?_,fun o so' ho=>?_,fun o y hy=>?_⟩⟩
 ·unfold DEnv.put at hy;split at hy
  ·cases hy;rw[hx]at ht;cases ht;exact⟨.inl (by omega),h.sk.none (by omega)⟩
  ·exact h.own o y t hy ht
 ·unfold DEnv.put at hy hy';split at hy<;>split at hy'
  ·omega
  ·cases hy;rw[hx]at ht;cases ht;obtain⟨_,_,_,hl⟩:=h.lt hy' ht';omega
  ·cases hy';rw[hx]at ht';cases ht';obtain⟨_,_,_,hl⟩:=h.lt hy ht;omega
  ·exact h.inj o o' y y' t hy hy' ht ht'
 ·rcases Nat.lt_trichotomy o O.length with hq |hq |hq
  ·rw[yb8 hq]at ho;rcases h.ob o so' ho with h1 |⟨y,h1,h2⟩
   ·exact .inl h1
   ·refine .inr ⟨y,by rw[DEnv.put_ne _ _ (by omega)];exact h1,h2.mono (RO.le.refl R) hle fun t ht=>?_⟩;obtain⟨_,hg,_,hl⟩:=h.lt h1 ht;rw[hn.get,if_neg (by omega)]
  ·subst hq;simp at ho;subst ho;exact .inr ⟨x,DEnv.put_self ..,hor _ hle⟩
  ·rw[List.getElem?_eq_none (by simp;omega)]at ho;cases ho
 ·unfold DEnv.put at hy;split at hy
  ·rename_i hq;subst hq;exact⟨so,by simp,hne⟩
  ·obtain⟨so',h1,h2⟩:=h.dom o y hy;exact⟨so',by rw[yb8 (List.getElem?_eq_some_iff.1 h1).1];exact h1,h2⟩
end
end Go.Cx
namespace Go.Cx
open Go
def zbq{A B:Type}(f:A->(B->Prop)->Prop):List A->(List B->Prop)->Prop
 |[],k=>k []
 |x::xs,k=>f x fun y=>zbq f xs fun ys=>k (y::ys)
theorem zaf{A B:Type}{f:A->(B->Prop)->Prop}{g:A->B}(h:∀x k,f x k=k (g x)):∀(l:List A) (k:List B->Prop),zbq f l k=k (l.map g)
 |[],_=>rfl
 |x::xs,k=>by rw[zbq,h,zaf h xs];rfl
def sbLeaf(o:Nat)(r:SV):SV->SV
 |.lst i=>match Nat.beq i o with
  |true=>r
  |false=>.lst i
 |.ept i sz k off=>match Nat.beq i o with
  |true=>.junk
  |false=>.ept i sz k off
 |.ptr i off=>match Nat.beq i o with
  |true=>.junk
  |false=>.ptr i off
 |.sub i off n c=>match Nat.beq i o with
  |true=>.junk
  |false=>.sub i off n c
 |.map i=>match Nat.beq i o with
  |true=>.junk
  |false=>.map i
 |.agg _=>.junk
 |.tup _=>.junk
 |.fn _ _ _=>.junk
 |.ifc _ _=>.junk
 |v=>v
def sb(o:Nat)(r:SV):Nat->SV->SV
 |0,v=>sbLeaf o r v
 |d+1,.agg cs=>.agg (cs.map (sb o r d))
 |d+1,.tup cs=>.tup (cs.map (sb o r d))
 |d+1,.fn f a b=>.fn f (a.map (sb o r d)) (b.map (sb o r d))
 |d+1,.ifc ty v=>.ifc ty (sb o r d v)
 |_+1,v=>sbLeaf o r v
def zkF(o:Nat)(r:SV)(v:SV)(k:SV->Prop):Prop:=match v with
 |.lst i=>match Nat.beq i o with
  |true=>k r
  |false=>k (.lst i)
 |.ept i sz j off=>match Nat.beq i o with
  |true=>k .junk
  |false=>k (.ept i sz j off)
 |.ptr i off=>match Nat.beq i o with
  |true=>k .junk
  |false=>k (.ptr i off)
 |.sub i off n c=>match Nat.beq i o with
  |true=>k .junk
  |false=>k (.sub i off n c)
 |.map i=>match Nat.beq i o with
  |true=>k .junk
  |false=>k (.map i)
 |.agg _=>k .junk
 |.tup _=>k .junk
 |.fn _ _ _=>k .junk
 |.ifc _ _=>k .junk
 |v=>k v
def sbK(o:Nat)(r:SV):Nat->SV->(SV->Prop)->Prop
 |0,v,k=>zkF o r v k
 |d+1,.agg cs,k=>zbq (sbK o r d) cs fun cs=>k (.agg cs)
 |d+1,.tup cs,k=>zbq (sbK o r d) cs fun cs=>k (.tup cs)
 |d+1,.fn f a b,k=>zbq (sbK o r d) a fun a=>zbq (sbK o r d) b fun b=>k (.fn f a b)
 |d+1,.ifc ty v,k=>sbK o r d v fun v=>k (.ifc ty v)
 |_+1,v,k=>zkF o r v k
theorem zjh(o:Nat)(r v:SV)(k:SV->Prop):zkF o r v k=k (sbLeaf o r v):=by
 cases v<;>simp only[zkF,sbLeaf]<;>split<;>rfl
theorem zgn(o:Nat)(r:SV):∀(d:Nat) (v:SV) (k:SV->Prop),sbK o r d v k=k (sb o r d v)
 |0,v,k=>by unfold sbK sb;exact zjh o r v k
 |d+1,v,k=>by
  cases v<;>simp only[sbK,sb]<;>first
   |exact zjh o r _ k
   |(rw[zaf (zgn o r d),zaf (zgn o r d)])
   |(rw[zaf (zgn o r d)])
   |(rw[zgn o r d])
def zah:Nat:=4
def sbO(o:Nat)(r:SV):SObj->SObj
 |.cells ty cs=>.cells ty (cs.map (sb o r zah))
 |so=>so
def zwQ(o:Nat)(r:SV)(so:SObj)(k:SObj->Prop):Prop:=match so with
 |.cells ty cs=>zbq (sbK o r zah) cs fun cs=>k (.cells ty cs)
 |so=>k so
theorem zqg(o:Nat)(r:SV)(so:SObj)(k:SObj->Prop):zwQ o r so k=k (sbO o r so):=by
 cases so<;>simp only[zwQ,sbO];rw[zaf (zgn o r zah)]
def zpB(o:Nat)(r:SV)(T:List SV)(O:List SObj)(k:List SV->List SObj->Prop):Prop:=
 zbq (sbK o r zah) T fun T=>zbq (zwQ o r) O fun O=>k T O
theorem zft(o:Nat)(r:SV)(T:List SV)(O:List SObj)(k:List SV->List SObj->Prop):zpB o r T O k=k (T.map (sb o r zah)) (O.map (sbO o r)):=by
 unfold zpB;rw[zaf (zgn o r zah),zaf (zqg o r)]
section
variable{R R':RO}{e e':DEnv}{o:Nat}{r:SV}
theorem zdG{a b:Nat}:Nat.beq a b=decide (a=b):=by
 by_cases h:a=b
 ·rw[zlR h,decide_eq_true h]
 ·rw[zkQ h,decide_eq_false h]
theorem Rep.leaf(hR:R.le R')(he:∀i x,i≠o->e i=some x->e' i=some x)(hr:∀x,Rep R e (.lst o) x->Rep R' e' r x){v:SV}{x:CV}(h:Rep R e v x):Rep R' e' (sbLeaf o r v) x:=by
 cases h with
 |junk=>exact .junk
 |cv h=>exact .cv h
 |agg h=>exact .junk
 |tup h=>exact .junk
 |fn ha hb=>exact .junk
 |ifc h=>exact .junk
 |ptr h=>
  simp only[sbLeaf,zdG];split
  ·exact .junk
  ·rename_i hq;exact .ptr (he _ _ (by simpa using hq) h)
 |eptS h=>
  simp only[sbLeaf,zdG];split
  ·exact .junk
  ·rename_i hq;exact .eptS (he _ _ (by simpa using hq) h)
 |eptO h=>
  simp only[sbLeaf,zdG];split
  ·exact .junk
  ·rename_i hq;exact .eptO (he _ _ (by simpa using hq) h)
 |lstN h=>
  simp only[sbLeaf,zdG];split
  ·rename_i hq;simp at hq;subst hq;exact hr _ (.lstN h)
  ·rename_i hq;exact .lstN (he _ _ (by simpa using hq) h)
 |lstV h=>
  simp only[Go.Cx.sbLeaf,zdG];split
  ·rename_i hq;simp at hq;subst hq;exact hr _ (.lstV h)
  ·rename_i hq;exact .lstV (he _ _ (by simpa using hq) h)
 |lstS h=>
  simp only[sbLeaf,zdG];split
  ·rename_i hq;simp at hq;subst hq;exact hr _ (.lstS h)
  ·rename_i hq;exact .lstS (he _ _ (by simpa using hq) h)
 |lstE h=>
  simp only[sbLeaf,zdG];split
  ·rename_i hq;simp at hq;subst hq;exact hr _ (.lstE h)
  ·rename_i hq;exact .lstE (he _ _ (by simpa using hq) h)
 |lstO h=>
  simp only[sbLeaf,zdG];split
  ·rename_i hq;simp at hq;subst hq;exact hr _ (.lstO h)
  ·rename_i hq;exact .lstO (he _ _ (by simpa using hq) h)
 |sub h=>
  simp only[sbLeaf,zdG];split
  ·exact .junk
  ·rename_i hq;exact .sub (he _ _ (by simpa using hq) h)
 |map h=>
  simp only[sbLeaf,zdG];split
  ·exact .junk
  ·rename_i hq;exact .map (he _ _ (by simpa using hq) h)
 |islN=>exact .islN
 |islV=>exact .islV
 |islE=>exact .islE
 |islS h1 h2 h3 h4 h0 h5=>exact .islS (hR _ _ h1) h2 h3 h4 h0 fun i hi=>(h5 i hi).mono hR (DEnv.le.refl _)
 |islO h1 h2 h0 h3=>exact .islO (hR _ _ h1) h2 h0 fun i hi=>(h3 i hi).mono hR (DEnv.le.refl _)
 |islx h=>
  show Rep R' e' (.islx _ _ _) x;cases h with
  |islN=>exact .islx .islN
  |islV=>exact .islx .islV
  |islS h1 h2 h3 h4 h0 h5=>exact .islx (.islS (hR _ _ h1) h2 h3 h4 h0 fun i hi=>(h5 i hi).mono hR (DEnv.le.refl _))
  |islO h1 h2 h0 h3=>exact .islx (.islO (hR _ _ h1) h2 h0 fun i hi=>(h3 i hi).mono hR (DEnv.le.refl _))
 |ipt h1 h2 h3 h0 h4=>exact .ipt (hR _ _ h1) h2 h3 h0 (h4.mono hR (DEnv.le.refl _))
 |empN=>exact .empN
 |empV=>exact .empV
 |empS h=>obtain⟨o',cs,h1,h2,h3⟩:=h;exact .empS ⟨o',cs,hR _ _ h1,h2,h3⟩
theorem Rep.sb(hR:R.le R')(he:∀i x,i≠o->e i=some x->e' i=some x)(hr:∀x,Rep R e (.lst o) x->Rep R' e' r x):∀(d:Nat) {v:SV} {x:CV},Rep R e v x->Rep R' e' (sb o r d v) x
 |0,_,_,h=>h.leaf hR he hr
 |d+1,v,x,h=>by
  have hl:∀{vs:List SV} {xs:List CV},RepL R e vs xs->RepL R' e' (vs.map (Go.Cx.sb o r d)) xs:=by
   intro vs
   induction vs with
   |nil=>intro xs h;cases h;exact .nil
   |cons v vs ih=>intro xs h;cases h with |cons hv hs=>exact .cons (Rep.sb hR he hr d hv) (ih hs)
  cases h with
  |agg h=>exact .agg (hl h)
  |tup h=>exact .tup (hl h)
  |fn ha hb=>exact .fn (hl ha) (hl hb)
  |ifc h=>exact .ifc (Rep.sb hR he hr d h)
  |junk=>exact Rep.leaf hR he hr .junk
  |cv h=>exact Rep.leaf hR he hr (.cv h)
  |ptr h=>exact Rep.leaf hR he hr (.ptr h)
  |eptS h=>exact Rep.leaf hR he hr (.eptS h)
  |eptO h=>exact Rep.leaf hR he hr (.eptO h)
  |lstN h=>exact Rep.leaf hR he hr (.lstN h)
  |lstV h=>exact Rep.leaf hR he hr (.lstV h)
  |lstS h=>exact Rep.leaf hR he hr (.lstS h)
  |lstE h=>exact Rep.leaf hR he hr (.lstE h)
  |lstO h=>exact Rep.leaf hR he hr (.lstO h)
  |sub h=>exact Rep.leaf hR he hr (.sub h)
  |map h=>exact Rep.leaf hR he hr (.map h)
  |islN=>exact Rep.leaf hR he hr .islN
  |islV=>exact Rep.leaf hR he hr .islV
  |islE=>exact Rep.leaf hR he hr .islE
  |islS h1 h2 h3 h4 h0 h5=>exact Rep.leaf hR he hr (.islS h1 h2 h3 h4 h0 h5)
  |islO h1 h2 h0 h3=>exact Rep.leaf hR he hr (.islO h1 h2 h0 h3)
  |islx h=>exact Rep.leaf hR he hr (.islx h)
  |ipt h1 h2 h3 h0 h4=>exact Rep.leaf hR he hr (.ipt h1 h2 h3 h0 h4)
  |empN=>exact Rep.leaf hR he hr .empN
  |empV=>exact Rep.leaf hR he hr .empV
  |empS h=>exact Rep.leaf hR he hr (.empS h)
theorem RepL.sb(hR:R.le R')(he:∀i x,i≠o->e i=some x->e' i=some x)(hr:∀x,Rep R e (.lst o) x->Rep R' e' r x)(d:Nat):∀{vs:List SV} {xs:List CV},RepL R e vs xs->RepL R' e' (vs.map (Go.Cx.sb o r d)) xs
 |_,_,.nil=>.nil
 |_,_,.cons hv hs=>.cons (hv.sb hR he hr d) (RepL.sb hR he hr d hs)
theorem TSat.sb(hR:R.le R')(he:∀i x,i≠o->e i=some x->e' i=some x)(hr:∀x,Rep R e (.lst o) x->Rep R' e' r x){T:List SV}{t:Tmps}(h:TSat R e T t):TSat R' e' (T.map (Go.Cx.sb o r zah)) t:=by
 refine⟨by rw[h.sz,yb7],fun i v hv=>?_⟩;rw[yb9]at hv;cases hT:T[i]? with
 |none=>rw[hT]at hv;cases hv
 |some u=>
  rw[hT]at hv;cases hv;rcases h.get i u hT with rfl |⟨x,h1,h2⟩
  ·exact .inl rfl
  ·exact .inr ⟨x,h1,h2.sb hR he hr zah⟩
end
structure Chg(m:Mem)(a b:Option Nat)(m':Mem):Prop where
 nxt:m.nxt<=m'.nxt
 get:∀t,a≠some t->b≠some t->m'.get t=m.get t
 new:∀t,b=some t->a=some t\/m.nxt<=t
 wf:Wf m->Wf m'
section
variable{G:Ctx}{R R':RO}{e:DEnv}{O:List SObj}{m m':Mem}
theorem MSat.chg(h:MSat G R e O m){o:Nat}{x:CV}{y:CV}{so:SObj}(hx:e o=some x)(hc:Chg m (tg x) (tg y) m')(hne:so≠.dead)
  (hor:OR R (e.put o (some y)) m' y so):MSat G R (e.put o (some y)) ((O.map (sbO o .junk)).set o so) m':=by
 have hown:∀t,tg y=some t->G.own t/\R t=none:=fun t ht=>by
  rcases hc.new t ht with h1 |h1
  ·exact h.own o x t hx h1
  ·exact⟨.inl (by have:=h.fr.nxt;omega),h.sk.none h1⟩
 have hlo:o<O.length:=by
  obtain⟨so',h1,_⟩:=h.dom o x hx;exact(List.getElem?_eq_some_iff.1 h1).1
 have hfar:∀i z t,i≠o->e i=some z->tg z=some t->tg y≠some t:=fun i z t hi hz ht hy=>by
  rcases hc.new t hy with h1 |h1
  ·exact hi (h.inj i o z x t hz hx ht h1)
  ·obtain⟨_,_,_,hl⟩:=h.lt hz ht;omega
 have hstay:∀t oo,R t=some oo->m'.get t=m.get t:=fun t oo hR=>by
  refine hc.get t (fun ha=>?_) fun hb=>?_
  ·rw[(h.own o x t hx ha).2]at hR;cases hR
  ·rw[(hown t hb).2]at hR;cases hR
 refine⟨⟨Nat.le_trans h.fr.nxt hc.nxt,fun t ht hS=>?_,fun w=>hc.wf (h.fr.wf w)⟩,⟨hc.wf h.sk.wf,fun t oo hR=>by rw[hstay t oo hR];exact h.sk.ro t oo hR⟩,h.le,h.rn,fun i z t hz ht=>?_,fun i j z w t hz hw hzt hwt=>?_,fun i so' hi=>?_,fun i z hz=>?_⟩
 ·rw[hc.get t (fun ha=>?_) (fun hb=>?_)]
  ·exact h.fr.get t ht hS
  ·rcases(h.own o x t hx ha).1 with h1 |h1
   ·omega
   ·exact hS h1
  ·rcases(hown t hb).1 with h1 |h1
   ·omega
   ·exact hS h1
 ·unfold DEnv.put at hz;split at hz
  ·cases hz;exact hown t ht
  ·exact h.own i z t hz ht
 ·unfold DEnv.put at hz hw;split at hz<;>split at hw
  ·omega
  ·cases hz;exact absurd hzt (hfar j w t (by assumption) hw hwt)
  ·cases hw;exact absurd hwt (hfar i z t (by assumption) hz hzt)
  ·exact h.inj i j z w t hz hw hzt hwt
 ·rw[yc8]at hi;by_cases hq:o=i
  ·subst hq;rw[if_pos rfl,if_pos (by simpa using hlo)]at hi;cases hi;exact .inr ⟨y,DEnv.put_self ..,hor⟩
  ·rw[if_neg hq,yb9]at hi;cases hO:O[i]? with
   |none=>rw[hO]at hi;cases hi
   |some s0=>
    rw[hO]at hi;cases hi;rcases h.ob i s0 hO with rfl |⟨z,h1,h2⟩
    ·exact .inl rfl
    ·refine .inr ⟨z,by rw[DEnv.put_ne _ _ (fun hh=>hq hh.symm)];exact h1,?_⟩;have hm:∀t,tg z=some t->m'.get t=m.get t:=fun t ht=>
      hc.get t (fun ha=>hq (h.inj i o z x t h1 hx ht ha).symm) (hfar i z t (fun hh=>hq hh.symm) h1 ht)
     cases s0 with
     |dead=>exact h2
     |cells ty cs=>
      obtain⟨t,xs,rfl,h3,h4⟩:=h2;exact⟨t,xs,rfl,by rw[hm t rfl];exact h3,h4.sb (RO.le.refl R) (fun i z hi hz=>by rw[DEnv.put_ne _ _ hi];exact hz) (fun x _=>.junk) zah⟩
     |list ty sz n el=>exact OR.mono (e:=e) (e':=e) (RO.le.refl R) (DEnv.le.refl _) h2 hm
     |map c f st=>exact OR.mono (e:=e) (e':=e) (RO.le.refl R) (DEnv.le.refl _) h2 hm
 ·unfold DEnv.put at hz;split at hz
  ·rename_i hq;subst hq;exact⟨so,by rw[yc8,if_pos rfl,if_pos (by simpa using hlo)],hne⟩
  ·rename_i hq;obtain⟨s0,h1,h2⟩:=h.dom i z hz;refine⟨sbO o .junk s0,by rw[yc8,if_neg (fun hh=>hq hh.symm),yb9,h1];rfl,?_⟩;cases s0<;>simp[sbO]at h2 ⊢
theorem MSat.put(h:MSat G R e O m){o t:Nat}{ty:TypeId}{cs:List SV}{xs:List CV}(hx:e o=some (.ptr t 0))(hm:Put m t (.cells ty xs) m')(hcs:RepL R e cs xs):MSat G R e (O.set o (.cells ty cs)) m':=by
 have hlo:o<O.length:=by
  obtain⟨so',h1,_⟩:=h.dom o _ hx;exact(List.getElem?_eq_some_iff.1 h1).1
 obtain⟨_,_,_,hlt⟩:=h.lt hx rfl;have how:=h.own o _ t hx rfl;refine⟨h.fr.put hm hlt how.1,h.sk.put hm hlt how.2,h.le,h.rn,h.own,h.inj,fun i so hi=>?_,fun i z hz=>?_⟩
 ·rw[yc8]at hi;by_cases hq:o=i
  ·subst hq;rw[if_pos rfl,if_pos hlo]at hi;cases hi;exact .inr ⟨_,hx,t,xs,rfl,hm.self,hcs⟩
  ·rw[if_neg hq]at hi;rcases h.ob i so hi with h1 |⟨z,h1,h2⟩
   ·exact .inl h1
   ·exact .inr ⟨z,h1,h2.mono (RO.le.refl R) (DEnv.le.refl _) fun t' ht'=>by
     rw[hm.get,if_neg (by rintro rfl;exact hq (h.inj i o z _ t' h1 hx ht' rfl).symm)]⟩
 ·obtain⟨so,h1,h2⟩:=h.dom i z hz;by_cases hq:o=i
  ·subst hq;exact⟨_,by rw[yc8,if_pos rfl,if_pos hlo],by simp⟩
  ·exact⟨so,by rw[yc8,if_neg hq];exact h1,h2⟩
theorem MSat.putL(h:MSat G R e O m){o t:Nat}{x:CV}{so:SObj}{co:CO}(hx:e o=some x)(ht:tg x=some t)(hm:Put m t co m')(hne:so≠.dead)(hor:OR R e m' x so):MSat G R e (O.set o so) m':=by
 have hlo:o<O.length:=by
  obtain⟨so',h1,_⟩:=h.dom o _ hx;exact(List.getElem?_eq_some_iff.1 h1).1
 obtain⟨_,_,_,hlt⟩:=h.lt hx ht;have how:=h.own o _ t hx ht;refine⟨h.fr.put hm hlt how.1,h.sk.put hm hlt how.2,h.le,h.rn,h.own,h.inj,fun i so' hi=>?_,fun i z hz=>?_⟩
 ·rw[yc8]at hi;by_cases hq:o=i
  ·subst hq;rw[if_pos rfl,if_pos hlo]at hi;cases hi;exact .inr ⟨_,hx,hor⟩
  ·rw[if_neg hq]at hi;rcases h.ob i so' hi with h1 |⟨z,h1,h2⟩
   ·exact .inl h1
   ·exact .inr ⟨z,h1,h2.mono (RO.le.refl R) (DEnv.le.refl _) fun t' ht'=>by
     rw[hm.get,if_neg (by rintro rfl;exact hq (h.inj i o z _ t' h1 hx ht' ht).symm)]⟩
 ·obtain⟨so',h1,h2⟩:=h.dom i z hz;by_cases hq:o=i
  ·subst hq;exact⟨_,by rw[yc8,if_pos rfl,if_pos hlo],hne⟩
  ·exact⟨so',by rw[yc8,if_neg hq];exact h1,h2⟩
theorem OR.frozen{x:CV}{ty:TypeId}{sz n:Nat}{el:Nat->List SV}(h:OR R e m x (.list ty sz n el))(hR:∀t,tg x=some t->R t=none):∃R',R.le R'/\(∀t oo,R' t=some oo->R t=some oo\/(tg x=some t/\m.get t=some oo))/\∀e',Rep R' e' (.isl sz n el) x:=by
 rcases h with⟨h |⟨t,off,o,cs,h,h1,h2,h3,h4⟩,rfl⟩ |⟨t,c,xs,rfl,h0,h1,h2,h3,ha,h4⟩ |⟨t,xs,rfl,h2,h3,ha,h4⟩
 ·rcases zdD h with h |⟨a,h⟩
  ·subst h;exact⟨R,RO.le.refl R,fun t oo h=>.inl h,fun e'=>.islN⟩
  ·subst h;exact⟨R,RO.le.refl R,fun t oo h=>.inl h,fun e'=>.islV⟩
 ·subst h;exact⟨R,RO.le.refl R,fun t oo h=>.inl h,fun e'=>.islS h1 h2 (by simpa using h3) (Nat.le_refl _) h4 fun i hi=>by omega⟩
 ·have hle:=RO.le_add (R:=R) (a:=t) (o:=.cells ty xs) (hR t (zcD h0));refine⟨R.add t (.cells ty xs),hle,fun t' oo h=>?_,fun e'=>?_⟩
  ·unfold RO.add at h;split at h
   ·rename_i hq;subst hq;cases h;exact .inr ⟨zcD h0,h2⟩
   ·exact .inl h
  ·refine .islS RO.add_self rfl ?_ h1 ha fun i hi=>?_
   ·rw[<- h3,Nat.zero_add];exact yd2 _ h1
   ·rw[Nat.zero_add];exact(h4 i hi).mono hle (DEnv.le.refl _)
 ·have hle:=RO.le_add (R:=R) (a:=t) (o:=.opn ty sz xs) (hR t rfl);refine⟨R.add t (.opn ty sz xs),hle,fun t' oo h=>?_,fun e'=>?_⟩
  ·unfold RO.add at h;split at h
   ·rename_i hq;subst hq;cases h;exact .inr ⟨rfl,h2⟩
   ·exact .inl h
  ·refine .islO RO.add_self ?_ ha fun i hi=>?_
   ·rw[Nat.zero_add];exact h3
   ·rw[Nat.zero_add];exact(h4 i hi).mono hle (DEnv.le.refl _)
theorem MSat.freeze(h:MSat G R e O m){o:Nat}{ty:TypeId}{sz n:Nat}{el:Nat->List SV}(ho:O[o]? = some (.list ty sz n el)):
  ∃R',R.le R'/\(∀x,Rep R e (.lst o) x->Rep R' (e.put o none) (.isl sz n el) x)/\(∀i x,i≠o->e i=some x->e.put o none i=some x)/\MSat G R' (e.put o none) ((O.map (sbO o (.isl sz n el))).set o .dead) m:=by
 rcases h.ob o _ ho with h0 |⟨x,hx,hor⟩
 ·cases h0
 have hlo:o<O.length:=(List.getElem?_eq_some_iff.1 ho).1;obtain⟨R',hle,hR',hrep⟩:=hor.frozen fun t ht=>(h.own o x t hx ht).2
 have hr:∀y,Rep R e (.lst o) y->Rep R' (e.put o none) (.isl sz n el) y:=fun y hy=>by
  have:y=x:=by cases hy<;>(rename_i h1;rw[hx]at h1;cases h1;rfl)
  subst this;exact hrep _
 have he:∀i x,i≠o->e i=some x->e.put o none i=some x:=fun i z hi hz=>by rw[DEnv.put_ne _ _ hi];exact hz
 refine⟨R',hle,hr,he,h.fr,⟨h.sk.wf,fun t oo hh=>?_⟩,h.le.trans hle,fun t oo hh=>?_,fun i z t hz ht=>?_,fun i j z w t hz hw hzt hwt=>?_,fun i so hi=>?_,fun i z hz=>?_⟩
 ·rcases hR' t oo hh with h1 |⟨_,h1⟩
  ·exact h.sk.ro t oo h1
  ·exact h1
 ·rcases hR' t oo hh with h1 |⟨h1,_⟩
  ·exact h.rn t oo h1
  ·exact .inr (h.own o x t hx h1).1
 ·unfold DEnv.put at hz;split at hz
  ·cases hz
  ·rename_i hq;refine⟨(h.own i z t hz ht).1,?_⟩;cases hh:R' t with
   |none=>rfl
   |some oo=>
    rcases hR' t oo hh with h1 |⟨h1,_⟩
    ·rw[(h.own i z t hz ht).2]at h1;cases h1
    ·exact absurd (h.inj i o z x t hz hx ht h1) hq
 ·unfold DEnv.put at hz hw;split at hz<;>split at hw<;>first |(cases hz;done) |(cases hw;done) |exact h.inj i j z w t hz hw hzt hwt
 ·rw[yc8]at hi;by_cases hq:o=i
  ·subst hq;rw[if_pos rfl,if_pos (by simpa using hlo)]at hi;cases hi;exact .inl rfl
  ·rw[if_neg hq,yb9]at hi;cases hO:O[i]? with
   |none=>rw[hO]at hi;cases hi
   |some s0=>
    rw[hO]at hi;cases hi;rcases h.ob i s0 hO with rfl |⟨z,h1,h2⟩
    ·exact .inl rfl
    ·refine .inr ⟨z,he i z (fun hh=>hq hh.symm) h1,?_⟩;cases s0 with
     |dead=>exact h2
     |cells ty cs=>
      obtain⟨t,xs,rfl,h3,h4⟩:=h2;exact⟨t,xs,rfl,h3,h4.sb hle he hr zah⟩
     |list ty sz n el=>exact OR.mono (e:=e) (e':=e) hle (DEnv.le.refl _) h2 fun _ _=>rfl
     |map c f st=>exact OR.mono (e:=e) (e':=e) hle (DEnv.le.refl _) h2 fun _ _=>rfl
 ·unfold DEnv.put at hz;split at hz
  ·cases hz
  ·rename_i hq;obtain⟨s0,h1,h2⟩:=h.dom i z hz;refine⟨sbO o (.isl sz n el) s0,by rw[yc8,if_neg (fun hh=>hq hh.symm),yb9,h1];rfl,?_⟩;cases s0<;>simp[sbO]at h2 ⊢
end
end Go.Cx
namespace Go.Cx
open Go
inductive DPlc where
 |slot (s:Nat)
 |cell (o off:Nat)
structure DCfg where
 wrap:Bool:=false
 ann:List (Nat×List Nat):=[]
 cut:List (Nat×List Nat):=[]
 nils:List (Nat×List (DPlc×TypeId×Nat)):=[]
 words:List TypeId:=[]
 glb:List (Nat×List CV):=[]
 yl:Nat:=0
 ys:Nat->Option (List SV):=fun _=>none
 pans:List FuncId:=[]
def zuE:CV->SV
 |.fn f [] []=>.fn f [] []
 |.fn _ _ _=>.junk
 |.ptr _ _=>.junk
 |.slc _ _ _ _=>.junk
 |.opn _ _ _=>.junk
 |.emp _ _ _=>.junk
 |.map _=>.junk
 |.ifc _ _=>.junk
 |.agg _=>.junk
 |.tup _=>.junk
 |.res _ _ _ _=>.junk
 |.void _=>.junk
 |x=>.cv x
def svL:List CV->List SV
 |[]=>[]
 |x::xs=>zuE x::svL xs
def zrG:CV->SV
 |.agg cs=>.agg (svL cs)
 |.tup []=>.tup []
 |x=>zuE x
def zdR:List SV->Nat->SV
 |[],_=>.junk
 |x::_,0=>x
 |_::xs,n+1=>zdR xs n
def zjO(g:Nat):List (Nat×List CV)->SV
 |[]=>.junk
 |(i,cs)::r=>match Nat.beq i g with
  |true=>.ipt (svL cs) 0
  |false=>zjO g r
noncomputable def evD(c:DCfg)(T:List SV):Operand->SV
 |.tmp i=>zdR T i
 |.const v=>match ofV v with
  |some x=>zrG x
  |none=>.junk
 |.global g=>match Nat.blt g 64 with
  |true=>zjO g c.glb
  |false=>.junk
 |.func f=>.fn f [] []
def fzC(x:CV)(k:CV->Prop):Prop:=match x with
 |.bool b=>k (.bool b)
 |.int a n=>k (.int a n)
 |.str s=>k (.str s)
 |.nilp=>k .nilp
 |.nils=>k .nils
 |.nilf=>k .nilf
 |.nilm=>k .nilm
 |.nili=>k .nili
 |.yld l=>k (.yld l)
 |x=>k x
def fz1(v:SV)(k:SV->Prop):Prop:=match v with
 |.junk=>k .junk
 |.cv x=>fzC x fun x=>k (.cv x)
 |.agg cs=>k (.agg cs)
 |.tup cs=>k (.tup cs)
 |.ptr o off=>k (.ptr o off)
 |.ept o sz i off=>k (.ept o sz i off)
 |.lst o=>k (.lst o)
 |.sub o off n c=>k (.sub o off n c)
 |.isl sz n el=>k (.isl sz n el)
 |.islx sz n el=>k (.islx sz n el)
 |.ipt cs off=>k (.ipt cs off)
 |.emp=>k .emp
 |.fn f a b=>k (.fn f a b)
 |.map o=>k (.map o)
 |.ifc ty v=>k (.ifc ty v)
def fzV(v:SV)(k:SV->Prop):Prop:=match v with
 |.agg cs=>zbq fz1 cs fun cs=>k (.agg cs)
 |.tup cs=>zbq fz1 cs fun cs=>k (.tup cs)
 |.ipt cs off=>zbq fz1 cs fun cs=>k (.ipt cs off)
 |.fn f a b=>zbq fz1 a fun a=>zbq fz1 b fun b=>k (.fn f a b)
 |v=>fz1 v k
theorem zqW(x:CV)(k:CV->Prop):fzC x k=k x:=by cases x<;>rfl
theorem zgr(v:SV)(k:SV->Prop):fz1 v k=k v:=by
 cases v<;>simp only[fz1];rw[zqW]
theorem zeS{f:SV->(SV->Prop)->Prop}(h:∀v k,f v k=k v)(l:List SV)(k:List SV->Prop):zbq f l k=k l:=by
 rw[zaf (g:=id) h];simp
theorem zrT(v:SV)(k:SV->Prop):fzV v k=k v:=by
 cases v<;>simp only[fzV,zgr,zeS zgr]
def knK(v:SV)(k:SV->Prop):Prop:=fzV v fun v=>match v with
 |.junk=>False
 |v=>k v
theorem zcN{v:SV}{k:SV->Prop}(h:knK v k):v≠.junk/\k v:=by
 unfold knK at h;rw[zrT]at h;cases v<;>first |exact h.elim |exact⟨by simp,h⟩
noncomputable def zaU(c:DCfg)(T:List SV)(x:Operand)(k:SV->Prop):Prop:=knK (evD c T x) k
noncomputable def zej(c:DCfg)(T:List SV):List Operand->(List SV->Prop)->Prop
 |[],k=>k []
 |x::xs,k=>zaU c T x fun v=>zej c T xs fun vs=>k (v::vs)
noncomputable def zrc(c:DCfg)(T:List SV):List (Nat×Operand)->(List (Nat×SV)->Prop)->Prop
 |[],k=>k []
 |(i,x)::xs,k=>zaU c T x fun v=>zrc c T xs fun vs=>k ((i,v)::vs)
noncomputable def zmB(c:DCfg)(T:List SV):Option Operand->(Option SV->Prop)->Prop
 |none,k=>k none
 |some x,k=>zaU c T x fun v=>k (some v)
def GlbOk(gl:List (Nat×List CV))(R:RO):Prop:=∀g cs,(g,cs)∈gl->∃o,R g=some o/\zjK o=some cs/\cs.all one=true
inductive RepPs (R:RO) (e:DEnv):List (Nat×SV)->List (Nat×CV)->Prop
 |nil:RepPs R e [] []
 |cons {i v x vs xs}:Rep R e v x->RepPs R e vs xs->RepPs R e ((i,v)::vs) ((i,x)::xs)
inductive RepOp (R:RO) (e:DEnv):Option SV->Option CV->Prop
 |none:RepOp R e none none
 |some {v x}:Rep R e v x->RepOp R e (some v) (some x)
section
variable{c:DCfg}{R:RO}{e:DEnv}{T:List SV}{t:Tmps}
theorem zcC:∀(l:List SV) (i:Nat),zdR l i=l.getD i .junk
 |[],_=>rfl
 |_::_,0=>rfl
 |_::xs,n+1=>by rw[zdR,zcC xs n];rfl
theorem zlY{e:DEnv}:∀(x:CV),Rep R e (zuE x) x
 |.fn f a b=>by
  cases a with
  |nil=>cases b with
   |nil=>exact .fn .nil .nil
   |cons _ _=>exact .junk
  |cons _ _=>exact .junk
 |.bool _=>.cv rfl
 |.int _ _=>.cv rfl
 |.str _=>.cv rfl
 |.yld _=>.cv rfl
 |.nilp=>.cv rfl
 |.nils=>.cv rfl
 |.nilf=>.cv rfl
 |.nilm=>.cv rfl
 |.nili=>.cv rfl
 |.ptr _ _=>.junk
 |.slc _ _ _ _=>.junk
 |.opn _ _ _=>.junk
 |.emp _ _ _=>.junk
 |.map _=>.junk
 |.ifc _ _=>.junk
 |.agg _=>.junk
 |.tup _=>.junk
 |.res _ _ _ _=>.junk
 |.void _=>.junk
theorem zdx{e:DEnv}:∀(l:List CV),RepL R e (svL l) l
 |[]=>.nil
 |x::xs=>.cons (zlY x) (zdx xs)
theorem zdB{e:DEnv}(x:CV):Rep R e (zrG x) x:=by
 cases x with
 |agg cs=>exact .agg (zdx cs)
 |tup cs=>cases cs with
  |nil=>exact .tup .nil
  |cons _ _=>exact .junk
 |fn f a b=>exact zlY (.fn f a b)
 |_=>first |exact Rep.junk |exact Rep.cv rfl
theorem zfN:∀(l:List CV),(svL l).length=l.length
 |[]=>rfl
 |_::xs=>by simp[svL,zfN xs]
theorem ztS{gl:List (Nat×List CV)}{g:Nat}(h:GlbOk gl R):zjO g gl=.junk\/Rep R e (zjO g gl) (.ptr g 0):=by
 induction gl with
 |nil=>exact .inl rfl
 |cons p r ih=>
  obtain⟨i,cs⟩:=p;simp only[zjO,zdG];split
  ·rename_i hq;simp at hq;subst hq;obtain⟨o,h1,h2,h0⟩:=h i cs (ya5 ..);refine .inr ?_;have:Rep R e (.ipt (svL cs) 0) (.ptr i (0+0)):=.ipt h1 h2 (by rw[zfN];omega) h0 (by
    rw[zfN];unfold seg;simp only[List.drop_zero,List.take_length];exact zdx cs)
   exact this
  ·exact ih fun g cs hm=>h g cs (ya4 _ hm)
theorem zab(hg:GlbOk c.glb R)(h:TSat R e T t){x:Operand}{k:SV->Prop}(hx:zaU c T x k):∃v y,evO t x=some y/\Rep R e v y/\k v:=by
 obtain⟨h1,h2⟩:=zcN hx;refine⟨evD c T x,?_⟩;cases x with
 |tmp i=>
  change zdR T i≠.junk at h1
  rw[zcC,ya8]at h1;cases hT:T[i]? with
  |none=>rw[hT]at h1;exact absurd rfl h1
  |some v=>
   rw[hT]at h1;rcases h.get i v hT with rfl |⟨y,h3,h4⟩
   ·exact absurd rfl h1
   ·refine⟨y,h3,?_,h2⟩;show Rep R e (zdR T i) y;rw[zcC,ya8,hT];exact h4
 |const u=>
  show ∃y,ofV u=some y/\_;cases hu:ofV u with
  |none=>exact absurd (show evD c T (.const u)=.junk by simp[evD,hu]) h1
  |some y=>
   refine⟨y,rfl,?_,h2⟩;show Rep R e (match ofV u with |some x=>zrG x |none=>.junk) y;rw[hu];exact zdB y
 |global g=>
  have h0:evD c T (.global g)=(match Nat.blt g 64 with |true=>zjO g c.glb |false=>.junk):=rfl;cases hb:Nat.blt g 64 with
  |false=>rw[h0,hb]at h1;exact absurd rfl h1
  |true=>
   rw[h0,hb]at h1 ⊢;refine⟨.ptr g 0,?_,(ztS hg).resolve_left h1,by rw[h0,hb]at h2;exact h2⟩;show Bool.rec (motive:=fun _=>Option CV) none (some (.ptr g 0)) (Nat.blt g 64)=_;rw[hb]
 |func f=>exact⟨.fn f [] [],rfl,.fn .nil .nil,h2⟩
theorem zbz(hg:GlbOk c.glb R)(h:TSat R e T t):∀{l:List Operand} {k:List SV->Prop},zej c T l k->∃vs ys,evL t l=some ys/\RepL R e vs ys/\k vs
 |[],k,hk=>⟨[],[],rfl,.nil,hk⟩
 |x::xs,k,hk=>by
  obtain⟨v,y,h1,h2,hk⟩:=zab hg h hk;obtain⟨vs,ys,h3,h4,hk⟩:=zbz hg h hk;exact⟨v::vs,y::ys,by simp[evL,h1,h3],.cons h2 h4,hk⟩
theorem zfE(hg:GlbOk c.glb R)(h:TSat R e T t):∀{l:List (Nat×Operand)} {k:List (Nat×SV)->Prop},zrc c T l k->∃vs ys,evP t l=some ys/\RepPs R e vs ys/\k vs
 |[],k,hk=>⟨[],[],rfl,.nil,hk⟩
 |(i,x)::xs,k,hk=>by
  obtain⟨v,y,h1,h2,hk⟩:=zab hg h hk;obtain⟨vs,ys,h3,h4,hk⟩:=zfE hg h hk;exact⟨(i,v)::vs,(i,y)::ys,by simp[evP,h1,h3],.cons h2 h4,hk⟩
theorem zfA(hg:GlbOk c.glb R)(h:TSat R e T t){x:Option Operand}{k:Option SV->Prop}(hk:zmB c T x k):∃v y,zef t x=some y/\RepOp R e v y/\k v:=by
 cases x with
 |none=>exact⟨none,none,rfl,.none,hk⟩
 |some x=>
  obtain⟨v,y,h1,h2,hk⟩:=zab hg h hk;exact⟨some v,some y,by simp[zef,h1],.some h2,hk⟩
end
def zh4:SV->Option (List SV)
 |.agg cs=>some cs
 |.tup _=>none
 |.junk=>none
 |v=>some [v]
def zv0:SV->Bool
 |.agg _=>false
 |.tup _=>false
 |.junk=>false
 |_=>true
def zhT:List SV->Bool
 |[]=>true
 |v::vs=>match zv0 v with
  |true=>zhT vs
  |false=>false
def zcd{A:Type}:List A->Nat
 |[]=>0
 |_::r=>Nat.succ (zcd r)
theorem zat{A:Type}:∀(l:List A),zcd l=l.length
 |[]=>rfl
 |_::r=>by simp[zcd,zat r]
def zcI{A:Type}:List A->Nat->A->(List A->Prop)->Prop
 |[],_,_,k=>k []
 |_::xs,0,v,k=>k (v::xs)
 |x::xs,n+1,v,k=>zcI xs n v fun r=>k (x::r)
theorem zav{A:Type}:∀(l:List A) (n:Nat) (v:A) (k:List A->Prop),zcI l n v k=k (l.set n v)
 |[],_,_,_=>rfl
 |_::_,0,_,_=>rfl
 |x::xs,n+1,v,k=>by rw[zcI,zav xs n v];rfl
def wrS:List SV->Nat->List SV->List SV
 |cs,_,[]=>cs
 |cs,off,v::vs=>wrS (cs.set off v) (off+1) vs
def zvW:List SV->Nat->List SV->(List SV->Prop)->Prop
 |cs,_,[],k=>k cs
 |cs,off,v::vs,k=>zcI cs off v fun cs=>zvW cs (off+1) vs k
theorem zfR:∀(vs cs:List SV) (off:Nat) (k:List SV->Prop),zvW cs off vs k=k (wrS cs off vs)
 |[],_,_,_=>rfl
 |v::vs,cs,off,k=>by rw[zvW,zav,zfR vs];rfl
def zn4:List SV->Nat->(List SV->Prop)->Prop
 |_,0,k=>k []
 |[],_+1,k=>k []
 |x::xs,n+1,k=>zn4 xs n fun l=>k (x::l)
theorem zk4:∀(l:List SV) (n:Nat) (k:List SV->Prop),zn4 l n k=k (l.take n)
 |[],0,_=>rfl
 |_::_,0,_=>rfl
 |[],_+1,_=>rfl
 |x::xs,n+1,k=>by rw[zn4,zk4 xs n];rfl
def zo9:List SV->Nat->(List SV->Prop)->Prop
 |l,0,k=>k l
 |[],_+1,k=>k []
 |_::xs,n+1,k=>zo9 xs n k
theorem zmn:∀(l:List SV) (n:Nat) (k:List SV->Prop),zo9 l n k=k (l.drop n)
 |[],0,_=>rfl
 |_::_,0,_=>rfl
 |[],_+1,_=>rfl
 |x::xs,n+1,k=>by rw[zo9,zmn xs n];rfl
def zxy(l:List SV)(off n:Nat)(k:List SV->Prop):Prop:=zo9 l off fun l=>zn4 l n k
theorem zu2(l:List SV)(off n:Nat)(k:List SV->Prop):zxy l off n k=k ((l.drop off).take n):=by
 unfold zxy;rw[zmn,zk4]
noncomputable def zkM(P:Program)(ty:TypeId)(cs:List SV)(off:Nat)(k:SV->Prop):Prop:=match zdT P ty with
 |some none=>knK (zdR cs off) k
 |some (some n)=>match Nat.ble (off+n) (zcd cs) with
  |true=>zxy cs off n fun l=>k (.agg l)
  |false=>False
 |none=>False
noncomputable def zpo(place:Nat->Option (Nat×Nat))(cells:List SV):List (Nat×SV)->(List SV->Prop)->Prop
 |[],k=>k cells
 |(i,v)::rest,k=>match place i,zh4 v with
  |some (off,size),some vs=>match Nat.beq (zcd vs) size&&Nat.ble (off+zcd vs) (zcd cells) with
   |true=>zvW cells off vs fun cells=>zpo place cells rest k
   |false=>False
  |_,_=>False
section
variable{R:RO}{e:DEnv}
theorem Rep.cells{v:SV}{x:CV}{vs:List SV}(h:Rep R e v x)(hv:zh4 v=some vs):∃ys,zeO x=some ys/\RepL R e vs ys:=by
 cases h<;>simp only[zh4,ya0,reduceCtorEq]at hv<;>subst hv
 case cv h=>cases x<;>simp[zj0]at h<;>exact⟨_,rfl,.cons (.cv rfl) .nil⟩
 case agg h=>exact⟨_,rfl,h⟩
 case ptr h=>exact⟨_,rfl,.cons (.ptr h) .nil⟩
 case eptS h=>exact⟨_,rfl,.cons (.eptS h) .nil⟩
 case eptO h=>exact⟨_,rfl,.cons (.eptO h) .nil⟩
 case lstN h=>exact⟨_,rfl,.cons (.lstN h) .nil⟩
 case lstV h=>exact⟨_,rfl,.cons (.lstV h) .nil⟩
 case lstS h=>exact⟨_,rfl,.cons (.lstS h) .nil⟩
 case lstE h=>exact⟨_,rfl,.cons (.lstE h) .nil⟩
 case lstO h=>exact⟨_,rfl,.cons (.lstO h) .nil⟩
 case sub h=>exact⟨_,rfl,.cons (.sub h) .nil⟩
 case islN=>exact⟨_,rfl,.cons .islN .nil⟩
 case islV=>exact⟨_,rfl,.cons .islV .nil⟩
 case islE=>exact⟨_,rfl,.cons .islE .nil⟩
 case islS h1 h2 h3 h4 h0 h5=>exact⟨_,rfl,.cons (.islS h1 h2 h3 h4 h0 h5) .nil⟩
 case islO h1 h2 h0 h3=>exact⟨_,rfl,.cons (.islO h1 h2 h0 h3) .nil⟩
 case islx h=>exact⟨_,by cases h<;>rfl,.cons (.islx h) .nil⟩
 case ipt h1 h2 h3 h0 h4=>exact⟨_,rfl,.cons (.ipt h1 h2 h3 h0 h4) .nil⟩
 case empN=>exact⟨_,rfl,.cons .empN .nil⟩
 case empV=>exact⟨_,rfl,.cons .empV .nil⟩
 case empS h=>exact⟨_,rfl,.cons (.empS h) .nil⟩
 case fn ha hb=>exact⟨_,rfl,.cons (.fn ha hb) .nil⟩
 case map h=>exact⟨_,rfl,.cons (.map h) .nil⟩
 case ifc h=>exact⟨_,rfl,.cons (.ifc h) .nil⟩
theorem Rep.one{v:SV}{x:CV}(h:Rep R e v x)(hv:zv0 v=true):one x=true:=by
 cases h<;>simp[zv0]at hv
 case cv h=>cases x<;>simp[zj0]at h<;>rfl
 case islx h=>cases h<;>rfl
 all_goals rfl
theorem RepL.all{vs:List SV}{xs:List CV}(h:RepL R e vs xs)(hv:zhT vs=true):xs.all Go.Cx.one=true:=by
 induction vs generalizing xs with
 |nil=>cases h;rfl
 |cons v vs ih=>
  cases h with
  |cons h hs=>
   unfold zhT at hv;split at hv
   ·rename_i ho;rw[List.all_cons,h.one ho,ih hs hv];rfl
   ·cases hv
theorem RepL.wr:∀{us vs:List SV} {xs ys:List CV} {off:Nat},RepL R e vs xs->RepL R e us ys->RepL R e (wrS vs off us) (zax xs off ys)
 |_,_,_,_,_,h,.nil=>h
 |_,_,_,_,off,h,.cons hv hs=>by
  have h1:=RepL.set off h hv;have h2:=RepL.wr (off:=off+1) h1 hs;exact h2
theorem RepL.seg{vs:List SV}{xs:List CV}(h:RepL R e vs xs)(off n:Nat):RepL R e ((vs.drop off).take n) ((xs.drop off).take n):=(h.drop off).take n
theorem RepL.nth{vs:List SV}{xs:List CV}{i:Nat}(h:RepL R e vs xs)(hi:zdR vs i≠.junk):∃x,Go.Cx.nth xs i=some x/\Rep R e (zdR vs i) x:=by
 rw[zcC,ya8]at hi ⊢;cases hv:vs[i]? with
 |none=>rw[hv]at hi;exact absurd rfl hi
 |some v=>
  obtain⟨x,h1,h2⟩:=h.get hv;exact⟨x,by rw[zbG,h1],h2⟩
theorem zdz{P:Program}{ty:TypeId}{vs:List SV}{xs:List CV}{off:Nat}{k:SV->Prop}(h:RepL R e vs xs)(hk:zkM P ty vs off k):∃v x,part P ty xs off=some x/\Rep R e v x/\k v:=by
 unfold zkM at hk;split at hk
 ·rename_i ha;obtain⟨h1,h2⟩:=zcN hk;obtain⟨x,h3,h4⟩:=h.nth h1;exact⟨_,x,by unfold part;rw[ha];exact h3,h4,h2⟩
 ·rename_i n ha;split at hk
  ·rename_i hb;rw[zu2]at hk;have hb':=ya9 hb;rw[zat,h.length]at hb';refine⟨_,.agg ((xs.drop off).take n),?_,.agg (h.seg off n),hk⟩;unfold part;rw[ha];simp only[zcZ,yb1 hb']
  ·exact hk.elim
 ·exact hk.elim
theorem ze0{place:Nat->Option (Nat×Nat)}:∀{ps:List (Nat×SV)} {qs:List (Nat×CV)} {vs:List SV} {xs:List CV} {k:List SV->Prop},RepL R e vs xs->RepPs R e ps qs->zpo place vs ps k->∃vs' xs',zgu place xs qs=some xs'/\RepL R e vs' xs'/\k vs'
 |_,_,vs,xs,k,h,.nil,hk=>⟨vs,xs,rfl,h,hk⟩
 |_,_,vs,xs,k,h,.cons (i:=i) hv hs,hk=>by
  unfold zpo at hk;split at hk
  ·rename_i off size ws hp hc;split at hk
   ·rename_i hb;rw[zfR]at hk;obtain⟨ys,h1,h2⟩:=hv.cells hc;rw[zat,zat,h2.length,h.length]at hb;obtain⟨vs',xs',h3,h4,h5⟩:=ze0 (h.wr (off:=off) h2) hs hk;exact⟨vs',xs',by unfold zgu;simp only[hp,h1,hb];exact h3,h4,h5⟩
   ·exact hk.elim
  ·exact hk.elim
end
def zwb(n:Nat)(k:Nat->Prop):Prop:=match n with
 |0=>k 0 |1=>k 1 |2=>k 2 |3=>k 3 |4=>k 4 |5=>k 5 |6=>k 6 |7=>k 7 |8=>k 8 |9=>k 9 |10=>k 10 |11=>k 11 |12=>k 12 |13=>k 13 |14=>k 14 |15=>k 15 |16=>k 16 |17=>k 17 |18=>k 18 |19=>k 19 |20=>k 20
 |n=>k n
theorem zmz(n:Nat)(k:Nat->Prop):zwb n k=k n:=by unfold zwb;split<;>rfl
def zrL:List SObj->SObj->(List SObj->Prop)->Prop
 |[],so,k=>k [so]
 |x::xs,so,k=>zrL xs so fun l=>k (x::l)
theorem zkG:∀(l:List SObj) (so:SObj) (k:List SObj->Prop),zrL l so k=k (l++[so])
 |[],_,_=>rfl
 |x::xs,so,k=>by rw[zrL,zkG xs so];rfl
def zpi(O:List SObj)(so:SObj)(k:Nat->List SObj->Prop):Prop:=zwb (zcd O) fun n=>zrL O so fun O=>k n O
theorem zbE(O:List SObj)(so:SObj)(k:Nat->List SObj->Prop):zpi O so k=k O.length (O++[so]):=by
 unfold zpi;rw[zmz,zkG,zat]
def zbt:List SObj->Nat->SObj
 |[],_=>.dead
 |x::_,0=>x
 |_::xs,n+1=>zbt xs n
theorem zdA:∀(l:List SObj) (i:Nat),zbt l i=l.getD i .dead
 |[],_=>rfl
 |_::_,0=>rfl
 |_::xs,n+1=>by rw[zbt,zdA xs n];rfl
theorem zay{l:List SObj}{i:Nat}{so:SObj}(h:zbt l i=so)(hn:so≠.dead):l[i]? = some so:=by
 rw[zdA,ya8]at h;cases hl:l[i]? with
 |none=>rw[hl]at h;exact absurd h.symm hn
 |some x=>rw[hl]at h;simp at h;rw[h]
abbrev DK:=SV->List SV->List SObj->Prop
structure Gone(G:Ctx)(R:RO)(e:DEnv)(t:Tmps)(K:DK)(x:CV)(m:Mem):Prop where
 ex:∃R' e' v T O,R.le R'/\(∀o u,e o=some (PM.c u)->e' o=some (PM.c u))/\Rep R' e' v x/\TSat R' e' T t/\MSat G R' e' O m/\K v T O
inductive OpRes (P:Program) (X:Ext) (op:Op) (m:Mem) (t:Tmps) (x:CV):Mem->Prop
 |val:cop P op m t=.val x->OpRes P X op m t x m
 |mem {m'}:cop P op m t=.mem x m'->OpRes P X op m t x m'
 |call {f args m'}:cop P op m t=.call f args->Ev P X (.call f args m) (.ret x m')->OpRes P X op m t x m'
theorem OpRes.after{P:Program}{X:Ext}{op:Op}{m m':Mem}{t:Tmps}{x:CV}(h:OpRes P X op m t x m'):Evt P X (fun ih=>∀r k dst ds,Go.Cx.after ih r k dst t ds m (cop P op m t)=zlS k dst x t ds m'):=by
 cases h with
 |val h=>exact .all fun ih r k dst ds=>by rw[h];rfl
 |mem h=>exact .all fun ih r k dst ds=>by rw[h];rfl
 |call h1 h2=>exact h2.mono fun ih he r k dst ds=>by rw[h1];simp only[Go.Cx.after,he,zjL]
def zrO(P:Program)(X:Ext)(G:Ctx)(R:RO)(e:DEnv)(op:Op)(m:Mem)(t:Tmps)(K:DK):Prop:=
 ∃x m',OpRes P X op m t x m'/\Gone G R e t K x m'
section
variable{P:Program}{X:Ext}{G:Ctx}{R:RO}{e:DEnv}{op:Op}{m:Mem}{t:Tmps}{K:DK}{T:List SV}{O:List SObj}
theorem zau{x:CV}{v:SV}(h:cop P op m t=.val x)(hv:Rep R e v x)(hT:TSat R e T t)(hM:MSat G R e O m)(hk:K v T O):zrO P X G R e op m t K:=
 ⟨x,m,.val h,R,e,v,T,O,RO.le.refl R,fun _ _ h=>h,hv,hT,hM,hk⟩
theorem za1{x:CV}{m':Mem}(h:cop P op m t=.mem x m')(hg:Gone G R e t K x m'):zrO P X G R e op m t K:=
 ⟨x,m',.mem h,hg⟩
theorem zjq{x:CV}(h:cop P op m t=.val x)(hg:Gone G R e t K x m):zrO P X G R e op m t K:=
 ⟨x,m,.val h,hg⟩
theorem zfd{co:CO}{m':Mem}{x y:CV}{v:SV}{so:SObj}(hM:MSat G R e O m)(hT:TSat R e T t)(hn:New m m.nxt co m')(hx:tg x=some m.nxt)(hrec:zcl co=false)(hne:so≠.dead)
  (hor:∀e',e.le e'->OR R e' m' x so) (hv:∀e',e' O.length=some x->Rep R e' v y) (hp:∀o u,e o=some (PM.c u)->True) (hk:K v T (O++[so])):Gone G R e t K y m':=by
 obtain⟨h1,h2⟩:=hM.new hn hx hrec hne hor;exact⟨R,_,v,T,_,RO.le.refl R,fun o u h=>h1 _ _ h,hv _ (DEnv.put_self ..),hT.mono (RO.le.refl R) h1,h2,hk⟩
end
end Go.Cx
namespace Go.Cx
open Go
theorem zdv{l:List CV}{a n b k:Nat}(h:b+k<=n):seg (seg l a n) b k=seg l (a+b) k:=by
 unfold seg;rw[List.drop_take,List.take_take,List.drop_drop,Nat.min_eq_left (by omega)]
theorem za6{l:List CV}{a n:Nat}(h:a+n<=l.length):(seg l a n).length=n:=by
 unfold seg;rw[List.length_take,List.length_drop];omega
theorem zhk{l:List CV}{a n:Nat}(h:a+n<=l.length):zcZ l a n=some (seg l a n):=by
 unfold zcZ;rw[yb1 h];rfl
theorem zfS{l:List CV}(h:l.all one=true)(a n:Nat):(seg l a n).all one=true:=by
 rw[List.all_eq_true]at *;exact fun x hx=>h x (List.mem_of_mem_drop (List.mem_of_mem_take hx))
theorem zci{i n sz:Nat}(h:i<n):i*sz+sz<=n*sz:=by
 have:=yd2 sz (show i+1<=n by omega);rw[Nat.add_mul,Nat.one_mul]at this;exact this
def zgA(sz:Nat)(O:List SObj):SV->Option (Nat×(Nat->List SV))
 |.cv .nils=>some (0,fun _=>[])
 |.emp=>some (0,fun _=>[])
 |.isl s n el=>match Nat.beq s sz with
  |true=>some (n,el)
  |false=>none
 |.islx s n el=>match Nat.beq s sz with
  |true=>some (n,el)
  |false=>none
 |.lst o=>match zbt O o with
  |.list _ s n el=>match Nat.beq s sz with
   |true=>some (n,el)
   |false=>none
  |_=>none
 |_=>none
section
variable{P:Program}{X:Ext}{G:Ctx}{R:RO}{e:DEnv}{op:Op}{m:Mem}{t:Tmps}{K:DK}{T:List SV}{O:List SObj}
theorem zc8{tt:Nat}{o:CO}{cs:List CV}{off n c sz:Nat}(hg:m.get tt=some o)(hr:zjK o=some cs)(hl:off+n*sz<=cs.length):elems m sz (.slc tt off n c)=some (n,seg cs off (n*sz)):=by
 have ht:=zhk hl;unfold elems;cases o<;>simp[zjK]at hr<;>subst hr<;>simp only[hg,ht]
theorem zhj{tt:Nat}{ty:TypeId}{cs:List CV}{k n sz:Nat}(hg:m.get tt=some (.opn ty sz cs))(hl:(k+n)*sz<=cs.length):elems m sz (.opn tt k n)=some (n,seg cs (k*sz) (n*sz)):=by
 have ht:=zhk (l:=cs) (a:=k*sz) (n:=n*sz) (by rw[<- Nat.add_mul];exact hl);unfold elems;simp only[hg,ht,show Nat.beq sz sz=true from Nat.beq_refl sz]
theorem zt1{sz n:Nat}{v:SV}{x:CV}{el:Nat->List SV}(hM:MSat G R e O m)(hv:Rep R e v x)(h:zgA sz O v=some (n,el)):
  ∃l,elems m sz x=some (n,l)/\l.length=n*sz/\l.all one=true/\∀i,i<n->RepL R noE (el i) (seg l (i*sz) sz):=by
 have zero:∀{y:CV} {l:List CV},elems m sz y=some (0,l)->l=[]->∃l,elems m sz y=some (0,l)/\l.length=0*sz/\l.all one=true/\∀i,i<0->RepL R noE (el i) (seg l (i*sz) sz):=fun h hl=>⟨_,h,by rw[hl];simp,by rw[hl];rfl,fun i hi=>by omega⟩
 have slc0:∀{tt off c:Nat},(∃o cs,R tt=some o/\zjK o=some cs/\off<=cs.length)->elems m sz (.slc tt off 0 c)=some (0,[]):=by
  rintro tt off c ⟨o,cs,h1,h2,h3⟩;have:=zc8 (m:=m) (c:=c) (n:=0) (sz:=sz) (hM.sk.ro _ _ h1) h2 (by simpa using h3);rw[this];simp[seg]
 have own:∀{o:Nat} {ty:TypeId},e o=some x->zbt O o=.list ty sz n el->∃l,elems m sz x=some (n,l)/\l.length=n*sz/\l.all one=true/\∀i,i<n->RepL R noE (el i) (seg l (i*sz) sz):=by
  intro o ty hx ho;rcases hM.ob o _ (zay ho (by simp))with h0 |⟨y,hy,hor⟩
  ·cases h0
  ·rw[hx]at hy;cases hy;rcases hor with⟨hq0 |⟨t',off,o',cs,hq0,h1,h2,h3,h4⟩,rfl⟩ |⟨t',c,xs,rfl,h0,h1,h2,h3,ha,h4⟩ |⟨t',xs,rfl,h2,h3,ha,h4⟩
   ·rcases zdD hq0 with h |⟨a,h⟩
    ·subst h;exact zero rfl rfl
    ·subst h;exact zero rfl rfl
   ·subst hq0;exact zero (slc0 ⟨o',cs,h1,h2,h3⟩) rfl
   ·have hl:0+n*sz<=xs.length:=by rw[<- h3];have:=yd2 sz h1;omega
    refine⟨_,zc8 h2 rfl hl,za6 hl,zfS ha _ _,fun i hi=>?_⟩;rw[zdv (zci hi),Nat.zero_add];exact h4 i hi
   ·have hl:(0+n)*sz<=xs.length:=by rw[Nat.zero_add];exact h3
    refine⟨_,zhj h2 hl,za6 (by rw[Nat.zero_mul,Nat.zero_add];exact h3),zfS ha _ _,fun i hi=>?_⟩;rw[zdv (zci hi),Nat.zero_mul,Nat.zero_add];exact h4 i hi
 have lst:∀{o:Nat},e o=some x->zgA sz O (.lst o)=some (n,el)->∃l,elems m sz x=some (n,l)/\l.length=n*sz/\l.all one=true/\∀i,i<n->RepL R noE (el i) (seg l (i*sz) sz):=by
  intro o hx h;have h':(match zbt O o with
   |.list _ s n el=>(match Nat.beq s sz with
    |true=>some (n,el)
    |false=>none)
   |_=>none)=some (n,el):=h
  cases hO:zbt O o with
  |dead=>rw[hO]at h';cases h'
  |cells _ _=>rw[hO]at h';cases h'
  |map _ _ _=>rw[hO]at h';cases h'
  |list ty s n' el'=>
   rw[hO]at h';by_cases hq:s=sz
   ·subst hq;have h2:(match Nat.beq s s with |true=>some (n',el') |false=>none)=some (n,el):=h';rw[Nat.beq_refl]at h2;cases h2;exact own hx hO
   ·have h2:(match Nat.beq s sz with |true=>some (n',el') |false=>none)=some (n,el):=h';rw[zkQ hq]at h2;cases h2
 have isl:∀{s k:Nat} {el':Nat->List SV},Rep R e (.isl s k el') x->zgA sz O (.isl s k el')=some (n,el)->∃l,elems m sz x=some (n,l)/\l.length=n*sz/\l.all one=true/\∀i,i<n->RepL R noE (el i) (seg l (i*sz) sz):=by
  intro s k el' hv h;have h':(match Nat.beq s sz with
    |true=>some (k,el')
    |false=>none)=some (n,el):=h
  by_cases hq:s=sz
  ·subst hq;rw[Nat.beq_refl]at h';cases h';cases hv with
   |islN=>exact zero rfl rfl
   |islV=>exact zero rfl rfl
   |islS h1 h2 h3 h4 h0 h5=>
    refine⟨_,zc8 (hM.sk.ro _ _ h1) h2 h3,za6 h3,zfS h0 _ _,fun i hi=>?_⟩;rw[zdv (zci hi)];exact h5 i hi
   |islO h1 h2 h0 h3=>
    refine⟨_,zhj (hM.sk.ro _ _ h1) h2,za6 (by rw[<- Nat.add_mul];exact h2),zfS h0 _ _,fun i hi=>?_⟩;rw[zdv (zci hi),<- Nat.add_mul];exact h3 i hi
  ·rw[zkQ hq]at h';cases h'
 cases hv with
 |cv hf=>cases x<;>simp[zgA]at h<;>(obtain⟨rfl,rfl⟩:=h;exact zero rfl rfl)
 |empN=>simp[zgA]at h;obtain⟨rfl,rfl⟩:=h;exact zero rfl rfl
 |empV=>simp[zgA]at h;obtain⟨rfl,rfl⟩:=h;exact zero rfl rfl
 |empS hh=>simp[zgA]at h;obtain⟨rfl,rfl⟩:=h;obtain⟨o,cs,h1,h2,h3,h4⟩:=hh;exact zero (slc0 ⟨o,cs,h1,h2,h3⟩) rfl
 |islN=>exact isl .islN h
 |islV=>exact isl .islV h
 |islS h1 h2 h3 h4 h0 h5=>exact isl (.islS h1 h2 h3 h4 h0 h5) h
 |islO h1 h2 h0 h3=>exact isl (.islO h1 h2 h0 h3) h
 |islE=>
  simp only[zgA,zdG]at h;split at h<;>simp at h;obtain⟨rfl,rfl⟩:=h;exact zero rfl rfl
 |islx hh=>exact isl hh (by simpa only[zgA]using h)
 |lstN hx=>exact lst hx h
 |lstV hx=>exact lst hx h
 |lstS hx=>exact lst hx h
 |lstE hx=>exact lst hx h
 |lstO hx=>exact lst hx h
 |_=>simp[zgA]at h
end
def cvK(x:CV)(k:SV->Prop):Prop:=match x with
 |.int a b=>k (.cv (.int a b))
 |.str s=>k (.cv (.str s))
 |.bool b=>k (.cv (.bool b))
 |_=>False
theorem zof{R:RO}{e:DEnv}{x:CV}{k:SV->Prop}(h:cvK x k):Rep R e (.cv x) x/\k (.cv x):=by
 unfold cvK at h;split at h<;>first |exact h.elim |exact⟨.cv rfl,h⟩
noncomputable def zxc(P:Program)(eq:TypeId->SV->SV->(Bool->Prop)->Prop)(xs ys:List SV):List Field->(Bool->Prop)->Prop
 |[],k=>k true
 |f::fs,k=>match f.name == "_" with
  |true=>False
  |false=>zkM P f.type xs f.offset fun a=>zkM P f.type ys f.offset fun b=>eq f.type a b fun p=>match fs with
   |[]=>k p
   |g::gs=>zxc P eq xs ys (g::gs) fun q=>k (p&&q)
structure StoodNo(P:Program)(t:TypeId):Prop where
 no:P.stoodInHeld t=false
noncomputable def zvY(P:Program):Nat->TypeId->SV->SV->(Bool->Prop)->Prop
 |0,_,_,_,_=>False
 |d+1,t,x,y,k=>match P.underlying t with
  |some (.int _)=>match x,y with
   |.cv (.int a b),.cv (.int a' b')=>match kEq a a' with
    |true=>k (b==b')
    |false=>False
   |_,_=>False
  |some .string=>match x,y with
   |.cv (.str a),.cv (.str b)=>k (zjc a b)
   |_,_=>False
  |some .bool=>match x,y with
   |.cv (.bool a),.cv (.bool b)=>k (a==b)
   |_,_=>False
  |some (.struct fs)=>match x,y with
   |.agg xs,.agg ys=>StoodNo P t/\zxc P (zvY P d) xs ys fs.toList k
   |_,_=>False
  |_=>False
section
variable{P:Program}{R:RO}{e:DEnv}
theorem zmC:∀(d:Nat) {ty:TypeId} {v w:SV} {x y:CV} {k:Bool->Prop},Rep R e v x->Rep R e w y->zvY P d ty v w k->∃b,ceq P d ty x y=some b/\k b
 |0,_,_,_,_,_,_,_,_,h=>h.elim
 |d+1,ty,v,w,x,y,k,hv,hw,h=>by
  have fld:∀(fs:List Field) {xs ys:List SV} {us ws:List CV} {k:Bool->Prop},RepL R e xs us->RepL R e ys ws->zxc P (zvY P d) xs ys fs k->∃b,ztY P (ceq P d) us ws fs=some b/\k b:=by
   intro fs
   induction fs with
   |nil=>intro xs ys us ws k _ _ h;exact⟨true,rfl,h⟩
   |cons f fs ih=>
    intro xs ys us ws k hx hy h;unfold zxc at h;split at h
    ·exact h.elim
    ·rename_i hn;obtain⟨a,a',h1,h2,h⟩:=zdz hx h;obtain⟨b,b',h3,h4,h⟩:=zdz hy h;obtain⟨p,h5,h⟩:=zmC d h2 h4 h;unfold ztY;simp only[hn,h1,h3,h5];cases fs with
     |nil=>
      refine⟨p,?_,h⟩;cases p<;>simp[ztY]
     |cons g gs=>
      obtain⟨q,h6,h⟩:=ih hx hy h;refine⟨p&&q,?_,h⟩;cases p<;>simp[h6]
  unfold zvY at h;unfold ceq;split at h
  ·rename_i hu;split at h
   ·split at h
    ·rename_i hk;cases hv;cases hw;refine⟨_,?_,h⟩;simp only[hu,zl2,hk,zb9]
    ·exact h.elim
   ·exact h.elim
  ·rename_i hu;split at h
   ·cases hv;cases hw;exact⟨_,by simp only[hu,zlv],h⟩
   ·exact h.elim
  ·rename_i hu;split at h
   ·rename_i a b;cases hv;cases hw;refine⟨_,?_,h⟩;simp only[hu,zh8];cases a<;>cases b<;>rfl
   ·exact h.elim
  ·rename_i fs hu;split at h
   ·obtain⟨⟨hs⟩,h⟩:=h;cases hv with
    |agg hv=>cases hw with
     |agg hw=>
      obtain⟨b,h1,h2⟩:=fld _ hv hw h;exact⟨b,by simp only[hu,zfj,hs];exact h1,h2⟩
   ·exact h.elim
  ·exact h.elim
end
noncomputable def zw1(P:Program)(c:DCfg)(lit:Bool)(op:BinOp)(ty:TypeId)(x y:SV)(K:SV->Prop):Prop:=
 match x with
 |.cv a=>match y with
  |.cv b=>match a with
   |.str p=>match b with
    |.str q=>match op with
     |.add=>p.length+q.length<=1000000/\K (.cv (.str (p++q)))
     |.eql=>K (.cv (.bool (zjc p q)))
     |.neq=>K (.cv (.bool (!(zjc p q))))
     |.lss=>K (.cv (.bool (ltL p q)))
     |.leq=>K (.cv (.bool (ltL p q||zjc p q)))
     |.gtr=>K (.cv (.bool (!(ltL p q||zjc p q))))
     |.geq=>K (.cv (.bool (!ltL p q)))
     |_=>False
    |_=>False
   |.int k p=>match b with
    |.int k' q=>zwW { wrap:=c.wrap } op k k' p q fun v=>cvK v K
    |_=>False
   |a=>zxN P { wrap:=c.wrap } lit op ty a b fun v=>cvK v K
  |_=>False
 |.agg xs=>match y with
  |.agg ys=>ClosedB (!P.eqGuardType P.depth ty)/\(match op with
   |.eql=>zvY P 40 ty (.agg xs) (.agg ys) fun b=>K (.cv (.bool b))
   |.neq=>zvY P 40 ty (.agg xs) (.agg ys) fun b=>K (.cv (.bool (!b)))
   |_=>False)
  |_=>False
 |.isl _ n _=>match y with
  |.cv b=>match b with
   |.nils=>match P.underlying ty with
    |some u=>match u with
     |.slice _=>match op with
      |.eql=>(n=0->K (.cv (.bool true)))/\K (.cv (.bool false))
      |.neq=>(n=0->K (.cv (.bool false)))/\K (.cv (.bool true))
      |_=>False
     |_=>False
    |none=>False
   |_=>False
  |_=>False
 |.ptr p off=>match P.underlying ty with
  |some u=>match u with
   |.pointer el=>match y with
    |.cv b=>match b with
     |.nilp=>match op with
      |.eql=>K (.cv (.bool false))
      |.neq=>K (.cv (.bool true))
      |_=>False
     |_=>False
    |.ptr q off'=>match Nat.beq p q&&Nat.beq off off' with
     |true=>match P.info? el with
      |some _=>match op with
       |.eql=>K (.cv (.bool true))
       |.neq=>K (.cv (.bool false))
       |_=>False
      |none=>False
     |false=>False
    |_=>False
   |_=>False
  |none=>False
 |.ifc _ _=>match y with
  |.cv b=>match b with
   |.nili=>match P.underlying ty with
    |some u=>match u with
     |.interface _=>match op with
      |.eql=>K (.cv (.bool false))
      |.neq=>K (.cv (.bool true))
      |_=>False
     |_=>False
    |none=>False
   |_=>False
  |_=>False
 |_=>False
noncomputable def dUn(c:DCfg)(op:UnOp)(x:SV)(K:SV->Prop):Prop:=match x with
 |.cv a=>eUn { wrap:=c.wrap } op a fun v=>cvK v K
 |_=>False
section
variable{P:Program}{R:RO}{e:DEnv}{c:DCfg}
theorem zsc{lit:Bool}{o:BinOp}{ty:TypeId}{v w:SV}{x y:CV}{K:SV->Prop}(hv:Rep R e v x)(hw:Rep R e w y)(h:zw1 P c lit o ty v w K):∃u z,zpH P lit o ty x y=.val z/\Rep R e u z/\K u:=by
 unfold zw1 at h;split at h
 ·rename_i a;cases hv;split at h
  ·rename_i b;cases hw;split at h
   ·split at h
    ·rename_i p q;have b1:∀b:Bool,Rep R e (.cv (.bool b)) (.bool b):=fun b=>.cv rfl
     split at h
     ·refine⟨_,.str (_++_),?_,.cv rfl,h.2⟩;show zia _ _=_;unfold zia;rw[yb1 h.1]
     ·exact⟨_,_,rfl,b1 _,h⟩
     ·exact⟨_,_,rfl,b1 _,h⟩
     ·exact⟨_,_,rfl,b1 _,h⟩
     ·exact⟨_,_,rfl,b1 _,h⟩
     ·exact⟨_,_,rfl,b1 _,h⟩
     ·exact⟨_,_,rfl,b1 _,h⟩
     ·exact h.elim
    ·exact h.elim
   ·split at h
    ·obtain⟨z,h1,h2⟩:=zqq h;obtain⟨h3,h4⟩:=zof (R:=R) (e:=e) h2;exact⟨_,z,h1,h3,h4⟩
    ·exact h.elim
   ·obtain⟨z,h1,h2⟩:=zuH h;obtain⟨h3,h4⟩:=zof (R:=R) (e:=e) h2;exact⟨_,z,h1,h3,h4⟩
  ·exact h.elim
 ·cases hv with
  |agg hv=>
  split at h
  ·cases hw with
   |agg hw=>
   obtain⟨hc,h⟩:=h;have hc:=hc.out;have hcb:∀xs ys,zpH P lit o ty (.agg xs) (.agg ys)=zf6 P lit o ty (.agg xs) (.agg ys):=fun _ _=>rfl
   rw[hcb];have hg:P.eqGuardType P.depth ty=false:=by simpa using hc
   have hq:∀(neg:Bool) (us ws:List CV) (b:Bool),ceq P 40 ty (.agg us) (.agg ws)=some b->cEq P lit neg ty (.agg us) (.agg ws)=ofB neg (some b):=fun neg us ws b h1=>by
    unfold cEq;simp only[zhm,hg,h1]
   split at h
   ·obtain⟨b,h1,h2⟩:=zmC 40 (.agg hv) (.agg hw) h;exact⟨_,.bool b,hq false _ _ _ h1,.cv rfl,h2⟩
   ·obtain⟨b,h1,h2⟩:=zmC 40 (.agg hv) (.agg hw) h;exact⟨_,.bool (!b),hq true _ _ _ h1,.cv rfl,h2⟩
   ·exact h.elim
  ·exact h.elim
 ·rename_i sz n el;split at h
  ·split at h
   ·split at h
    ·rename_i u hu;split at h
     ·cases hw;have key:∀neg:Bool,(x=.nils/\n=0/\cEq P lit neg ty x .nils=.val (.bool (!neg)))\/(cEq P lit neg ty x .nils=.val (.bool neg)):=fun neg=>by
       have hq:∀b,zr7 x .nils=some b->zhm x .nils=2->cEq P lit neg ty x .nils=ofB neg (some b):=fun b h1 h2=>by
        unfold cEq;rw[h2];show ofB neg (ceq P 40 ty x .nils)=_;unfold ceq;simp only[hu,h1]
       cases hv with
       |islN=>exact .inl ⟨rfl,rfl,by rw[hq true rfl rfl];cases neg<;>rfl⟩
       |islV=>exact .inr (by rw[hq false rfl rfl];cases neg<;>rfl)
       |islS=>exact .inr (by rw[hq false rfl rfl];cases neg<;>rfl)
       |islO=>exact .inr (by rw[hq false rfl rfl];cases neg<;>rfl)
      have hcb:zpH P lit o ty x .nils=zf6 P lit o ty x .nils:=by cases hv<;>rfl
      rw[hcb];split at h
      ·rcases key false with⟨_,h1,h2⟩ |h2
       ·exact⟨_,_,h2,.cv rfl,h.1 h1⟩
       ·exact⟨_,_,h2,.cv rfl,h.2⟩
      ·rcases key true with⟨_,h1,h2⟩ |h2
       ·exact⟨_,_,h2,.cv rfl,h.1 h1⟩
       ·exact⟨_,_,h2,.cv rfl,h.2⟩
      ·exact h.elim
     ·exact h.elim
    ·exact h.elim
   ·exact h.elim
  ·exact h.elim
 ·rename_i p off;split at h
  ·rename_i u hu;split at h
   ·rename_i el;have hq:∀(y:CV) (b:Bool) (neg:Bool),zlC P el x y=some b->zhm x y=2->cEq P lit neg ty x y=ofB neg (some b):=fun y b neg h1 h2=>by
     unfold cEq;rw[h2];show ofB neg (ceq P 40 ty x y)=_;unfold ceq;simp only[hu,h1]
    cases hv with
    |ptr he=>
     rename_i tt;split at h
     ·split at h
      ·cases hw;have e1:zlC P el (.ptr tt off) .nilp=some false:=rfl;split at h
       ·exact⟨_,_,hq _ _ false e1 rfl,.cv rfl,h⟩
       ·exact⟨_,_,hq _ _ true e1 rfl,.cv rfl,h⟩
       ·exact h.elim
      ·exact h.elim
     ·split at h
      ·rename_i hb;simp only[ya2]at hb;obtain rfl:=yb0 hb.1;obtain rfl:=yb0 hb.2;cases hw with
       |ptr he'=>
        rw[he]at he';cases he';split at h
        ·rename_i hi;have e1:zlC P el (.ptr tt off) (.ptr tt off)=some true:=by
          unfold zlC;simp only[show Nat.beq tt tt=true from Nat.beq_refl tt,show Nat.beq off off=true from Nat.beq_refl off,Bool.and_self,hi]
         split at h
         ·exact⟨_,_,hq _ _ false e1 rfl,.cv rfl,h⟩
         ·exact⟨_,_,hq _ _ true e1 rfl,.cv rfl,h⟩
         ·exact h.elim
        ·exact h.elim
      ·exact h.elim
     ·exact h.elim
   ·exact h.elim
  ·exact h.elim
 ·split at h
  ·split at h
   ·split at h
    ·rename_i u hu;split at h
     ·cases hv with
      |ifc hx=>
      cases hw;have hq:∀(t':TypeId) (z:CV) (neg:Bool),cEq P lit neg ty (.ifc t' z) .nili=ofB neg (some false):=fun t' z neg=>by
       unfold cEq;show ofB neg (ceq P 40 ty (.ifc t' z) .nili)=_;unfold ceq;simp only[hu,zrD]
      split at h
      ·exact⟨_,_,hq _ _ false,.cv rfl,h⟩
      ·exact⟨_,_,hq _ _ true,.cv rfl,h⟩
      ·exact h.elim
     ·exact h.elim
    ·exact h.elim
   ·exact h.elim
  ·exact h.elim
 ·exact h.elim
theorem zux{o:UnOp}{v:SV}{x:CV}{K:SV->Prop}(hv:Rep R e v x)(h:dUn c o v K):∃u z,cUn o x=.val z/\Rep R e u z/\K u:=by
 unfold dUn at h;split at h
 ·cases hv;obtain⟨z,h1,h2⟩:=zwd h;obtain⟨h3,h4⟩:=zof (R:=R) (e:=e) h2;exact⟨_,z,h1,h3,h4⟩
 ·exact h.elim
end
end Go.Cx
namespace Go.Cx
open Go
def zw2:Nat->SV->Option Nat
 |_,.lst o=>some o
 |d+1,.agg cs=>cs.findSome? (zw2 d)
 |d+1,.tup cs=>cs.findSome? (zw2 d)
 |d+1,.ifc _ v=>zw2 d v
 |_,_=>none
def zmp:Nat->List SV->List SV->List SObj->(List SV->List SV->List SObj->Prop)->Prop
 |0,_,_,_,_=>False
 |n+1,vs,T,O,k=>match vs.findSome? (zw2 zah) with
  |none=>k vs T O
  |some o=>match zbt O o with
   |.list ty sz m el=>zpB o (.isl sz m el) T O fun T O=>zbq (sbK o (.isl sz m el) zah) vs fun vs=>zcI O o .dead fun O=>zmp n vs T O k
   |_=>False
def zeg:Nat->SV->Bool
 |_,.cv _=>true
 |_,.isl _ _ _=>true
 |_,.islx _ _ _=>true
 |_,.ipt _ _=>true
 |_,.emp=>true
 |d+1,.agg cs=>cs.all (zeg d)
 |d+1,.tup cs=>cs.all (zeg d)
 |d+1,.fn _ a b=>a.all (zeg d)&&b.all (zeg d)
 |d+1,.ifc _ v=>zeg d v
 |_,_=>false
section
variable{G:Ctx}{R:RO}{e:DEnv}{O:List SObj}{m:Mem}{T:List SV}{t:Tmps}
theorem Rep.imm:∀(d:Nat) {v:SV} {x:CV},Rep R e v x->zeg d v=true->Rep R noE v x:=by
 intro d
 induction d with
 |zero=>
  intro v x h hi;cases h<;>simp[zeg]at hi
  case cv h=>exact .cv h
  case islN=>exact .islN
  case islV=>exact .islV
  case islE=>exact .islE
  case islx h=>exact .islx (by cases h with |islN=>exact .islN |islV=>exact .islV |islS h1 h2 h3 h4 h0 h5=>exact .islS h1 h2 h3 h4 h0 h5 |islO h1 h2 h0 h3=>exact .islO h1 h2 h0 h3)
  case islS h1 h2 h3 h4 h0 h5=>exact .islS h1 h2 h3 h4 h0 h5
  case islO h1 h2 h0 h3=>exact .islO h1 h2 h0 h3
  case ipt h1 h2 h3 h0 h4=>exact .ipt h1 h2 h3 h0 h4
  case empN=>exact .empN
  case empV=>exact .empV
  case empS h=>exact .empS h
 |succ d ih=>
  have hl:∀{vs:List SV} {xs:List CV},RepL R e vs xs->vs.all (zeg d)=true->RepL R noE vs xs:=by
   intro vs
   induction vs with
   |nil=>intro xs h _;cases h;exact .nil
   |cons v vs ihv=>
    intro xs h hi;simp only[List.all_cons,ya2]at hi;cases h with
    |cons hv hs=>exact .cons (ih hv hi.1) (ihv hs hi.2)
  intro v x h hi;cases h<;>simp[zeg]at hi
  case cv h=>exact .cv h
  case islN=>exact .islN
  case islV=>exact .islV
  case islE=>exact .islE
  case islx h=>exact .islx (by cases h with |islN=>exact .islN |islV=>exact .islV |islS h1 h2 h3 h4 h0 h5=>exact .islS h1 h2 h3 h4 h0 h5 |islO h1 h2 h0 h3=>exact .islO h1 h2 h0 h3)
  case islS h1 h2 h3 h4 h0 h5=>exact .islS h1 h2 h3 h4 h0 h5
  case islO h1 h2 h0 h3=>exact .islO h1 h2 h0 h3
  case ipt h1 h2 h3 h0 h4=>exact .ipt h1 h2 h3 h0 h4
  case empN=>exact .empN
  case empV=>exact .empV
  case empS h=>exact .empS h
  case agg h=>exact .agg (hl h (by simpa using hi))
  case tup h=>exact .tup (hl h (by simpa using hi))
  case fn ha hb=>exact .fn (hl ha (by simpa using hi.1)) (hl hb (by simpa using hi.2))
  case ifc h=>exact .ifc (ih h hi)
theorem RepL.imm{vs:List SV}{xs:List CV}(h:RepL R e vs xs)(hi:vs.all (zeg zah)=true):RepL R noE vs xs:=by
 induction vs generalizing xs with
 |nil=>cases h;exact .nil
 |cons v vs ih=>
  simp only[List.all_cons,ya2]at hi;cases h with
  |cons hv hs=>exact .cons (hv.imm zah hi.1) (ih hs hi.2)
theorem zcf:∀(n:Nat) {vs:List SV} {xs:List CV} {T:List SV} {O:List SObj} {R:RO} {e:DEnv} {k:List SV->List SV->List SObj->Prop},RepL R e vs xs->TSat R e T t->MSat G R e O m->zmp n vs T O k ->
  ∃R' e' vs' T' O',R.le R'/\(∀o u,e o=some (PM.c u)->e' o=some (PM.c u))/\RepL R' e' vs' xs/\TSat R' e' T' t/\MSat G R' e' O' m/\k vs' T' O'
 |0,_,_,_,_,_,_,_,_,_,_,h=>h.elim
 |n+1,vs,xs,T,O,R,e,k,hv,hT,hM,h=>by
  unfold zmp at h;split at h
  ·exact⟨R,e,vs,T,O,RO.le.refl R,fun _ _ h=>h,hv,hT,hM,h⟩
  ·rename_i o _;split at h
   ·rename_i ty sz k' el ho;rw[zft,zaf (zgn o _ zah),zav]at h;have ho':=zay ho (by simp);obtain⟨R',h1,h2,h3,h4⟩:=hM.freeze ho';have hpt:∀i u,e i=some (PM.c u)->e.put o none i=some (PM.c u):=fun i u hi=>by
     refine h3 i _ (fun hq=>?_) hi;subst hq;rcases hM.ob i _ ho' with h5 |⟨x,h5,h6⟩
     ·cases h5
     ·rw[hi]at h5;cases h5;rcases h6 with⟨h7 |⟨_,_,_,_,h7,_⟩,_⟩ |⟨_,_,_,h7,_⟩ |⟨_,_,h7,_⟩<;>cases u<;>cases h7
    obtain⟨R2,e2,vs2,T2,O2,g1,g2,g3,g4,g5,g6⟩:=zcf n (hv.sb h1 h3 h2 zah) (hT.sb h1 h3 h2) h4 h;exact⟨R2,e2,vs2,T2,O2,h1.trans g1,fun i u hi=>g2 i u (hpt i u hi),g3,g4,g5,g6⟩
   ·exact h.elim
end
def zei(n:Nat)(a b:Nat->List SV):Nat->List SV:=fun i=>if i<n then a i else b (i - n)
noncomputable def zoT(elem:TypeId)(sz0 nx:Nat)(new:Nat->List SV)(x:SV)(T:List SV)(O:List SObj)(K:DK):Prop:=
 match x with
 |.cv .nils=>nx<=1000000/\zpi O (.list elem sz0 nx new) fun o O=>K (.lst o) T O
 |.emp=>nx<=1000000/\zpi O (.list elem sz0 nx new) fun o O=>K (.lst o) T O
 |.lst o=>match zbt O o with
  |.list ty' sz n el=>match Nat.beq ty' elem&&Nat.beq sz sz0 with
   |true=>n+nx<=1000000/\zpB o .junk T O fun T O=>zcI O o (.list elem sz0 (n+nx) (zei n el new)) fun O=>K (.lst o) T O
   |false=>False
  |_=>False
 |_=>False
noncomputable def zmN(P:Program)(ty:TypeId)(x y:SV)(T:List SV)(O:List SObj)(K:DK):Prop:=
 match P.underlying ty with
 |some (.slice elem)=>match P.info? elem with
  |some inf=>match zey P elem with
   |some z=>match Nat.blt 0 inf.size&&(Nat.beq z.length inf.size&&Nat.ble inf.bytes 1000000) with
    |true=>match zgA inf.size O y with
     |some (nx,new)=>zoT elem inf.size nx new x T O K
     |none=>False
    |false=>False
   |none=>False
  |none=>False
 |_=>False
def zje(s:List Nat):Nat->List SV:=fun i=>[.cv (.int .u8 ((s.getD i 0%256:Nat):Int))]
noncomputable def zkJ(P:Program)(ty T2:TypeId)(x:SV)(s:List Nat)(T:List SV)(O:List SObj)(K:DK):Prop:=
 match P.underlying ty with
 |some (.slice elem)=>match P.underlying T2 with
  |some .string=>match P.info? elem with
   |some inf=>match zey P elem with
    |some z=>match Nat.beq inf.size 1&&(Nat.beq z.length 1&&Nat.ble inf.bytes 1000000) with
     |true=>zoT elem 1 s.length (zje s) x T O K
     |false=>False
    |none=>False
   |none=>False
  |_=>False
 |_=>False
theorem zc0{R:RO}{e:DEnv}{a b:List CV}{n k sz:Nat}{ea eb:Nat->List SV}(ha:a.length=n*sz)(hb:b.length=k*sz)(h1:∀i,i<n->RepL R e (ea i) (seg a (i*sz) sz))(h2:∀i,i<k->RepL R e (eb i) (seg b (i*sz) sz)):
  ∀i,i<n+k->RepL R e (zei n ea eb i) (seg (a++b) (i*sz) sz):=by
 intro i hi;unfold zei seg;split
 ·rename_i hq;have:=h1 i hq;have hm:=zci (sz:=sz) hq;rw[List.drop_append_of_le_length (by omega),List.take_append_of_le_length (by rw[List.length_drop];omega)];exact this
 ·rename_i hq;have:=h2 (i - n) (by omega);rw[List.drop_append,show i*sz - a.length=(i - n)*sz by rw[ha,Nat.sub_mul],List.drop_eq_nil_of_le (by rw[ha];exact yd2 _ (by omega)),List.nil_append];exact this
section
variable{P:Program}{X:Ext}{G:Ctx}{R:RO}{e:DEnv}{m:Mem}{t:Tmps}{K:DK}{T:List SV}{O:List SObj}
theorem zmg{tt off:Nat}{ty:TypeId}{cs vs:List CV}(hg:m.get tt=some (.cells ty cs))(h1:vs.all one=true)(h2:off+vs.length<=cs.length):wr m tt off vs=some (m.put tt (.cells ty (zax cs off vs))):=by
 unfold wr;rw[h1];simp only[hg,yb1 h2]
theorem zmX{tt off sz:Nat}{ty:TypeId}{cs vs:List CV}(hg:m.get tt=some (.opn ty sz cs))(h1:vs.all one=true)(h2:off+vs.length<=cs.length):wr m tt off vs=some (m.put tt (.opn ty sz (zax cs off vs))):=by
 unfold wr;rw[h1];simp only[hg,yb1 h2]
theorem zct:∀(us cs:List CV) (off:Nat),off+us.length<=cs.length->zax cs off us=cs.take off++us++cs.drop (off+us.length)
 |[],cs,off,h=>by simp[zax]
 |u::us,cs,off,h=>by
  simp only[ya7]at h;rw[zax,zct us _ (off+1) (by simp;omega)];have h1:(cs.set off u).take (off+1)=cs.take off++[u]:=by
   rw[List.take_add_one,List.getElem?_set_self (by omega)];simp only[Option.toList,List.append_cancel_right_eq];rw[List.take_set_of_le (Nat.le_refl off)]
  rw[h1,List.drop_set_of_lt (by omega),show off+1+us.length=off+(us.length+1)by omega];simp only[yc1,List.singleton_append,ya7,List.cons_append,List.nil_append]
theorem Chg.put'{a:Nat}{o:CO}{m':Mem}(h:Put m a o m')(hl:a<m.nxt):Chg m (some a) (some a) m':=
 ⟨by rw[h.nxt];exact Nat.le_refl _,fun t h1 _=>by rw[h.get,if_neg (fun hq=>h1 (by rw[hq]))],fun t ht=>.inl ht,fun w=>h.wf hl w⟩
theorem Chg.new'{o:CO}{m':Mem}{a:Option Nat}(h:New m m.nxt o m')(ha:∀t,a=some t->t<m.nxt):Chg m a (some m.nxt) m':=
 ⟨by rw[h.nxt];omega,fun t _ h2=>by rw[h.get,if_neg (fun hq=>h2 (by rw[hq]))],fun t ht=>.inr (by cases ht;exact Nat.le_refl _),fun w=>h.wf w⟩
theorem Chg.killNew{o:CO}{a:Nat}(hr:∀o',m.get a=some o'->zcl o'=false):Chg m (some a) (some m.nxt) ((m.kill a).newAt m.nxt o):=by
 have hk:=Kill.mk' m a hr;have hn:New (m.kill a) m.nxt o ((m.kill a).newAt m.nxt o):=New.at (m.kill a) o;exact⟨by rw[hn.nxt];show m.nxt<=m.nxt+1;omega,fun t h1 h2=>by rw[hn.get,if_neg (fun hq=>h2 (by rw[hq])),hk.get,if_neg (fun hq=>h1 (by rw[hq]))],fun t ht=>.inr (by cases ht;exact Nat.le_refl _),fun w=>hn.wf (hk.wf w)⟩
theorem zgN{m':Mem}{o:Nat}{x y:CV}{so:SObj}{v:SV}(hM:MSat G R e O m)(hT:TSat R e T t)(hx:e o=some x)(hnp:∀u:PM,x≠PM.c u)(hc:Chg m (tg x) (tg y) m')(hne:so≠.dead)(hor:OR R noE m' y so)(hso:∀e',OR R noE m' y so->OR R e' m' y so)
  (hv:∀e',e' o=some y->Rep R e' v y) (hk:K v (T.map (sb o .junk zah)) ((O.map (sbO o .junk)).set o so)):Gone G R e t K y m':=by
 have h1:=hM.chg hx hc hne (hso _ hor);have he:∀i z,i≠o->e i=some z->e.put o (some y) i=some z:=fun i z hi hz=>by rw[DEnv.put_ne _ _ hi];exact hz
 refine⟨R,_,v,_,_,RO.le.refl R,fun i u hi=>?_,hv _ (DEnv.put_self ..),hT.sb (RO.le.refl R) he (fun _ _=>.junk),h1,hk⟩;by_cases hq:i=o
 ·subst hq;rw[hx]at hi;cases hi;exact absurd rfl (hnp u)
 ·exact he i _ hq hi
theorem Chg.refl'{a:Option Nat}:Chg m a a m:=⟨Nat.le_refl _,fun _ _ _=>rfl,fun _ ht=>.inl ht,id⟩
theorem OR.mkE{e:DEnv}{x:CV}{ty:TypeId}{sz:Nat}{el:Nat->List SV}(h:zsB x=true\/∃t off o cs,x=.slc t off 0 0/\R t=some o/\zjK o=some cs/\off<=cs.length/\cs.all one=true):OR R e m x (.list ty sz 0 el):=Or.inl ⟨h,rfl⟩
theorem OR.mkS{e:DEnv}{t c n:Nat}{xs:List CV}{ty:TypeId}{sz:Nat}{el:Nat->List SV}(h0:0<c)(h1:n<=c)(h2:m.get t=some (.cells ty xs))(h3:c*sz=xs.length)(h4:xs.all one=true)(h5:∀i,i<n->RepL R noE (el i) (seg xs (i*sz) sz)):OR R e m (.slc t 0 n c) (.list ty sz n el):=Or.inr (Or.inl ⟨t,c,xs,rfl,h0,h1,h2,h3,h4,h5⟩)
theorem OR.mkO{e:DEnv}{t n:Nat}{xs:List CV}{ty:TypeId}{sz:Nat}{el:Nat->List SV}(h2:m.get t=some (.opn ty sz xs))(h3:n*sz<=xs.length)(h4:xs.all one=true)(h5:∀i,i<n->RepL R noE (el i) (seg xs (i*sz) sz)):OR R e m (.opn t 0 n) (.list ty sz n el):=Or.inr (Or.inr ⟨t,xs,rfl,h2,h3,h4,h5⟩)
noncomputable def ztE(T:Nat)(m:Mem)(elem:TypeId)(sz:Nat)(ly lx:List CV)(x:CV):Nat->COut
 |0=>ap0 x
 |k+1=>zwB T m elem sz (k+1) ly lx x
theorem zmv{ty elem:TypeId}{inf:TypeInfo}{z ly lx:List CV}{n nx:Nat}{x y:CV}(hu:P.underlying ty=some (.slice elem))(hi:P.info? elem=some inf)(hz:zey P elem=some z)(hb0:Nat.blt 0 inf.size=true)(hb1:Nat.beq z.length inf.size=true)(hb2:Nat.ble inf.bytes 1000000=true)
  (hy:elems m inf.size y=some (nx,ly)) (hx:elems m inf.size x=some (n,lx)) (hn:n+nx<=1000000):zdm P m.nxt m ty ty x y=ztE m.nxt m elem inf.size ly lx x nx:=by
 have hf:zt5 inf.bytes (n+nx)=true:=by unfold zt5;rw[yb1 hn,hb2];rfl
 unfold zdm;simp only[show Nat.beq ty ty=true from Nat.beq_refl ty,hu,hi,hz,hb0,hb1,Bool.and_self,hy,hx,hf];cases nx<;>rfl
theorem zgW{ty:TypeId}{sz:Nat}{el:Nat->List SV}{x:CV}(hM:MSat G R e O m)(hT:TSat R e T t)(hx:zsB x=true\/∃t off o cs,x=.slc t off 0 0/\R t=some o/\zjK o=some cs/\off<=cs.length/\cs.all one=true)(hk:K (.lst O.length) T (O++[.list ty sz 0 el])):Gone G R e t K x m:=by
 have hle:=DEnv.le_put (hM.free (Nat.le_refl _)) (some x);have htg:tg x=none:=by
  rcases hx with hx |⟨_,_,_,_,rfl,_⟩
  ·exact zrx hx
  ·rfl
 have hrep:∀e',e' O.length=some x->Rep R e' (.lst O.length) x:=fun e' he=>by
  rcases hx with hx |⟨_,_,_,_,rfl,_⟩
  ·rcases zdD hx with rfl |⟨a,rfl⟩
   ·exact .lstN he
   ·exact .lstV he
  ·exact .lstE he
 refine⟨R,e.put O.length (some x),_,T,_,RO.le.refl R,fun o u ho=>hle _ _ ho,hrep _ (DEnv.put_self ..),hT.mono (RO.le.refl R) hle,?_,hk⟩;refine⟨hM.fr,hM.sk,hM.le,hM.rn,fun o y t hy ht=>?_,fun o o' y y' t hy hy' ht ht'=>?_,fun o so ho=>?_,fun o y hy=>?_⟩
 ·unfold DEnv.put at hy;split at hy
  ·cases hy;rw[htg]at ht;cases ht
  ·exact hM.own o y t hy ht
 ·unfold DEnv.put at hy hy';split at hy<;>split at hy'
  ·omega
  ·cases hy;rw[htg]at ht;cases ht
  ·cases hy';rw[htg]at ht';cases ht'
  ·exact hM.inj o o' y y' t hy hy' ht ht'
 ·rcases Nat.lt_trichotomy o O.length with hq |hq |hq
  ·rw[yb8 hq]at ho;rcases hM.ob o so ho with h1 |⟨y,h1,h2⟩
   ·exact .inl h1
   ·exact .inr ⟨y,by rw[DEnv.put_ne _ _ (by omega)];exact h1,h2.mono (RO.le.refl R) hle fun _ _=>rfl⟩
  ·subst hq;simp at ho;subst ho;exact .inr ⟨x,DEnv.put_self ..,OR.mkE hx⟩
  ·rw[List.getElem?_eq_none (by simp;omega)]at ho;cases ho
 ·unfold DEnv.put at hy;split at hy
  ·rename_i hq;subst hq;exact⟨_,by simp;rfl,by simp⟩
  ·obtain⟨so',h1,h2⟩:=hM.dom o y hy;exact⟨so',by rw[yb8 (List.getElem?_eq_some_iff.1 h1).1];exact h1,h2⟩
theorem zme{elem:TypeId}{sz0 nx:Nat}{new:Nat->List SV}{ly:List CV}{v:SV}{x:CV}{out:COut}(hM:MSat G R e O m)(hT:TSat R e T t)(hv:Rep R e v x)
  (sel:∀{n lx},elems m sz0 x=some (n,lx)->n+nx<=1000000->out=ztE m.nxt m elem sz0 ly lx x nx) (hlen:ly.length=nx*sz0) (hall:ly.all one=true)
  (hel:∀i,i<nx->RepL R noE (new i) (seg ly (i*sz0) sz0)) (h:zoT elem sz0 nx new v T O K):
  ∃z m',(out=.mem z m'\/(out=.val z/\m'=m))/\Gone G R e t K z m':=by
 unfold zoT at h;have fresh:(zpi O (.list elem sz0 nx new) fun o O=>K (.lst o) T O)->Gone G R e t K (.opn m.nxt 0 nx) (m.newAt m.nxt (.opn elem sz0 ly)):=by
  intro hk;rw[zbE]at hk;have hn:=New.at m (CO.opn elem sz0 ly);exact zfd hM hT hn rfl rfl (by simp) (fun e' _=>OR.mkO hn.self (by rw[hlen];exact Nat.le_refl _) hall hel) (fun e' he=>.lstO he) (fun _ _ _=>trivial) hk
 have nil:zsB x=true->(nx<=1000000/\zpi O (.list elem sz0 nx new) fun o O=>K (.lst o) T O)->∃z m',(out=.mem z m'\/(out=.val z/\m'=m))/\Gone G R e t K z m':=by
  rintro hx ⟨hn,hk⟩;rcases zdD hx with rfl |⟨a,rfl⟩
  ·have hs:=sel (n:=0) (lx:=[]) rfl (by omega);cases nx with
   |zero=>rw[zbE]at hk;exact⟨_,m,.inr ⟨hs,rfl⟩,zgW hM hT (.inl rfl) hk⟩
   |succ k=>exact⟨_,_,.inl hs,fresh hk⟩
  ·have hs:=sel (n:=0) (lx:=[]) rfl (by omega);cases nx with
   |zero=>rw[zbE]at hk;exact⟨_,m,.inr ⟨hs,rfl⟩,zgW hM hT (.inl rfl) hk⟩
   |succ k=>exact⟨_,_,.inl hs,fresh hk⟩
 have emp:∀{tt off:Nat},x=.slc tt off 0 0->(∃o cs,R tt=some o/\zjK o=some cs/\off<=cs.length/\cs.all one=true)->(nx<=1000000/\zpi O (.list elem sz0 nx new) fun o O=>K (.lst o) T O)->∃z m',(out=.mem z m'\/(out=.val z/\m'=m))/\Gone G R e t K z m':=by
  rintro tt off rfl ⟨o,cs,h1,h2,h3,h4⟩ ⟨hn,hk⟩;have hx0:elems m sz0 (.slc tt off 0 0)=some (0,seg cs off (0*sz0)):=zc8 (hM.sk.ro _ _ h1) h2 (by simpa using h3);have hs:=sel hx0 (by omega);cases nx with
  |zero=>rw[zbE]at hk;exact⟨_,m,.inr ⟨hs,rfl⟩,zgW hM hT (.inr ⟨tt,off,o,cs,rfl,h1,h2,h3,h4⟩) hk⟩
  |succ k=>
   refine⟨_,_,.inl (hs.trans ?_),fresh hk⟩;show zit m.nxt m elem sz0 (k+1) ly (seg cs off (0*sz0)) tt off 0 0=_;unfold zit;simp[seg];rfl
 split at h
 ·cases hv;exact nil rfl h
 ·cases hv with
  |empN=>exact nil rfl h
  |empV=>exact nil rfl h
  |empS hh=>exact emp rfl hh h
 ·rename_i o;split at h
  ·rename_i ty' sz n el ho;split at h
   ·rename_i hbb;simp only[ya2,zdG,decide_eq_true_eq]at hbb;obtain⟨rfl,rfl⟩:=hbb;obtain⟨hn,hk⟩:=h;rw[zft,zav]at hk;have hox:e o=some x:=by cases hv<;>assumption
    rcases hM.ob o _ (zay ho (by simp))with h0 |⟨x',hx',hor⟩
    ·cases h0
    rw[hox]at hx';cases hx';have grow:∀{m':Mem} {y':CV},(∀u:PM,x≠PM.c u)->Chg m (tg x) (tg y') m'->OR R noE m' y' (.list ty' sz (n+nx) (zei n el new))->(∀e',e' o=some y'->Rep R e' (.lst o) y')->Gone G R e t K y' m':=fun h1 h2 h3 h4=>zgN hM hT hox h1 h2 (by simp) h3 (fun e' h=>h) h4 hk
    have opnew:∀{lx:List CV} (hl:lx.length=n*sz) (ha:lx.all one=true) (hx:∀i,i<n->RepL R noE (el i) (seg lx (i*sz) sz)) {m':Mem},m'.get m.nxt=some (.opn ty' sz (lx++ly))->OR R noE m' (.opn m.nxt 0 (n+nx)) (.list ty' sz (n+nx) (zei n el new)):=fun{lx} hl ha hx {m'} hg=>
     OR.mkO hg (by rw[ya1,hl,hlen,Nat.add_mul];exact Nat.le_refl _) (by rw[List.all_append,ha,hall];rfl) (zc0 hl hlen hx hel)
    rcases hor with⟨hq |⟨tt,off,oo,cs,hq,h1,h2,h3,h4⟩,rfl⟩ |⟨tt,c,xs,rfl,hc0,hc,hg,hcl,ha,hes⟩ |⟨tt,xs,rfl,hg,hcl,ha,hes⟩
    ·rcases zdD hq with hq |⟨a0,hq⟩
     ·subst hq;have hs:=sel (n:=0) (lx:=[]) rfl (by omega);cases nx with
      |zero=>
       refine⟨_,m,.inr ⟨hs,rfl⟩,grow (fun u=>by cases u<;>simp) Chg.refl' (OR.mkE (.inl rfl)) fun e' he=>.lstN he⟩
      |succ k=>
       have hnw:=New.at m (CO.opn ty' sz ly);refine⟨_,_,.inl hs,?_⟩;have:=grow (m':=m.newAt m.nxt (.opn ty' sz ly)) (y':=.opn m.nxt 0 (0+(k+1))) (fun u=>by cases u<;>simp) (Chg.new' hnw (by intro t ht;cases ht)) (opnew (lx:=[]) (by simp) rfl (fun i hi=>by omega) hnw.self) fun e' he=>.lstO he
       rw[Nat.zero_add]at this;exact this
     ·subst hq;have hs:=sel (n:=0) (lx:=[]) rfl (by omega);cases nx with
      |zero=>
       refine⟨_,m,.inr ⟨hs,rfl⟩,grow (fun u=>by cases u<;>simp) Chg.refl' (OR.mkE (.inl rfl)) fun e' he=>.lstV he⟩
      |succ k=>
       have hnw:=New.at m (CO.opn ty' sz ly);refine⟨_,_,.inl hs,?_⟩;have:=grow (m':=m.newAt m.nxt (.opn ty' sz ly)) (y':=.opn m.nxt 0 (0+(k+1))) (fun u=>by cases u<;>simp) (Chg.new' hnw (by intro t ht;cases ht)) (opnew (lx:=[]) (by simp) rfl (fun i hi=>by omega) hnw.self) fun e' he=>.lstO he
       rw[Nat.zero_add]at this;exact this
    ·subst hq;have hx0:elems m sz (.slc tt off 0 0)=some (0,seg cs off (0*sz)):=zc8 (hM.sk.ro _ _ h1) h2 (by simpa using h3);have hs:=sel hx0 (by omega);cases nx with
     |zero=>
      refine⟨_,m,.inr ⟨hs,rfl⟩,grow (fun u=>by cases u<;>simp) Chg.refl' (OR.mkE (.inr ⟨tt,off,oo,cs,rfl,h1,h2,h3,h4⟩)) fun e' he=>.lstE he⟩
     |succ k=>
      have hnw:=New.at m (CO.opn ty' sz ly);refine⟨.opn m.nxt 0 (0+(k+1)),m.newAt m.nxt (.opn ty' sz ly),.inl (hs.trans ?_),?_⟩
      ·show zit m.nxt m ty' sz (k+1) ly (seg cs off (0*sz)) tt off 0 0=_;unfold zit;simp[seg];rfl
      ·exact grow (fun u=>by cases u<;>simp) (Chg.new' hnw (by intro t ht;cases ht)) (opnew (lx:=[]) (by simp) rfl (fun i hi=>by omega) hnw.self) fun e' he=>.lstO he
    ·have hlt:=hM.sk.wf.lt hg;have hl:0+n*sz<=xs.length:=by rw[<- hcl];have:=yd2 sz hc;omega
     have hx0:elems m sz (.slc tt 0 n c)=some (n,seg xs 0 (n*sz)):=zc8 hg rfl hl;have hs:=sel hx0 hn;have hes':∀i,i<n->RepL R noE (el i) (seg (seg xs 0 (n*sz)) (i*sz) sz):=fun i hi=>by
      rw[zdv (zci hi),Nat.zero_add];exact hes i hi
     cases nx with
     |zero=>
      have hs':out=.val (.slc tt 0 n c):=by
       rw[hs];simp only[ztE,ap0,yb1 hc]
      refine⟨_,m,.inr ⟨hs',rfl⟩,grow (fun u=>by cases u<;>simp) Chg.refl' (OR.mkS hc0 hc hg hcl ha fun i hi=>?_) fun e' he=>.lstS he⟩;unfold zei;rw[if_pos (show i<n from hi)];exact hes i hi
     |succ k=>
      have hs':out=zit m.nxt m ty' sz (k+1) ly (seg xs 0 (n*sz)) tt 0 n c:=hs;by_cases hroom:n+(k+1)<=c
      ·have hsz:(n+(k+1))*sz<=xs.length:=by rw[<- hcl];exact yd2 _ hroom
       rw[Nat.add_mul]at hsz;have hw':=zmg (m:=m) (off:=0+n*sz) (vs:=ly) hg hall (by rw[hlen];omega);have hput:=Put.mk' m tt (.cells ty' (zax xs (0+n*sz) ly)) (fun o' ho'=>by rw[hg]at ho';cases ho';rfl);refine⟨.slc tt 0 (n+(k+1)) c,m.put tt (.cells ty' (zax xs (0+n*sz) ly)),.inl (hs'.trans ?_),grow (fun u=>by cases u<;>simp) ?_ (OR.mkS hc0 hroom hput.self (by rw[zaK];exact hcl) (ze1 ha hall) ?_) fun e' he=>.lstS he⟩
       ·unfold zit;simp only[yb1 hroom,hw']
       ·rw[zcD hc0,zcD hc0];exact Chg.put' hput hlt
       ·rw[zct _ _ _ (by rw[hlen];omega),Nat.zero_add];have:=zc0 (R:=R) (e:=noE) (a:=xs.take (n*sz)) (b:=ly) (n:=n) (k:=k+1) (sz:=sz) (ea:=el) (eb:=new) (by rw[List.length_take];omega) hlen (fun i hi=>by
         have:=hes' i hi;unfold seg at this ⊢;simpa using this) hel
        intro i hi;have h5:=this i hi;have hm:=zci (sz:=sz) hi;unfold seg at h5 ⊢;have hlen2:(xs.take (n*sz)++ly).length=(n+(k+1))*sz:=by rw[ya1,List.length_take,hlen,Nat.min_eq_left (by omega),<- Nat.add_mul]
        rw[List.drop_append_of_le_length (by rw[hlen2];omega),List.take_append_of_le_length (by rw[List.length_drop,hlen2];omega)];exact h5
      ·have hnw:=New.at m (CO.opn ty' sz (seg xs 0 (n*sz)++ly));refine⟨.opn m.nxt 0 (n+(k+1)),_,.inl (hs'.trans ?_),grow (fun u=>by cases u<;>simp) ?_ (opnew (za6 hl) (zfS ha _ _) hes' hnw.self) fun e' he=>.lstO he⟩
       ·unfold zit;rw[show Nat.ble (n+(k+1)) c=false by rw[Bool.eq_false_iff];intro hq;exact hroom (ya9 hq)]
       ·rw[zcD hc0];exact Chg.new' hnw fun t ht=>by cases ht;exact hlt
    ·have hlt:=hM.sk.wf.lt hg;have hl:(0+n)*sz<=xs.length:=by rw[Nat.zero_add];exact hcl
     have hx0:elems m sz (.opn tt 0 n)=some (n,seg xs (0*sz) (n*sz)):=zhj hg hl;have hs:=sel hx0 hn;have hes':∀i,i<n->RepL R noE (el i) (seg (seg xs (0*sz) (n*sz)) (i*sz) sz):=fun i hi=>by
      rw[zdv (zci hi),Nat.zero_mul,Nat.zero_add];exact hes i hi
     cases nx with
     |zero=>
      refine⟨_,m,.inr ⟨hs,rfl⟩,grow (fun u=>by cases u<;>simp) Chg.refl' (OR.mkO hg hcl ha fun i hi=>?_) fun e' he=>.lstO he⟩;unfold zei;rw[if_pos (show i<n from hi)];exact hes i hi
     |succ k=>
      have hs':out=zpR m.nxt m ty' sz (k+1) ly (seg xs (0*sz) (n*sz)) tt 0 n:=hs;by_cases hroom:(0+n+(k+1))*sz<=xs.length
      ·have hsz:=hroom;rw[Nat.zero_add,Nat.add_mul]at hsz;have hw':=zmX (m:=m) (off:=(0+n)*sz) (vs:=ly) hg hall (by rw[hlen,Nat.zero_add];omega);have hput:=Put.mk' m tt (.opn ty' sz (zax xs ((0+n)*sz) ly)) (fun o' ho'=>by rw[hg]at ho';cases ho';rfl);refine⟨.opn tt 0 (n+(k+1)),m.put tt (.opn ty' sz (zax xs ((0+n)*sz) ly)),.inl (hs'.trans ?_),grow (fun u=>by cases u<;>simp) (Chg.put' hput hlt) (OR.mkO hput.self (by rw[zaK,Nat.add_mul];omega) (ze1 ha hall) ?_) fun e' he=>.lstO he⟩
       ·unfold zpR;simp only[hg,show Nat.beq ty' ty'=true from Nat.beq_refl ty',yb1 hroom,hw']
       ·rw[zct _ _ _ (by rw[hlen,Nat.zero_add];omega),Nat.zero_add];have:=zc0 (R:=R) (e:=noE) (a:=xs.take (n*sz)) (b:=ly) (n:=n) (k:=k+1) (sz:=sz) (ea:=el) (eb:=new) (by rw[List.length_take];omega) hlen (fun i hi=>by
         have:=hes' i hi;unfold seg at this ⊢;simpa using this) hel
        intro i hi;have h5:=this i hi;have hm:=zci (sz:=sz) hi;unfold seg at h5 ⊢;have hlen2:(xs.take (n*sz)++ly).length=(n+(k+1))*sz:=by rw[ya1,List.length_take,hlen,Nat.min_eq_left (by omega),<- Nat.add_mul]
        rw[List.drop_append_of_le_length (by rw[hlen2];omega),List.take_append_of_le_length (by rw[List.length_drop,hlen2];omega)];exact h5
      ·refine⟨.opn m.nxt 0 (n+(k+1)),(m.kill tt).newAt m.nxt (.opn ty' sz (seg xs (0*sz) (n*sz)++ly)),.inl (hs'.trans ?_),grow (fun u=>by cases u<;>simp) (Chg.killNew fun o' ho'=>by rw[hg]at ho';cases ho';rfl) (opnew (za6 (by rw[Nat.zero_mul,Nat.zero_add];exact hcl)) (zfS ha _ _) hes' ?_) fun e' he=>.lstO he⟩
       ·unfold zpR;simp only[hg,show Nat.beq ty' ty'=true from Nat.beq_refl ty'];rw[show Nat.ble ((0+n+(k+1))*sz) xs.length=false by rw[Bool.eq_false_iff];intro hq;exact hroom (ya9 hq)]
       ·have hnw:=New.at (m.kill tt) (CO.opn ty' sz (seg xs (0*sz) (n*sz)++ly));exact hnw.self
   ·exact h.elim
  ·exact h.elim
 ·exact h.elim
theorem zvh{T sz:Nat}{ty ty2:TypeId}{x y:CV}{q:Nat×List CV}(h:elems m sz y=some q):ap2 P T m ty ty2 x y=zdm P T m ty ty2 x y:=by
 cases y<;>first |rfl |cases h
theorem zpm{ty:TypeId}{v w:SV}{x y:CV}(hM:MSat G R e O m)(hT:TSat R e T t)(hv:Rep R e v x)(hw:Rep R e w y)(h:zmN P ty v w T O K):
  ∃z m',(ap2 P m.nxt m ty ty x y=.mem z m'\/(ap2 P m.nxt m ty ty x y=.val z/\m'=m))/\Gone G R e t K z m':=by
 unfold zmN at h;split at h
 ·rename_i elem hu;split at h
  ·rename_i inf hi;split at h
   ·rename_i z hz;split at h
    ·rename_i hb;simp only[ya2]at hb;obtain⟨hb0,hb1,hb2⟩:=hb;split at h
     ·rename_i nx new hy;obtain⟨ly,hly,hlen,hall,hel⟩:=zt1 hM hw hy;exact zme hM hT hv (fun hx hn=>(zvh hly).trans (zmv hu hi hz hb0 hb1 hb2 hly hx hn)) hlen hall hel h
     ·exact h.elim
    ·exact h.elim
   ·exact h.elim
  ·exact h.elim
 ·exact h.elim
theorem zlL{ty ty2 elem:TypeId}{inf:TypeInfo}{z lx:List CV}{n:Nat}{x:CV}{s:List Nat}(hu:P.underlying ty=some (.slice elem))(hu2:P.underlying ty2=some .string)(hi:P.info? elem=some inf)(hz:zey P elem=some z)(hb0:Nat.beq inf.size 1=true)(hb1:Nat.beq z.length 1=true)(hb2:Nat.ble inf.bytes 1000000=true)
  (hx:elems m 1 x=some (n,lx)) (hn:n+s.length<=1000000):zdp P m.nxt m ty ty2 x s=ztE m.nxt m elem 1 (s.map fun b=>.int .u8 (.ofNat (b%256))) lx x s.length:=by
 have hf:zt5 inf.bytes (n+s.length)=true:=by unfold zt5;rw[yb1 hn,hb2];rfl
 unfold zdp;simp only[hu,hu2,hi,hz,hb0,hb1,Bool.and_self,hx,hf];cases s<;>rfl
theorem zpO{R:RO}{s:List Nat}{i:Nat}(hi:i<s.length):RepL R noE (zje s i) (seg (s.map fun b=>CV.int .u8 (.ofNat (b%256))) (i*1) 1):=by
 rw[Nat.mul_one];unfold seg zje;rw[List.drop_eq_getElem_cons (by simpa using hi)];simp only[List.getElem_map,List.take_succ_cons,List.take_zero,ya8,yb5 hi,Option.getD_some];exact .cons (.cv rfl) .nil
theorem zmR{ty ty2:TypeId}{v:SV}{x:CV}{s:List Nat}(hM:MSat G R e O m)(hT:TSat R e T t)(hv:Rep R e v x)(h:zkJ P ty ty2 v s T O K):
  ∃z m',(zdp P m.nxt m ty ty2 x s=.mem z m'\/(zdp P m.nxt m ty ty2 x s=.val z/\m'=m))/\Gone G R e t K z m':=by
 unfold zkJ at h;split at h
 ·rename_i elem hu;split at h
  ·rename_i hu2;split at h
   ·rename_i inf hi;split at h
    ·rename_i z hz;split at h
     ·rename_i hb;simp only[ya2]at hb;obtain⟨hb0,hb1,hb2⟩:=hb;exact zme hM hT hv (fun hx hn=>zlL hu hu2 hi hz hb0 hb1 hb2 hx hn) (by simp) (zhR s) (fun i hi=>zpO hi) h
     ·exact h.elim
    ·exact h.elim
   ·exact h.elim
  ·exact h.elim
 ·exact h.elim
end
end Go.Cx
namespace Go.Cx
open Go
theorem zoc{P:Program}{ty:TypeId}{xs:List CV}{a n off:Nat}{x:CV}(hl:a+n<=xs.length)(h:part P ty (seg xs a n) off=some x):part P ty xs (a+off)=some x:=by
 have hn:∀{i:Nat} {y:CV},nth (seg xs a n) i=some y->nth xs (a+i)=some y:=fun{i y} h=>by
  rw[zbG]at h ⊢;unfold seg at h;rw[List.getElem?_take]at h;split at h
  ·rw[List.getElem?_drop]at h;exact h
  ·cases h
 unfold part at h ⊢;split at h
 ·exact hn h
 ·rename_i k ha;split at h
  ·rename_i l ht;obtain⟨h1,rfl⟩:=zbl ht;unfold seg at h1;rw[List.length_take,List.length_drop]at h1;have h3:zcZ xs (a+off) k=some (seg xs (a+off) k):=by
    unfold zcZ;by_cases hk:a+off+k<=xs.length
    ·rw[yb1 hk];rfl
    ·exfalso;omega
   simp only[h3];rw[<- h];congr 2;show seg xs (a+off) k=seg (seg xs a n) off k;rw[zdv (by omega)]
  ·cases h
 ·cases h
noncomputable def zr2(P:Program)(ty:TypeId)(O:List SObj)(p:SV)(K:SV->Prop):Prop:=match p with
 |.ptr o off=>match zbt O o with
  |.cells _ cs=>zkM P ty cs off K
  |_=>False
 |.ept o sz i off=>match zbt O o with
  |.list _ sz' n el=>match Nat.beq sz sz' with
   |true=>i<n/\zkM P ty (el i) off K
   |false=>False
  |_=>False
 |.ipt cs off=>zkM P ty cs off K
 |_=>False
def zrl(i:Nat)(cs:List SV)(el:Nat->List SV):Nat->List SV:=fun j=>if j=i then cs else el j
noncomputable def zll(P:Program)(ty:TypeId)(T:List SV)(O:List SObj)(p v:SV)(K:List SV->List SObj->Prop):Prop:=match P.info? ty with
 |some inf=>match zh4 v with
  |some vs=>match Nat.beq (zcd vs) inf.size&&zhT vs with
   |true=>match p with
    |.ptr o off=>match zbt O o with
     |.cells ty' cs=>match Nat.ble (off+zcd vs) (zcd cs) with
      |true=>zvW cs off vs fun cs=>zcI O o (.cells ty' cs) fun O=>K T O
      |false=>False
     |_=>False
    |.ept o sz i off=>zmp 9 (.ept o sz i off::vs) T O fun l T O=>match l with
     |.ept o sz i off::vs=>match zbt O o with
      |.list ty' sz' n el=>match Nat.beq sz sz'&&(vs.all (zeg zah)&&zhT vs) with
       |true=>(i<n/\off+zcd vs<=sz)/\zvW (el i) off vs fun cs=>zcI O o (.list ty' sz' n (zrl i cs el)) fun O=>K T O
       |false=>False
      |_=>False
     |_=>False
    |_=>False
   |false=>False
  |none=>False
 |none=>False
noncomputable def zd1(P:Program)(ty:TypeId)(O:List SObj)(x:SV)(i:SV)(K:SV->Prop):Prop:=match i with
 |.cv (.int _ k)=>match P.underlying ty with
  |some (.slice elem)=>match P.info? elem with
   |some inf=>match x with
    |.isl sz n el=>match Nat.beq sz inf.size with
     |true=>(0<=k/\k<n)/\K (.ipt (el k.toNat) 0)
     |false=>False
    |.islx sz n el=>match Nat.beq sz inf.size with
     |true=>(0<=k/\k<n)/\K (.ipt (el k.toNat) 0)
     |false=>False
    |.lst o=>match zbt O o with
     |.list _ sz n _=>match Nat.beq sz inf.size with
      |true=>(0<=k/\k<n)/\K (.ept o sz k.toNat 0)
      |false=>False
     |_=>False
    |.sub o off n _=>(0<=k/\k<n)/\K (.ptr o (off+k.toNat*inf.size))
    |_=>False
   |none=>False
  |some (.array len elem)=>match P.info? elem with
   |some inf=>match x with
    |.ptr o off=>(0<=k/\k<len)/\K (.ptr o (off+k.toNat*inf.size))
    |.ipt cs off=>(0<=k/\k<len)/\K (.ipt cs (off+k.toNat*inf.size))
    |.ept o sz i off=>(0<=k/\k<len)/\K (.ept o sz i (off+k.toNat*inf.size))
    |_=>False
   |none=>False
  |_=>False
 |_=>False
noncomputable def zd9(P:Program)(s:TypeId)(x:SV)(f:Nat)(K:SV->Prop):Prop:=
 match P.underlying s with
 |some (.struct fs)=>match nth fs.toList f with
  |some fd=>match P.info? fd.type with
   |some i=>match i.size with
    |0=>False
    |_+1=>match x with
     |.ptr o off=>K (.ptr o (off+fd.offset))
     |.ipt cs off=>K (.ipt cs (off+fd.offset))
     |.ept o sz i off=>K (.ept o sz i (off+fd.offset))
     |_=>False
   |none=>False
  |none=>False
 |_=>False
noncomputable def zod(P:Program)(t:TypeId)(x:SV)(f:Nat)(K:SV->Prop):Prop:=
 match P.underlying t with
 |some (.struct fs)=>match x with
  |.agg cs=>match nth fs.toList f with
   |some fd=>zkM P fd.type cs fd.offset K
   |none=>False
  |_=>False
 |_=>False
noncomputable def zpa(P:Program)(t:TypeId)(ps:List (Nat×SV))(K:SV->Prop):Prop:=
 match zey P t with
 |none=>False
 |some z=>match P.underlying t with
  |some (.struct fs)=>match zhG P fs.toList with
   |true=>zbq fz1 (svL z) fun z=>zpo (zds P fs) z ps fun cs=>K (.agg cs)
   |false=>False
  |some (.array _ elem)=>match P.info? elem with
   |some i=>zbq fz1 (svL z) fun z=>zpo (fun k=>some (k*i.size,i.size)) z ps fun cs=>K (.agg cs)
   |none=>False
  |_=>False
def zgw(sz:Nat)(cs:List SV):Nat->List SV:=fun i=>(cs.drop (i*sz)).take sz
def ziO:SV->Option (IntKind×Int)
 |.cv x=>match x with
  |.int k n=>some (k,n)
  |_=>none
 |_=>none
noncomputable def zu6(k:IntKind):Option (IntKind×Int)->Option (List Int)->Option (List Int)
 |some p,l=>match p with
  |(k',n)=>match kEq k k' with
   |true=>match l with
    |some l=>some (n::l)
    |none=>none
   |false=>none
 |none,_=>none
noncomputable def zwe(k:IntKind):List (Option (IntKind×Int))->Option (List Int)
 |[]=>some []
 |v::r=>zu6 k v (zwe k r)
noncomputable def znl(k:IntKind)(cs:List SV):Option (List Int):=zwe k (cs.map ziO)
noncomputable def zss(cs:List SV):Option (IntKind×List Int):=match cs with
 |[]=>none
 |v::_=>match ziO v with
  |some p=>match p with
   |(k,_)=>match znl k cs with
    |some l=>some (k,l)
    |none=>none
  |none=>none
def zuk(k:IntKind)(xs:List Int):Nat->List SV:=fun i=>[.cv (.int k (xs.getD i 0))]
noncomputable def zns(w:Bool)(sz:Nat)(cs:List SV)(K:(Nat->List SV)->Prop):Prop:=match w&&Nat.beq sz 1 with
 |true=>match zss cs with
  |some (k,xs)=>K (zuk k xs)
  |none=>K (zgw sz cs)
 |false=>K (zgw sz cs)
theorem zrv{v:SV}{k:IntKind}{n:Int}(h:ziO v=some (k,n)):v=.cv (.int k n):=by
 unfold ziO at h;split at h
 ·split at h
  ·cases h;rfl
  ·cases h
 ·cases h
theorem ziK{k:IntKind}:∀{cs:List SV} {xs:List Int},znl k cs=some xs->cs=xs.map fun x=>SV.cv (.int k x)
 |[],_,h=>by cases h;rfl
 |v::r,xs,h=>by
  have h:zu6 k (ziO v) (znl k r)=some xs:=h;have ih:=@ziK k r;cases hp:ziO v with
  |none=>rw[hp]at h;cases h
  |some p=>
   obtain⟨k',n⟩:=p;rw[hp]at h;unfold zu6 at h;simp only at h;split at h
   ·rename_i hk;have hk:=za8 hk;subst hk;split at h
    ·rename_i l' hq;cases h;rw[zrv hp,ih hq];rfl
    ·cases h
   ·cases h
theorem zsn{cs:List SV}{k:IntKind}{xs:List Int}(h:zss cs=some (k,xs)):cs=xs.map fun x=>SV.cv (.int k x):=by
 unfold zss at h;split at h
 ·cases h
 ·split at h
  ·split at h;rename_i k0 n0 hp;split at h
   ·rename_i hq;cases h;exact ziK hq
   ·cases h
  ·cases h
theorem zi3{w:Bool}{sz:Nat}{cs:List SV}{K:(Nat->List SV)->Prop}(h:zns w sz cs K):∃el,K el/\∀j n,j<n->n*sz=cs.length->el j=(cs.drop (j*sz)).take sz:=by
 unfold zns at h;split at h
 ·rename_i hw;split at h
  ·rename_i k xs hq;refine⟨_,h,fun j n hj hn=>?_⟩;have hs:sz=1:=by
    simp only[ya2]at hw;have:=hw.2;simpa using this
   subst hs;rw[zsn hq]at hn ⊢;have hj:j<xs.length:=by rw[yb7]at hn;omega
   rw[Nat.mul_one,List.drop_eq_getElem_cons (by simpa using hj)];simp[zuk,yb5 hj]
  ·exact⟨_,h,fun j n hj hn=>rfl⟩
 ·exact⟨_,h,fun j n hj hn=>rfl⟩
noncomputable def zcA(P:Program)(ws:List TypeId)(t:TypeId)(len:Nat)(ps:List (Nat×SV))(T:List SV)(O:List SObj)(K:DK):Prop:=
 match P.underlying t with
 |some (.slice elem)=>match P.info? elem with
  |some i=>match zey P elem with
   |some z=>match Nat.blt 0 i.size&&(Nat.ble (len*i.size) 100000&&Nat.beq z.length i.size) with
    |true=>zbq fz1 (svL (rep z len)) fun z=>zpo (fun k=>some (k*i.size,i.size)) z ps fun cs=>zmp 9 cs T O fun cs T O=>match zhT cs&&cs.all (zeg zah) with
     |true=>zns (ws.any (Nat.beq t)) i.size cs fun el=>zpi O (.list elem i.size len el) fun o O=>K (.lst o) T O
     |false=>False
    |false=>False
   |none=>False
  |none=>False
 |_=>False
noncomputable def zvX(ty:TypeId)(v:SV)(T:List SV)(O:List SObj)(K:DK):Prop:=match zh4 v with
 |some cs=>match zhT cs with
  |true=>zpi O (.cells ty cs) fun o O=>K (.ptr o 0) T O
  |false=>False
 |none=>False
noncomputable def zc9(P:Program)(t:TypeId)(l c:SV)(T:List SV)(O:List SObj)(K:DK):Prop:=
 match P.underlying t with
 |some (.slice elem)=>match P.info? elem with
  |some i=>match zey P elem with
   |some z=>match l,c with
    |.cv (.int .i64 l),.cv (.int .i64 c)=>match Nat.blt 0 i.size&&(Nat.beq z.length i.size&&z.all one) with
     |true=>(0<=l/\l<=c/\0<c/\c<=100000/\c.toNat*i.bytes<=1000000000)/\zbq fz1 (svL z) fun z=>zpi O (.list elem i.size l.toNat (fun _=>z)) fun o O=>K (.lst o) T O
     |false=>False
    |_,_=>False
   |none=>False
  |none=>False
 |_=>False
def zir(x:Option SV)(d:Int):Option Int:=
 match x with
 |none=>some d
 |some (.cv (.int _ n))=>some n
 |some _=>none
def zlg(a:Nat)(el:Nat->List SV):Nat->List SV:=fun i=>el (a+i)
noncomputable def zrF(P:Program)(ty:TypeId)(x:SV)(lo hi mx:Option SV)(T:List SV)(O:List SObj)(K:DK):Prop:=
 match mx with
 |some (.cv (.int _ (.ofNat 0)))=>match P.underlying ty with
  |some (.slice elem)=>match P.info? elem with
   |some inf=>match zir lo 0,hi with
    |some (.ofNat 0),some (.cv (.int _ (.ofNat 0)))=>match x with
     |.cv .nils=>K .emp T O
     |.isl sz _ _=>match Nat.beq sz inf.size&&Nat.blt 0 sz with
      |true=>K .emp T O
      |false=>False
     |_=>False
    |_,_=>False
   |none=>False
  |_=>False
 |some _=>False
 |none=>match P.underlying ty with
  |some .string=>match x with
   |.cv (.str s)=>match zir lo 0,zir hi s.length with
    |some a,some b=>(0<=a/\a<=b/\b<=s.length)/\K (.cv (.str (zwO s a b))) T O
    |_,_=>False
   |_=>False
  |some (.slice elem)=>match P.info? elem with
   |some inf=>match Nat.blt 0 inf.size with
    |true=>match x with
     |.isl sz n el=>match Nat.beq sz inf.size with
      |true=>match zir lo 0,zir hi n with
       |some a,some b=>(0<=a/\a<=b/\b<=n)/\K (.islx sz (b.toNat - a.toNat) (zlg a.toNat el)) T O
       |_,_=>False
      |false=>False
     |.islx sz n el=>match Nat.beq sz inf.size with
      |true=>match zir lo 0,zir hi n with
       |some a,some b=>((0<=a/\a<=b/\b<=n)/\0<n)/\K (.islx sz (b.toNat - a.toNat) (zlg a.toNat el)) T O
       |_,_=>False
      |false=>False
     |.lst o=>match lo with
      |none=>match zbt O o with
       |.list ty' sz n el=>match Nat.beq sz inf.size with
        |true=>match zir hi n with
         |some b=>(0<=b/\b<=n)/\zpB o .junk T O fun T O=>zcI O o (.list ty' sz b.toNat el) fun O=>K (.lst o) T O
         |none=>False
        |false=>False
       |_=>False
      |some _=>False
     |_=>False
    |false=>False
   |none=>False
  |some (.array n elem)=>match P.info? elem with
   |some inf=>match x with
    |.ptr o off=>match zir lo 0,zir hi n with
     |some (.ofNat 0),some b=>(b=n/\0<n)/\K (.sub o off n n) T O
     |_,_=>False
    |.ipt cs off=>match zir lo 0,zir hi n with
     |some (.ofNat 0),some b=>(b=n/\0<n/\off=0/\n*inf.size=zcd cs)/\K (.isl inf.size n (zgw inf.size cs)) T O
     |_,_=>False
    |_=>False
   |none=>False
  |_=>False
noncomputable def zxb(P:Program)(ty:TypeId)(O:List SObj)(x:SV)(K:SV->Prop):Prop:=
 match P.underlying ty with
 |some .string=>match x with
  |.cv (.str s)=>K (.cv (.int .i64 s.length))
  |_=>False
 |some (.slice _)=>match x with
  |.cv .nils=>K (.cv (.int .i64 (0:Nat)))
  |.emp=>K (.cv (.int .i64 (0:Nat)))
  |.isl _ n _=>K (.cv (.int .i64 n))
  |.islx _ n _=>K (.cv (.int .i64 n))
  |.lst o=>match zbt O o with
   |.list _ _ n _=>K (.cv (.int .i64 n))
   |_=>False
  |.sub _ _ n _=>K (.cv (.int .i64 n))
  |_=>False
 |some (.array n _)=>K (.cv (.int .i64 n))
 |_=>False
noncomputable def zoa(P:Program)(ty:TypeId)(x i:SV)(K:SV->Prop):Prop:=
 match i with
 |.cv (.int _ k)=>match P.underlying ty with
  |some .string=>match x with
   |.cv (.str s)=>(0<=k/\k<s.length)/\K (.cv (.int .u8 (gbN s k)))
   |_=>False
  |some (.array len elem)=>match x with
   |.agg cs=>match P.info? elem with
    |some inf=>(0<=k/\k<len)/\zkM P elem cs (k.toNat*inf.size) K
    |none=>False
   |_=>False
  |_=>False
 |_=>False
noncomputable def zrA(P:Program)(c:DCfg)(src dst:TypeId)(x:SV)(T:List SV)(O:List SObj)(K:DK):Prop:=
 match P.underlying src with
 |none=>False
 |some (.slice el)=>match P.underlying dst with
  |some .string=>match P.underlying el with
   |some (.int .u8)=>match zgA 1 O x with
    |some (n,e)=>∃s:List Nat,(s.length=n/\∀i,i<n->s.getD i 0<256/\e i=[.cv (.int .u8 ((s.getD i 0:Nat):Int))])/\K (.cv (.str s)) T O
    |none=>False
   |_=>False
  |_=>False
 |some sd=>match P.underlying dst with
  |some (.int k)=>match x with
   |.cv (.int _ n)=>match c.wrap with
    |true=>K (.cv (.int k (k.wrap n))) T O
    |false=>inK k n/\K (.cv (.int k n)) T O
   |_=>False
  |some .string=>match x with
   |.cv (.str s)=>match sd with
    |.string=>K (.cv (.str s)) T O
    |_=>False
   |.cv (.int _ n)=>match sd with
    |.int _=>(0<=n/\n<128)/\K (.cv (.str [n.toNat])) T O
    |_=>False
   |_=>False
  |some (.slice el)=>match P.underlying el with
   |some (.int .u8)=>match sd with
    |.string=>match x with
     |.cv (.str s)=>s.length<=1000000/\zpi O (.list el 1 s.length (zje s)) fun o O=>K (.lst o) T O
     |_=>False
    |_=>False
   |_=>False
  |some .unsafePointer=>match sd with
   |.pointer el=>match x with
    |.ptr o off=>match zbt O o with
     |.cells _ cs=>match P.info? el with
      |some i=>match Nat.blt 0 i.size&&Nat.blt off (zcd cs) with
       |true=>K (.ptr o off) T O
       |false=>False
      |none=>False
     |_=>False
    |_=>False
   |_=>False
  |some (.pointer u)=>match sd with
   |.unsafePointer=>match x with
    |.ptr o off=>match zbt O o with
     |.cells ty cs=>match P.info? u with
      |some _=>zwb (zcd cs) fun n=>ClosedB (liesAt P P.depth ty (n / P.cellsOf ty) off u 1)/\K (.ptr o off) T O
      |none=>False
     |_=>False
    |_=>False
   |_=>False
  |_=>False
def zd7(O:List SObj)(x:SV)(K:SV->Prop):Prop:=match x with
 |.lst o=>match zbt O o with
  |.list _ sz n _=>match Nat.blt 0 sz with
   |true=>0<n/\K (.ept o sz 0 0)
   |false=>False
  |_=>False
 |_=>False
noncomputable def zf3(P:Program)(pt:TypeId)(x n:SV)(T:List SV)(O:List SObj)(K:DK):Prop:=match x with
 |.ept o sz i off=>match n with
  |.cv (.int .i64 k)=>match P.underlying pt with
   |some (.pointer el)=>match zbt O o with
    |.list ty sz' len e=>match Nat.beq (P.cellsOf el) 1&&(Nat.beq ty el&&(Nat.beq sz 1&&(Nat.beq sz' 1&&(Nat.beq i 0&&Nat.beq off 0)))) with
     |true=>(k=len/\0<len/\len<=1000000)/\∃s:List Nat,(s.length=len/\∀j,j<len->s.getD j 0<256/\e j=[.cv (.int .u8 ((s.getD j 0:Nat):Int))]) /\
       zpB o .junk T O fun T O=>zcI O o (.list ty 1 0 e) fun O=>K (.cv (.str s)) T O
     |false=>False
    |_=>False
   |_=>False
  |_=>False
 |_=>False
noncomputable def zfI(mx:Bool)(l:List SV)(K:SV->Prop):Prop:=match l with
 |[.cv a,.cv b]=>zm1 mx [a,b] fun v=>cvK v K
 |_=>False
def zw0(x:SV)(K:SV->Prop):Prop:=match x with
 |.ptr o off=>K (.ptr o off)
 |.ept o s i off=>K (.ept o s i off)
 |.ipt cs off=>K (.ipt cs off)
 |.fn f a b=>K (.fn f a b)
 |.cv (.yld l)=>K (.cv (.yld l))
 |_=>False
def zgX(i:Nat)(x:SV)(K:SV->Prop):Prop:=match x with
 |.tup vs=>knK (zdR vs i) K
 |_=>False
noncomputable def zos(P:Program)(ty:TypeId)(x:SV)(K:SV->Prop):Prop:=match P.underlying ty with
 |some (.interface _)=>False
 |some _=>K (.ifc ty x)
 |none=>False
noncomputable def zjz(P:Program)(v:SV)(a:TypeId)(ok:Bool)(K:SV->Prop):Prop:=match v with
 |.ifc t x=>match zhZ P a with
  |some z=>match Nat.beq t a with
   |true=>match ok with
    |true=>K (.tup [x,.cv (.bool true)])
    |false=>K x
   |false=>match ok with
    |true=>K (.tup [zrG z,.cv (.bool false)])
    |false=>False
  |none=>False
 |_=>False
noncomputable def zkm(P:Program)(v:SV)(a:TypeId)(ok:Bool)(K:SV->Prop):Prop:=match P.underlying a with
 |some u=>match u with
  |.interface _=>False
  |_=>zjz P v a ok K
 |none=>False
theorem znI{P:Program}{R:RO}{e:DEnv}{v:SV}{x:CV}{a:TypeId}{ok:Bool}{K:SV->Prop}{u:TypeDesc}(hu:P.underlying a=some u)(hne:∀n,u≠.interface n)(hv:Rep R e v x)(h:zjz P v a ok K):∃u z,zaE P x a ok=.val z/\Rep R e u z/\K u:=by
 unfold zjz at h;cases hv<;>try (exact h.elim)
 rename_i t y w hy;cases hz:zhZ P a with
 |none=>rw[hz]at h;exact h.elim
 |some z=>
  simp only[hz]at h;cases hb:Nat.beq t a with
  |true=>
   simp only[hb]at h;cases ok with
   |true=>exact⟨_,.tup [w,.bool true],by unfold zaE;simp only[hu,hz,hb],.tup (.cons hy (.cons (.cv (x:=.bool true) rfl) .nil)),h⟩
   |false=>exact⟨_,w,by unfold zaE;simp only[hu,hz,hb],hy,h⟩
  |false=>
   simp only[hb]at h;cases ok with
   |true=>exact⟨_,.tup [z,.bool false],by unfold zaE;simp only[hu,hz,hb],.tup (.cons (zdB z) (.cons (.cv (x:=.bool false) rfl) .nil)),h⟩
   |false=>exact h.elim
theorem zjr{P:Program}{R:RO}{e:DEnv}{v:SV}{x:CV}{a:TypeId}{ok:Bool}{K:SV->Prop}(hv:Rep R e v x)(h:zkm P v a ok K):∃u z,zaE P x a ok=.val z/\Rep R e u z/\K u:=by
 unfold zkm at h;cases hu:P.underlying a with
 |none=>rw[hu]at h;exact h.elim
 |some u=>
  rw[hu]at h;cases u<;>first |exact h.elim |exact znI hu (fun n hh=>by cases hh) hv h
end Go.Cx
namespace Go.Cx
open Go
def zaG:Nat->SV->List Nat
 |_,.ptr o _=>[o]
 |_,.ept o _ _ _=>[o]
 |_,.lst o=>[o]
 |_,.sub o _ _ _=>[o]
 |_,.map o=>[o]
 |d+1,.agg cs=>cs.flatMap (zaG d)
 |d+1,.tup cs=>cs.flatMap (zaG d)
 |d+1,.fn _ a b=>a.flatMap (zaG d)++b.flatMap (zaG d)
 |d+1,.ifc _ v=>zaG d v
 |_,_=>[]
def zxO:SObj->List Nat
 |.cells _ cs=>cs.flatMap (zaG zah)
 |_=>[]
def zaH(n:Nat):List Nat->Bool
 |[]=>false
 |x::xs=>match Nat.beq x n with
  |true=>true
  |false=>zaH n xs
def zcV:Nat->List SObj->List Nat->List Nat->(List Nat->Prop)->Prop
 |0,_,_,seen,k=>k seen
 |_+1,_,[],seen,k=>k seen
 |f+1,O,o::r,seen,k=>match zaH o seen with
  |true=>zcV f O r seen k
  |false=>zcV f O (zxO (zbt O o)++r) (o::seen) k
theorem ze9:∀(f:Nat) (O:List SObj) (r seen:List Nat) (k:List Nat->Prop),∃l,zcV f O r seen k=k l
 |0,_,_,seen,_=>⟨seen,rfl⟩
 |_+1,_,[],seen,_=>⟨seen,rfl⟩
 |f+1,O,o::r,seen,k=>by
  unfold zcV;split
  ·exact ze9 f O r seen k
  ·exact ze9 f O _ _ k
def rsLeaf(L:List Nat):SV->SV
 |.lst i=>match zaH i L with
  |true=>.lst i
  |false=>.junk
 |.ept i sz k off=>match zaH i L with
  |true=>.ept i sz k off
  |false=>.junk
 |.ptr i off=>match zaH i L with
  |true=>.ptr i off
  |false=>.junk
 |.sub i off n c=>match zaH i L with
  |true=>.sub i off n c
  |false=>.junk
 |.map i=>match zaH i L with
  |true=>.map i
  |false=>.junk
 |.agg _=>.junk
 |.tup _=>.junk
 |.fn _ _ _=>.junk
 |.ifc _ _=>.junk
 |v=>v
def rs(L:List Nat):Nat->SV->SV
 |0,v=>rsLeaf L v
 |d+1,.agg cs=>.agg (cs.map (rs L d))
 |d+1,.tup cs=>.tup (cs.map (rs L d))
 |d+1,.fn f a b=>.fn f (a.map (rs L d)) (b.map (rs L d))
 |d+1,.ifc ty v=>.ifc ty (rs L d v)
 |_+1,v=>rsLeaf L v
def zkK(L:List Nat)(v:SV)(k:SV->Prop):Prop:=match v with
 |.lst i=>match zaH i L with
  |true=>k (.lst i)
  |false=>k .junk
 |.ept i sz j off=>match zaH i L with
  |true=>k (.ept i sz j off)
  |false=>k .junk
 |.ptr i off=>match zaH i L with
  |true=>k (.ptr i off)
  |false=>k .junk
 |.sub i off n c=>match zaH i L with
  |true=>k (.sub i off n c)
  |false=>k .junk
 |.map i=>match zaH i L with
  |true=>k (.map i)
  |false=>k .junk
 |.agg _=>k .junk
 |.tup _=>k .junk
 |.fn _ _ _=>k .junk
 |.ifc _ _=>k .junk
 |v=>k v
def rsK(L:List Nat):Nat->SV->(SV->Prop)->Prop
 |0,v,k=>zkK L v k
 |d+1,.agg cs,k=>zbq (rsK L d) cs fun cs=>k (.agg cs)
 |d+1,.tup cs,k=>zbq (rsK L d) cs fun cs=>k (.tup cs)
 |d+1,.fn f a b,k=>zbq (rsK L d) a fun a=>zbq (rsK L d) b fun b=>k (.fn f a b)
 |d+1,.ifc ty v,k=>rsK L d v fun v=>k (.ifc ty v)
 |_+1,v,k=>zkK L v k
theorem ziI(L:List Nat)(v:SV)(k:SV->Prop):zkK L v k=k (rsLeaf L v):=by
 cases v<;>simp only[zkK,rsLeaf]<;>split<;>rfl
theorem zek(L:List Nat):∀(d:Nat) (v:SV) (k:SV->Prop),rsK L d v k=k (rs L d v)
 |0,v,k=>by unfold rsK rs;exact ziI L v k
 |d+1,v,k=>by
  cases v<;>simp only[rsK,rs]<;>first
   |exact ziI L _ k
   |(rw[zaf (zek L d),zaf (zek L d)])
   |(rw[zaf (zek L d)])
   |(rw[zek L d])
def zlD(L:List Nat):Nat->List SObj->List SObj
 |_,[]=>[]
 |i,so::r=>(match zaH i L with
  |true=>(match so with
   |.cells ty cs=>.cells ty (cs.map (rs L zah))
   |so=>so)
  |false=>.dead)::zlD L (i+1) r
def ztz(so:SObj)(l:List SObj):List SObj:=match so,l with
 |.dead,[]=>[]
 |so,l=>so::l
def zko(L:List Nat):Nat->List SObj->List SObj
 |_,[]=>[]
 |i,so::r=>ztz (match zaH i L with
  |true=>(match so with
   |.cells ty cs=>.cells ty (cs.map (rs L zah))
   |so=>so)
  |false=>.dead) (zko L (i+1) r)
def zoe(so:SObj)(l:List SObj)(k:List SObj->Prop):Prop:=match so with
 |.dead=>match l with
  |[]=>k []
  |l=>k (.dead::l)
 |so=>k (so::l)
theorem zdI(so:SObj)(l:List SObj)(k:List SObj->Prop):zoe so l k=k (ztz so l):=by
 cases so<;>cases l<;>rfl
def ze7(L:List Nat):Nat->List SObj->(List SObj->Prop)->Prop
 |_,[],k=>k []
 |i,so::r,k=>match zaH i L with
  |true=>match so with
   |.cells ty cs=>zbq (rsK L zah) cs fun cs=>ze7 L (Nat.succ i) r fun r=>zoe (.cells ty cs) r k
   |so=>ze7 L (Nat.succ i) r fun r=>zoe so r k
  |false=>ze7 L (Nat.succ i) r fun r=>zoe .dead r k
theorem zbS(L:List Nat):∀(i:Nat) (O:List SObj) (k:List SObj->Prop),ze7 L i O k=k (zko L i O)
 |_,[],_=>rfl
 |i,so::r,k=>by
  unfold ze7 zko;cases zaH i L with
  |false=>simp only;rw[zbS L (i+1),zdI]
  |true=>
   cases so<;>simp only
   ·rw[zbS L (i+1),zdI]
   ·rw[zaf (zek L zah),zbS L (i+1),zdI]
   ·rw[zbS L (i+1),zdI]
   ·rw[zbS L (i+1),zdI]
section
variable{R:RO}{e e':DEnv}{L:List Nat}
theorem Rep.rsLeaf(he:∀i x,zaH i L=true->e i=some x->e' i=some x){v:SV}{x:CV}(h:Rep R e v x):Rep R e' (rsLeaf L v) x:=by
 cases h with
 |junk=>exact .junk
 |cv h=>exact .cv h
 |agg h=>exact .junk
 |tup h=>exact .junk
 |fn ha hb=>exact .junk
 |ifc h=>exact .junk
 |ptr h=>simp only[Go.Cx.rsLeaf];split<;>first |exact .junk |(rename_i hq;exact .ptr (he _ _ hq h))
 |eptS h=>simp only[Go.Cx.rsLeaf];split<;>first |exact .junk |(rename_i hq;exact .eptS (he _ _ hq h))
 |eptO h=>simp only[Go.Cx.rsLeaf];split<;>first |exact .junk |(rename_i hq;exact .eptO (he _ _ hq h))
 |lstN h=>simp only[Go.Cx.rsLeaf];split<;>first |exact .junk |(rename_i hq;exact .lstN (he _ _ hq h))
 |lstV h=>simp only[Go.Cx.rsLeaf];split<;>first |exact .junk |(rename_i hq;exact .lstV (he _ _ hq h))
 |lstS h=>simp only[Go.Cx.rsLeaf];split<;>first |exact .junk |(rename_i hq;exact .lstS (he _ _ hq h))
 |lstE h=>simp only[Go.Cx.rsLeaf];split<;>first |exact .junk |(rename_i hq;exact .lstE (he _ _ hq h))
 |lstO h=>simp only[Go.Cx.rsLeaf];split<;>first |exact .junk |(rename_i hq;exact .lstO (he _ _ hq h))
 |sub h=>simp only[Go.Cx.rsLeaf];split<;>first |exact .junk |(rename_i hq;exact .sub (he _ _ hq h))
 |map h=>simp only[Go.Cx.rsLeaf];split<;>first |exact .junk |(rename_i hq;exact .map (he _ _ hq h))
 |islN=>exact .islN
 |islV=>exact .islV
 |islE=>exact .islE
 |islx h=>
  show Rep R e' (.islx _ _ _) x;cases h with
  |islN=>exact .islx .islN
  |islV=>exact .islx .islV
  |islS h1 h2 h3 h4 h0 h5=>exact .islx (.islS h1 h2 h3 h4 h0 h5)
  |islO h1 h2 h0 h3=>exact .islx (.islO h1 h2 h0 h3)
 |islS h1 h2 h3 h4 h0 h5=>exact .islS h1 h2 h3 h4 h0 h5
 |islO h1 h2 h0 h3=>exact .islO h1 h2 h0 h3
 |ipt h1 h2 h3 h0 h4=>exact .ipt h1 h2 h3 h0 h4
 |empN=>exact .empN
 |empV=>exact .empV
 |empS h=>exact .empS h
theorem Rep.rs(he:∀i x,zaH i L=true->e i=some x->e' i=some x):∀(d:Nat) {v:SV} {x:CV},Rep R e v x->Rep R e' (rs L d v) x
 |0,_,_,h=>h.rsLeaf he
 |d+1,v,x,h=>by
  have hl:∀{vs:List SV} {xs:List CV},RepL R e vs xs->RepL R e' (vs.map (Go.Cx.rs L d)) xs:=by
   intro vs
   induction vs with
   |nil=>intro xs h;cases h;exact .nil
   |cons v vs ih=>intro xs h;cases h with |cons hv hs=>exact .cons (Rep.rs he d hv) (ih hs)
  cases h with
  |agg h=>exact .agg (hl h)
  |tup h=>exact .tup (hl h)
  |fn ha hb=>exact .fn (hl ha) (hl hb)
  |ifc h=>exact .ifc (Rep.rs he d h)
  |junk=>exact Rep.rsLeaf he .junk
  |cv h=>exact Rep.rsLeaf he (.cv h)
  |ptr h=>exact Rep.rsLeaf he (.ptr h)
  |eptS h=>exact Rep.rsLeaf he (.eptS h)
  |eptO h=>exact Rep.rsLeaf he (.eptO h)
  |lstN h=>exact Rep.rsLeaf he (.lstN h)
  |lstV h=>exact Rep.rsLeaf he (.lstV h)
  |lstS h=>exact Rep.rsLeaf he (.lstS h)
  |lstE h=>exact Rep.rsLeaf he (.lstE h)
  |lstO h=>exact Rep.rsLeaf he (.lstO h)
  |sub h=>exact Rep.rsLeaf he (.sub h)
  |map h=>exact Rep.rsLeaf he (.map h)
  |islN=>exact Rep.rsLeaf he .islN
  |islV=>exact Rep.rsLeaf he .islV
  |islE=>exact Rep.rsLeaf he .islE
  |islx h=>exact Rep.rsLeaf he (.islx h)
  |islS h1 h2 h3 h4 h0 h5=>exact Rep.rsLeaf he (.islS h1 h2 h3 h4 h0 h5)
  |islO h1 h2 h0 h3=>exact Rep.rsLeaf he (.islO h1 h2 h0 h3)
  |ipt h1 h2 h3 h0 h4=>exact Rep.rsLeaf he (.ipt h1 h2 h3 h0 h4)
  |empN=>exact Rep.rsLeaf he .empN
  |empV=>exact Rep.rsLeaf he .empV
  |empS h=>exact Rep.rsLeaf he (.empS h)
theorem RepL.rs(he:∀i x,zaH i L=true->e i=some x->e' i=some x)(d:Nat):∀{vs:List SV} {xs:List CV},RepL R e vs xs->RepL R e' (vs.map (Go.Cx.rs L d)) xs
 |_,_,.nil=>.nil
 |_,_,.cons hv hs=>.cons (hv.rs he d) (RepL.rs he d hs)
theorem TSat.rs(he:∀i x,zaH i L=true->e i=some x->e' i=some x){T:List SV}{t:Tmps}(h:TSat R e T t):TSat R e' (T.map (Go.Cx.rs L zah)) t:=by
 refine⟨by rw[h.sz,yb7],fun i v hv=>?_⟩;rw[yb9]at hv;cases hT:T[i]? with
 |none=>rw[hT]at hv;cases hv
 |some u=>
  rw[hT]at hv;cases hv;rcases h.get i u hT with rfl |⟨x,h1,h2⟩
  ·exact .inl rfl
  ·exact .inr ⟨x,h1,h2.rs he zah⟩
def DEnv.only(e:DEnv)(L:List Nat):DEnv:=fun i=>match zaH i L with
 |true=>e i
 |false=>none
theorem DEnv.only_some{i:Nat}{x:CV}(h:e.only L i=some x):zaH i L=true/\e i=some x:=by
 unfold DEnv.only at h;split at h
 ·rename_i hq;exact⟨hq,h⟩
 ·cases h
theorem DEnv.only_of{i:Nat}{x:CV}(h1:zaH i L=true)(h2:e i=some x):e.only L i=some x:=by
 unfold DEnv.only;rw[h1];exact h2
def zep(L:List Nat)(i:Nat)(so:SObj):SObj:=match zaH i L with
 |true=>(match so with
  |.cells ty cs=>.cells ty (cs.map (Go.Cx.rs L zah))
  |so=>so)
 |false=>.dead
theorem zli(so:SObj)(l:List SObj)(i:Nat):((ztz so l)[i]?).getD .dead=((so::l)[i]?).getD .dead:=by
 cases so<;>cases l<;>cases i<;>simp[ztz]
theorem zhE:∀(O:List SObj) (k i:Nat),((zko L k O)[i]?).getD .dead=((O[i]?).map (zep L (k+i))).getD .dead
 |[],_,_=>by simp[zko]
 |so::r,k,0=>by
  unfold zko;rw[zli];simp[zep]
 |so::r,k,i+1=>by
  unfold zko;rw[zli,yc6,zhE r (k+1) i,yc6,show k+1+i=k+(i+1)by omega]
theorem MSat.only{G:Ctx}{O:List SObj}{m:Mem}(h:MSat G R e O m)(L:List Nat):MSat G R (e.only L) (zko L 0 O) m:=by
 have he:∀i x,zaH i L=true->e i=some x->e.only L i=some x:=fun i x=>DEnv.only_of
 refine⟨h.fr,h.sk,h.le,h.rn,fun i z t hz ht=>h.own i z t (DEnv.only_some hz).2 ht,fun i j z w t hz hw hzt hwt=>h.inj i j z w t (DEnv.only_some hz).2 (DEnv.only_some hw).2 hzt hwt,fun i so hi=>?_,fun i z hz=>?_⟩
 ·have h0:=zhE (L:=L) O 0 i;rw[hi,Option.getD_some,Nat.zero_add]at h0;cases hO:O[i]? with
  |none=>rw[hO]at h0;exact .inl h0
  |some s0=>
   rw[hO,yc5,Option.getD_some]at h0;subst h0;unfold zep;split
   ·rename_i hm;rcases h.ob i s0 hO with rfl |⟨z,h1,h2⟩
    ·exact .inl rfl
    ·refine .inr ⟨z,he i z hm h1,?_⟩;cases s0 with
     |dead=>exact h2
     |cells ty cs=>
      obtain⟨t,xs,rfl,h3,h4⟩:=h2;exact⟨t,xs,rfl,h3,h4.rs he zah⟩
     |list ty sz n el=>exact h2
     |map c f st=>exact h2
   ·exact .inl rfl
 ·obtain⟨h1,h2⟩:=DEnv.only_some hz;obtain⟨so,h3,h4⟩:=h.dom i z h2;have h0:=zhE (L:=L) O 0 i;rw[h3,yc5,Option.getD_some,Nat.zero_add]at h0;have hne:zep L i so≠.dead:=by
   unfold zep;rw[h1];cases so<;>simp at h4 ⊢
  cases hk:(zko L 0 O)[i]? with
  |none=>rw[hk]at h0;exact absurd h0.symm hne
  |some s1=>rw[hk,Option.getD_some]at h0;exact⟨s1,rfl,by rw[h0];exact hne⟩
end
end Go.Cx
namespace Go.Cx
open Go
section
variable{P:Program}{X:Ext}{G:Ctx}{R:RO}{e:DEnv}{m:Mem}{t:Tmps}{K:DK}{T:List SV}{O:List SObj}
theorem MSat.list(h:MSat G R e O m){o:Nat}{ty:TypeId}{sz n:Nat}{el:Nat->List SV}(ho:zbt O o=.list ty sz n el):∃x,e o=some x/\OR R e m x (.list ty sz n el):=by
 rcases h.ob o _ (zay ho (by simp))with h1 |h1
 ·cases h1
 ·exact h1
theorem zjb{x:CV}{ty:TypeId}{sz n:Nat}{el:Nat->List SV}{i:Nat}(h:OR R e m x (.list ty sz n el))(hi:i<n):∃t co xs,tg x=some t/\(x=.opn t 0 n\/∃c,x=.slc t 0 n c)/\m.get t=some co/\zjK co=some xs/\zcl co=false/\i*sz+sz<=xs.length/\xs.all one=true/\RepL R noE (el i) (seg xs (i*sz) sz):=by
 rcases h with⟨_,rfl⟩ |⟨t,c,xs,rfl,h0,h1,h2,h3,ha,h4⟩ |⟨t,xs,rfl,h2,h3,ha,h4⟩
 ·omega
 ·refine⟨t,_,xs,zcD h0,.inr ⟨c,rfl⟩,h2,rfl,rfl,?_,ha,h4 i hi⟩;have:=zci (sz:=sz) hi;have:=yd2 sz h1;omega
 ·refine⟨t,_,xs,rfl,.inl rfl,h2,rfl,rfl,?_,ha,h4 i hi⟩;have:=zci (sz:=sz) hi;omega
theorem zkh{ty:TypeId}{p:SV}{x:CV}{K:SV->Prop}(hM:MSat G R e O m)(hp:Rep R e p x)(h:zr2 P ty O p K):∃v y,zdC P m ty x=.val y/\Rep R e v y/\K v:=by
 unfold zr2 at h;split at h
 ·rename_i o off;split at h
  ·rename_i ty' cs ho;obtain⟨t',xs,h1,h2,h3⟩:=hM.cells (zay ho (by simp));cases hp with
   |ptr h4=>
    rw[h1]at h4;cases h4;obtain⟨v,y,h5,h6,h7⟩:=zdz h3 h;refine⟨v,y,?_,h6,h7⟩;unfold zdC;simp only[zfU h2 rfl,h5]
  ·exact h.elim
 ·rename_i o sz i off;split at h
  ·rename_i ty' sz' n el ho;split at h
   ·rename_i hq;rw[zdG]at hq;simp at hq;subst hq;obtain⟨hi,h⟩:=h;obtain⟨z,hz,hor⟩:=hM.list ho;obtain⟨tt,co,xs,g1,g2,g3,g4,g5,g6,g7,g8⟩:=zjb hor hi;obtain⟨v,y,h5,h6,h7⟩:=zdz g8 h;have hx:x=.ptr tt (i*sz+off):=by
     cases hp with
     |eptS h8=>rw[hz]at h8;rcases g2 with g2 |⟨c,g2⟩<;>(subst g2;cases h8);rfl
     |eptO h8=>rw[hz]at h8;rcases g2 with g2 |⟨c,g2⟩<;>(subst g2;cases h8);rfl
    subst hx;refine⟨v,y,?_,h6.mono (RO.le.refl R) (fun o x hh=>by cases hh),h7⟩;unfold zdC;simp only[zfU g3 g4,zoc g6 h5]
   ·exact h.elim
  ·exact h.elim
 ·rename_i cs off;cases hp with
  |ipt h1 h2 h3 h0 h4=>
   obtain⟨v,y,h5,h6,h7⟩:=zdz h4 h;refine⟨v,y,?_,h6.mono (RO.le.refl R) (fun o x hh=>by cases hh),h7⟩;unfold zdC;simp only[zfU (hM.sk.ro _ _ h1) h2,zoc h3 h5]
 ·exact h.elim
theorem zud{xs ys:List CV}{a n off:Nat}(h1:off+ys.length<=n)(h2:a+n<=xs.length):seg (zax xs (a+off) ys) a n=zax (seg xs a n) off ys:=by
 apply List.ext_getElem?;intro i;have key:∀(us cs:List CV) (k j:Nat),k+us.length<=cs.length->(zax cs k us)[j]? = if k<=j/\j<k+us.length then us[j - k]? else cs[j]? := by
  intro us cs k j hk;rw[zct us cs k hk];by_cases hj:j<k
  ·rw[if_neg (by omega),yc1,yb8 (by rw[List.length_take];omega),List.getElem?_take,if_pos hj]
  ·by_cases hj2:j<k+us.length
   ·rw[if_pos (by omega),yb8 (by rw[ya1,List.length_take];omega),yd0 (by rw[List.length_take];omega),List.length_take,Nat.min_eq_left (by omega)]
   ·rw[if_neg (by omega),yd0 (by rw[ya1,List.length_take];omega),ya1,List.length_take,Nat.min_eq_left (by omega),List.getElem?_drop];congr 1;omega
 rw[key _ _ _ _ (by rw[za6 h2];exact h1)];unfold seg;rw[List.getElem?_take,List.getElem?_take,List.getElem?_drop,List.getElem?_drop,key _ _ _ _ (by omega)];by_cases hi:i<n
 ·simp only[if_pos hi];by_cases hq:off<=i/\i<off+ys.length
  ·rw[if_pos (by omega),if_pos hq];congr 1;omega
  ·rw[if_neg (by omega),if_neg hq]
 ·simp only[if_neg hi];rw[if_neg (by omega)]
theorem ziQ{xs ys:List CV}{a n b:Nat}(h:b+ys.length<=xs.length)(hd:a+n<=b\/b+ys.length<=a):seg (zax xs b ys) a n=seg xs a n:=by
 apply List.ext_getElem?;intro i;rw[zct _ _ _ h];unfold seg;rw[List.getElem?_take,List.getElem?_take];by_cases hi:i<n
 ·rw[if_pos hi,if_pos hi,List.getElem?_drop,List.getElem?_drop];rcases hd with hd |hd
  ·rw[yc1,yb8 (by rw[List.length_take];omega),List.getElem?_take,if_pos (by omega)]
  ·rw[yd0 (by rw[ya1,List.length_take];omega),ya1,List.length_take,Nat.min_eq_left (by omega),List.getElem?_drop];congr 1;omega
 ·rw[if_neg hi,if_neg hi]
theorem zqF{i j sz:Nat}(h:i≠j):i*sz+sz<=j*sz\/j*sz+sz<=i*sz:=by
 rcases Nat.lt_or_gt_of_ne h with h |h
 ·exact .inl (by have:=yd2 sz (show i+1<=j by omega);rw[Nat.add_mul,Nat.one_mul]at this;exact this)
 ·exact .inr (by have:=yd2 sz (show j+1<=i by omega);rw[Nat.add_mul,Nat.one_mul]at this;exact this)
theorem zsi{ty:TypeId}{p v:SV}{x y:CV}(hM:MSat G R e O m)(hT:TSat R e T t)(hp:Rep R e p x)(hv:Rep R e v y)(h:zll P ty T O p v fun T O=>K (.tup []) T O):∃m',zaL P m ty x y=.mem zam m'/\Gone G R e t K zam m':=by
 unfold zll at h;split at h
 ·rename_i inf hi;split at h
  ·rename_i vs hvs;split at h
   ·rename_i hb;simp only[ya2]at hb;obtain⟨hb1,hb2⟩:=hb;obtain⟨ys,hy1,hy2⟩:=hv.cells hvs;rw[zat,hy2.length]at hb1;have hall:=hy2.all hb2;split at h
    ·rename_i o off;split at h
     ·rename_i ty' cs ho;split at h
      ·rename_i hl;rw[zfR,zav]at h;obtain⟨t',xs,h1,h2,h3⟩:=hM.cells (zay ho (by simp));have hl':=ya9 hl;rw[zat,zat,hy2.length,h3.length]at hl';cases hp with
       |ptr h4=>
        rw[h1]at h4;cases h4;have hput:=Put.mk' m t' (.cells ty' (zax xs off ys)) (fun o' ho'=>by rw[h2]at ho';cases ho';rfl);refine⟨_,?_,R,e,_,T,_,RO.le.refl R,fun _ _ h=>h,.tup .nil,hT,hM.put h1 hput (h3.wr hy2),h⟩;unfold zaL;simp only[hi,hy1,hb1,zmg h2 hall hl']
      ·exact h.elim
     ·exact h.elim
    ·obtain⟨R1,e1,l,T1,O1,q1,q2,q3,q4,q5,h⟩:=zcf 9 (RepL.cons hp hy2) hT hM h;split at h
     ·rename_i o sz i off vs';split at h
      ·rename_i ty' sz' n el ho;split at h
       ·rename_i hbb;simp only[ya2,zdG,decide_eq_true_eq]at hbb;obtain⟨rfl,himm,_⟩:=hbb;obtain⟨⟨hin,hoff⟩,h⟩:=h;rw[zfR,zav]at h;cases q3 with
        |cons hp1 hvs1=>
         obtain⟨z,hz,hor⟩:=q5.list ho;obtain⟨tt,co,xs,g1,g2,g3,g4,g5,g6,g7,g8⟩:=zjb hor hin;have hx:x=.ptr tt (i*sz+off):=by
          cases hp1 with
          |eptS h8=>rw[hz]at h8;rcases g2 with g2 |⟨c,g2⟩<;>(subst g2;cases h8);rfl
          |eptO h8=>rw[hz]at h8;rcases g2 with g2 |⟨c,g2⟩<;>(subst g2;cases h8);rfl
         subst hx;rw[zat,hvs1.length]at hoff;have hrep:∀j,j<n->RepL R1 noE (zrl i (wrS (el i) off vs') el j) (seg (zax xs (i*sz+off) ys) (j*sz) sz):=by
          intro j hj;unfold zrl;split
          ·rename_i hji;subst hji;rw[zud hoff g6];exact g8.wr (hvs1.imm himm)
          ·rename_i hji;have hfar:=zqF (sz:=sz) hji;rw[ziQ (by omega) (by omega)];obtain⟨_,_,xs',_,_,g3',g4',_,_,_,g8'⟩:=zjb hor hj;rename_i tt' co' g1' _ _ _ _;rw[g1]at g1';cases g1';rw[g3]at g3';cases g3';rw[g4]at g4';cases g4';exact g8'
         have hlen:i*sz+off+ys.length<=xs.length:=by omega
         rcases hor with⟨_,rfl⟩ |⟨t',c,xs',rfl,h0,h1,h2,h3,ha,h4⟩ |⟨t',xs',rfl,h2,h3,ha,h4⟩
         ·omega
         ·obtain⟨rfl,_⟩:=zeA g1;rw[h2]at g3;cases g3;cases g4;have hput:=Put.mk' m tt (.cells ty' (zax xs (i*sz+off) ys)) (fun o' ho'=>by rw[h2]at ho';cases ho';rfl);refine⟨_,?_,R1,e1,_,T1,_,q1,q2,.tup .nil,q4,q5.putL hz (zcD h0) hput (by simp) (OR.mkS h0 h1 hput.self (by rw[zaK];exact h3) (ze1 ha hall) hrep),h⟩;unfold zaL;simp only[hi,hy1,hb1,zmg h2 hall hlen]
         ·cases g1;rw[h2]at g3;cases g3;cases g4;have hput:=Put.mk' m tt (.opn ty' sz (zax xs (i*sz+off) ys)) (fun o' ho'=>by rw[h2]at ho';cases ho';rfl);refine⟨_,?_,R1,e1,_,T1,_,q1,q2,.tup .nil,q4,q5.putL hz rfl hput (by simp) (OR.mkO hput.self (by rw[zaK];exact h3) (ze1 ha hall) hrep),h⟩;unfold zaL;simp only[hi,hy1,hb1,zmX h2 hall hlen]
       ·exact h.elim
      ·exact h.elim
     ·exact h.elim
    ·exact h.elim
   ·exact h.elim
  ·exact h.elim
 ·exact h.elim
end
end Go.Cx
namespace Go.Cx
open Go
section
variable{P:Program}{X:Ext}{G:Ctx}{R:RO}{e:DEnv}{m:Mem}{t:Tmps}{K:DK}{T:List SV}{O:List SObj}{c:DCfg}
theorem za9{k:Int}(h:0<=k):∃n:Nat,k=.ofNat n/\k.toNat=n:=by
 obtain⟨n,rfl⟩:=Int.eq_ofNat_of_zero_le h;exact⟨n,rfl,rfl⟩
theorem ziF{a b:Nat}(h:a<b):Nat.blt a b=true:=yb1 h
theorem zdl{elem:TypeId}{inf:TypeInfo}{tag off n j:Nat}{ik:IntKind}(hi:P.info? elem=some inf)(h:j<n):zp3 P elem tag off n (.int ik (.ofNat j))=.val (.ptr tag (off+j*inf.size)):=by
 unfold zp3;simp only[hi,ziF h];rfl
theorem zn7{elem ty:TypeId}{inf:TypeInfo}{tag k n j:Nat}{cs:List CV}{ik:IntKind}(hi:P.info? elem=some inf)(hg:m.get tag=some (.opn ty inf.size cs))(h:j<n):zpS P elem m tag k n (.int ik (.ofNat j))=.val (.ptr tag ((k+j)*inf.size)):=by
 unfold zpS;simp only[hi,hg,ziF h,show Nat.beq inf.size inf.size=true from Nat.beq_refl _];rfl
theorem zhN{ty elem:TypeId}{x i:CV}(hu:P.underlying ty=some (.slice elem)):zai P m ty x i=zg9 P elem m i x:=by
 unfold zai;rw[hu]
theorem zkr{ty elem:TypeId}{len:Nat}{x i:CV}(hu:P.underlying ty=some (.array len elem)):zai P m ty x i=zvG P elem len i x:=by
 unfold zai;rw[hu]
theorem znS{ty elem:TypeId}{inf:TypeInfo}{sz n:Nat}{el:Nat->List SV}{x:CV}{ik:IntKind}{k:Int}(hM:MSat G R e O m)(hu:P.underlying ty=some (.slice elem))(hi:P.info? elem=some inf)(hs:sz=inf.size)(hx:Rep R e (.isl sz n el) x)(h0:0<=k)(h1:k<n):∃y,zai P m ty x (.int ik k)=.val y/\Rep R e (.ipt (el k.toNat) 0) y:=by
 obtain⟨j,rfl,hj⟩:=za9 h0;rw[hj];have hjn:j<n:=by have:(j:Int)<n:=h1;omega
 subst hs;cases hx with
 |islN=>omega
 |islV=>omega
 | @islS _ _ _ _ _ off' _ _ _ g1 g2 g3 g4 g0 g5=>
  refine⟨_,(zhN hu).trans (zdl (ik:=ik) hi hjn),?_⟩;have hm:=zci (sz:=inf.size) hjn;have hl:=(g5 j hjn).length;rw[za6 (by omega)]at hl;exact .ipt (off:=0) (b:=off'+j*inf.size) g1 g2 (by rw[hl];omega) g0 (by rw[hl];exact g5 j hjn)
 | @islO _ _ _ _ _ k' _ _ g1 g2 g0 g3=>
  refine⟨_,(zhN hu).trans (zn7 (ik:=ik) hi (hM.sk.ro _ _ g1) hjn),?_⟩;have hm:=zci (sz:=inf.size) hjn;rw[Nat.add_mul]at g2;have hkj:(k'+j)*inf.size=k'*inf.size+j*inf.size:=Nat.add_mul ..;have hl:=(g3 j hjn).length;rw[za6 (by omega)]at hl;exact .ipt (off:=0) (b:=(k'+j)*inf.size) g1 rfl (by rw[hl];omega) g0 (by rw[hl];exact g3 j hjn)
theorem zfu{ty:TypeId}{v w:SV}{x y:CV}{K:SV->Prop}(hM:MSat G R e O m)(hv:Rep R e v x)(hw:Rep R e w y)(h:zd1 P ty O v w K):∃u z,zai P m ty x y=.val z/\Rep R e u z/\K u:=by
 unfold zd1 at h;split at h
 ·rename_i ik k;cases hw;split at h
  ·rename_i elem hu;split at h
   ·rename_i inf hi;split at h
    ·split at h
     ·rename_i hq;rw[zdG]at hq;simp at hq;obtain⟨⟨h0,h1⟩,h2⟩:=h;obtain⟨z,h3,h4⟩:=znS (ik:=ik) hM hu hi hq hv h0 h1;exact⟨_,z,h3,h4,h2⟩
     ·exact h.elim
    ·split at h
     ·rename_i hq;rw[zdG]at hq;simp at hq;obtain⟨⟨h0,h1⟩,h2⟩:=h;cases hv with
      |islE=>omega
      |islx hv=>
       obtain⟨z,h3,h4⟩:=znS (ik:=ik) hM hu hi hq hv h0 h1;exact⟨_,z,h3,h4,h2⟩
     ·exact h.elim
    ·rename_i o;split at h
     ·rename_i ty' sz n el ho;split at h
      ·rename_i hq;rw[zdG]at hq;simp at hq;subst hq;obtain⟨⟨h0,h1⟩,h2⟩:=h;obtain⟨j,rfl,hj⟩:=za9 h0;rw[hj]at h2;have hjn:j<n:=by have:(j:Int)<n:=h1;omega
       obtain⟨z,hz,hor⟩:=hM.list ho;obtain⟨tt,co,xs,g1,g2,g3,g4,g5,g6,g7,g8⟩:=zjb hor hjn;have hxz:x=z:=by cases hv<;>(rename_i hh;rw[hz]at hh;cases hh;rfl)
       subst hxz;rcases hor with⟨_,rfl⟩ |⟨t',c',xs',rfl,k0,k1,k2,k3,ka,k4⟩ |⟨t',xs',rfl,k2,k3,ka,k4⟩
       ·omega
       ·refine⟨_,_,(zhN hu).trans (zdl (ik:=ik) hi hjn),?_,h2⟩;rw[show 0+j*inf.size=j*inf.size+0 by omega];exact .eptS hz
       ·refine⟨_,_,(zhN hu).trans (zn7 (ik:=ik) hi k2 hjn),?_,h2⟩;rw[show(0+j)*inf.size=j*inf.size+0 by rw[Nat.zero_add];rfl];exact .eptO hz
      ·exact h.elim
     ·exact h.elim
    ·rename_i o off n cc;obtain⟨⟨h0,h1⟩,h2⟩:=h;obtain⟨j,rfl,hj⟩:=za9 h0;rw[hj]at h2;have hjn:j<n:=by have:(j:Int)<n:=h1;omega
     cases hv with
     |sub hh=>exact⟨_,_,(zhN hu).trans (zdl (ik:=ik) hi hjn),.ptr hh,h2⟩
    ·exact h.elim
   ·exact h.elim
  ·rename_i len elem hu;split at h
   ·rename_i inf hi;split at h
    ·obtain⟨⟨h0,h1⟩,h2⟩:=h;obtain⟨j,rfl,hj⟩:=za9 h0;rw[hj]at h2;have hjn:j<len:=by have:(j:Int)<len:=h1;omega
     cases hv with
     |ptr hh=>exact⟨_,_,(zkr hu).trans (zdl (ik:=ik) hi hjn),.ptr hh,h2⟩
    ·obtain⟨⟨h0,h1⟩,h2⟩:=h;obtain⟨j,rfl,hj⟩:=za9 h0;rw[hj]at h2;have hjn:j<len:=by have:(j:Int)<len:=h1;omega
     cases hv with
     |ipt g1 g2 g3 g0 g4=>
      refine⟨_,_,(zkr hu).trans (zdl (ik:=ik) hi hjn),?_,h2⟩;rw[Nat.add_assoc];exact .ipt g1 g2 g3 g0 g4
    ·rename_i o sz i off;obtain⟨⟨h0,h1⟩,h2⟩:=h;obtain⟨j,rfl,hj⟩:=za9 h0;rw[hj]at h2;have hjn:j<len:=by have:(j:Int)<len:=h1;omega
     cases hv with
     |eptS hh=>
      refine⟨_,_,(zkr hu).trans (zdl (ik:=ik) hi hjn),?_,h2⟩;rw[Nat.add_assoc];exact .eptS hh
     |eptO hh=>
      refine⟨_,_,(zkr hu).trans (zdl (ik:=ik) hi hjn),?_,h2⟩;rw[Nat.add_assoc];exact .eptO hh
    ·exact h.elim
   ·exact h.elim
  ·exact h.elim
 ·exact h.elim
theorem zfc{s:TypeId}{v:SV}{x:CV}{f:Nat}{K:SV->Prop}(hv:Rep R e v x)(h:zd9 P s v f K):∃u z,za5 P s x f=.val z/\Rep R e u z/\K u:=by
 unfold zd9 at h;split at h
 ·rename_i fs hu;split at h
  ·rename_i fd hf;split at h
   ·rename_i i hi;split at h
    ·exact h.elim
    ·rename_i n hn;have key:∀t off,za5 P s (.ptr t off) f=.val (.ptr t (off+fd.offset)):=fun t off=>by
      unfold za5;simp only[hu,hf,hi,hn];rfl
     split at h
     ·cases hv with
      |ptr hh=>exact⟨_,_,key _ _,.ptr hh,h⟩
     ·cases hv with
      |ipt g1 g2 g3 g0 g4=>
       refine⟨_,_,key _ _,?_,h⟩;rw[Nat.add_assoc];exact .ipt g1 g2 g3 g0 g4
     ·cases hv with
      |eptS hh=>refine⟨_,_,key _ _,?_,h⟩;rw[Nat.add_assoc];exact .eptS hh
      |eptO hh=>refine⟨_,_,key _ _,?_,h⟩;rw[Nat.add_assoc];exact .eptO hh
     ·exact h.elim
   ·exact h.elim
  ·exact h.elim
 ·exact h.elim
theorem zkV{ty:TypeId}{v:SV}{x:CV}{f:Nat}{K:SV->Prop}(hv:Rep R e v x)(h:zod P ty v f K):∃u z,zfx P ty x f=.val z/\Rep R e u z/\K u:=by
 unfold zod at h;split at h
 ·rename_i fs hu;split at h
  ·cases hv with
   |agg hv=>
    split at h
    ·rename_i fd hf;obtain⟨u,z,h1,h2,h3⟩:=zdz hv h;refine⟨u,z,?_,h2,h3⟩;unfold zfx;simp only[hu,hf,h1]
    ·exact h.elim
  ·exact h.elim
 ·exact h.elim
theorem zlJ{ty:TypeId}{ps:List (Nat×SV)}{qs:List (Nat×CV)}{K:SV->Prop}(hp:RepPs R e ps qs)(h:zpa P ty ps K):∃u z,zjt P ty qs=.val z/\Rep R e u z/\K u:=by
 unfold zpa at h;split at h
 ·exact h.elim
 ·rename_i z hz;split at h
  ·rename_i fs hu;split at h
   ·rename_i hf;rw[zeS zgr]at h;obtain⟨vs,xs,h1,h2,h3⟩:=ze0 (zdx z) hp h;refine⟨_,.agg xs,?_,.agg h2,h3⟩;unfold zjt;simp only[hz,hu,hf,h1]
   ·exact h.elim
  ·rename_i n elem hu;split at h
   ·rename_i i hi;rw[zeS zgr]at h;obtain⟨vs,xs,h1,h2,h3⟩:=ze0 (zdx z) hp h;refine⟨_,.agg xs,?_,.agg h2,h3⟩;unfold zjt;simp only[hz,hu,hi,h1]
   ·exact h.elim
  ·exact h.elim
theorem zqO{ty:TypeId}{v:SV}{x:CV}(hM:MSat G R e O m)(hT:TSat R e T t)(hv:Rep R e v x)(h:zvX ty v T O K):∃z m',zim m.nxt m ty x=.mem z m'/\Gone G R e t K z m':=by
 unfold zvX at h;split at h
 ·rename_i cs hc;split at h
  ·rename_i ha;rw[zbE]at h;obtain⟨ys,h1,h2⟩:=hv.cells hc;have hn:=New.at m (CO.cells ty ys);refine⟨.ptr m.nxt 0,_,?_,zfd (so:=.cells ty cs) (x:=.ptr m.nxt 0) hM hT hn rfl rfl (by simp) (fun e' he=>⟨_,_,rfl,hn.self,h2.mono (RO.le.refl R) he⟩) (fun e' he=>.ptr he) (fun _ _ _=>trivial) h⟩;unfold zim;simp only[h1,h2.all ha]
  ·exact h.elim
 ·exact h.elim
theorem zoL{elem:TypeId}{sz n:Nat}{el:Nat->List SV}{ys:List CV}{c:Nat}(hM:MSat G R e O m)(hT:TSat R e T t)(hn:n<=c)(hl:c*sz=ys.length)(ha:ys.all one=true)(hel:∀i,i<n->RepL R noE (el i) (seg ys (i*sz) sz))(h:K (.lst O.length) T (O++[.list elem sz n el])):Gone G R e t K (.slc m.nxt 0 n c) (m.newAt m.nxt (.cells elem ys)):=by
 have hnw:=New.at m (CO.cells elem ys);rcases Nat.eq_zero_or_pos c with hc |hc
 ·subst hc;obtain rfl:n=0:=by omega
  have hR:=hM.sk.none (Nat.le_refl m.nxt);have hle:=RO.le_add (o:=CO.cells elem ys) hR;have hM':MSat G (R.add m.nxt (.cells elem ys)) e O (m.newAt m.nxt (.cells elem ys)):=by
   refine⟨hM.fr.new hnw,(hM.sk.new hnw).add hnw.self,hM.le.trans hle,fun t o hh=>?_,fun o x t hx ht=>?_,hM.inj,fun o so ho=>?_,hM.dom⟩
   ·unfold RO.add at hh;split at hh
    ·rename_i hq;subst hq;exact .inr (.inl hM.fr.nxt)
    ·exact hM.rn t o hh
   ·obtain⟨h1,h2⟩:=hM.own o x t hx ht;obtain⟨_,_,_,hlt⟩:=hM.lt hx ht;exact⟨h1,by rw[RO.add_ne (by omega)];exact h2⟩
   ·rcases hM.ob o so ho with h1 |⟨x,h1,h2⟩
    ·exact .inl h1
    ·exact .inr ⟨x,h1,h2.mono hle (DEnv.le.refl _) fun t ht=>by
      obtain⟨_,_,_,hlt⟩:=hM.lt h1 ht;rw[hnw.get,if_neg (by omega)]⟩
  obtain⟨R',e',v,T',O',q1,q2,q3,q4,q5,q6⟩:=(zgW (K:=K) (ty:=elem) (sz:=sz) (el:=el) hM' (hT.mono hle (DEnv.le.refl _)) (.inr ⟨m.nxt,0,_,ys,rfl,RO.add_self,rfl,Nat.zero_le _,ha⟩) h).ex;exact⟨R',e',v,T',O',hle.trans q1,q2,q3,q4,q5,q6⟩
 ·exact zfd hM hT hnw (zcD hc) rfl (by simp) (fun e' _=>OR.mkS hc hn hnw.self hl ha hel) (fun e' he=>.lstS he) (fun _ _ _=>trivial) h
theorem zhp(z:List CV):∀n,(rep z n).length=n*z.length
 |0=>by simp[rep]
 |n+1=>by rw[rep,ya1,zhp z n,Nat.add_mul,Nat.one_mul,Nat.add_comm]
theorem zhD{place:Nat->Option (Nat×Nat)}:∀{qs:List (Nat×CV)} {xs ys:List CV},zgu place xs qs=some ys->ys.length=xs.length
 |[],xs,ys,h=>by simp[zgu]at h;rw[h]
 |(i,v)::r,xs,ys,h=>by
  unfold zgu at h;split at h
  ·split at h
   ·rw[zhD h,zaK]
   ·cases h
  ·cases h
theorem zfp{R0:RO}{e0:DEnv}{K:DK}{x:CV}{m':Mem}(hR:R0.le R)(he:∀o u,e0 o=some (PM.c u)->e o=some (PM.c u))(h:Gone G R e t K x m'):Gone G R0 e0 t K x m':=by
 obtain⟨R',e',v,T',O',q1,q2,q3⟩:=h.ex;exact⟨R',e',v,T',O',hR.trans q1,fun o u hh=>q2 o u (he o u hh),q3⟩
theorem ziv{ws:List TypeId}{ty:TypeId}{n:Nat}{ps:List (Nat×SV)}{qs:List (Nat×CV)}(hM:MSat G R e O m)(hT:TSat R e T t)(hp:RepPs R e ps qs)(h:zcA P ws ty n ps T O K):∃z m',za0 P m.nxt m ty n qs=.mem z m'/\Gone G R e t K z m':=by
 unfold zcA at h;split at h
 ·rename_i elem hu;split at h
  ·rename_i i hi;split at h
   ·rename_i z hz;split at h
    ·rename_i hb;have hb':=hb;simp only[ya2]at hb';rw[zeS zgr]at h;obtain⟨vs,xs,h1,h2,h3⟩:=ze0 (zdx (rep z n)) hp h;obtain⟨R1,e1,vs1,T1,O1,q1,q2,q3,q4,q5,h4⟩:=zcf 9 h2 hT hM h3;split at h4
     ·rename_i ha;simp only[ya2]at ha;obtain⟨el,h4,hel⟩:=zi3 h4;rw[zbE]at h4;have hall:=q3.all ha.1;have himm:=q3.imm ha.2;have hlen:xs.length=n*i.size:=by
       rw[zhD h1,zhp];have:=hb'.2.2;rw[zdG]at this;simp at this;rw[this]
      refine⟨.slc m.nxt 0 n n,_,?_,zfp q1 q2 (zoL q5 q4 (Nat.le_refl n) hlen.symm hall (fun j hj=>?_) h4)⟩
      ·unfold za0;simp only[hu,hi,hz,hb,h1,hall]
      ·rw[hel j n hj (by rw[q3.length,hlen])];exact himm.seg (j*i.size) i.size
     ·exact h4.elim
    ·exact h.elim
   ·exact h.elim
  ·exact h.elim
 ·exact h.elim
theorem znm{z:List CV}:∀{n i:Nat},i<n->seg (rep z n) (i*z.length) z.length=z
 |0,i,h=>by omega
 |n+1,0,h=>by unfold seg;simp[rep]
 |n+1,i+1,h=>by
  have:=znm (z:=z) (n:=n) (i:=i) (by omega);unfold seg at this ⊢;rw[rep,List.drop_append,show(i+1)*z.length - z.length=i*z.length by rw[Nat.add_mul];omega,List.drop_eq_nil_of_le (by rw[Nat.add_mul];omega),List.nil_append];exact this
theorem zms{z:List CV}(h:z.all one=true):∀n,(rep z n).all one=true
 |0=>rfl
 |n+1=>by rw[rep,List.all_append,h,zms h n];rfl
theorem zj2{ty:TypeId}{v w:SV}{x y:CV}(hM:MSat G R e O m)(hT:TSat R e T t)(hv:Rep R e v x)(hw:Rep R e w y)(h:zc9 P ty v w T O K):∃z m',zan P m.nxt m ty x y=.mem z m'/\Gone G R e t K z m':=by
 unfold zc9 at h;split at h
 ·rename_i elem hu;split at h
  ·rename_i i hi;split at h
   ·rename_i z hz;split at h
    ·rename_i l c';cases hv;cases hw;split at h
     ·rename_i hb;simp only[ya2]at hb;obtain⟨⟨h0,h1,h2,h3,h4⟩,h5⟩:=h;rw[zeS zgr,zbE]at h5;obtain⟨a,rfl,ha⟩:=za9 h0;obtain⟨b,rfl,hb'⟩:=za9 (show(0:Int)<=c' by omega);rw[ha]at h5;rw[hb']at h4;have hab:a<=b:=by have:(a:Int)<=b:=h1;omega
      have hb3:b<=100000:=by have:(b:Int)<=100000:=h3;omega
      have hzl:z.length=i.size:=by have:=hb.2.1;rw[zdG]at this;simpa using this
      refine⟨.slc m.nxt 0 a b,_,?_,zoL (ys:=rep z b) hM hT hab (by rw[zhp,hzl]) (zms hb.2.2 b) (fun j hj=>?_) h5⟩
      ·unfold zan;simp only[hu,hi,hz,hb.1,hb.2.1,hb.2.2,yb1 hab,yb1 hb3,yb1 h4,Bool.and_self]
      ·have hs:=znm (z:=z) (n:=b) (i:=j) (by omega);rw[hzl]at hs;rw[hs];exact zdx z
     ·exact h.elim
    ·exact h.elim
   ·exact h.elim
  ·exact h.elim
 ·exact h.elim
theorem zri{ty:TypeId}{v:SV}{x:CV}{K:SV->Prop}(hM:MSat G R e O m)(hv:Rep R e v x)(h:zxb P ty O v K):∃u z,ztd P m ty x=.val z/\Rep R e u z/\K u:=by
 have ci:∀n:Nat,Rep R e (.cv (.int .i64 (n:Int))) (.int .i64 (.ofNat n)):=fun n=>.cv rfl
 unfold zxb at h;unfold ztd;split at h
 ·rename_i hu;split at h
  ·cases hv;exact⟨_,_,by simp only[hu,zq2],ci _,h⟩
  ·exact h.elim
 ·rename_i el hu;simp only[hu];split at h
  ·cases hv;exact⟨_,_,rfl,ci 0,h⟩
  ·cases hv with
   |empN=>exact⟨_,_,rfl,ci 0,h⟩
   |empV=>exact⟨_,_,rfl,ci 0,h⟩
   |empS _=>exact⟨_,_,rfl,ci 0,h⟩
  ·cases hv with
   |islN=>exact⟨_,_,rfl,ci 0,h⟩
   |islV=>exact⟨_,_,rfl,ci 0,h⟩
   |islS _ _ _ _ _ _=>exact⟨_,_,rfl,ci _,h⟩
   |islO _ _ _ _=>exact⟨_,_,rfl,ci _,h⟩
  ·cases hv with
   |islE=>exact⟨_,_,rfl,ci 0,h⟩
   |islx hv=>
    cases hv with
    |islN=>exact⟨_,_,rfl,ci 0,h⟩
    |islV=>exact⟨_,_,rfl,ci 0,h⟩
    |islS _ _ _ _ _ _=>exact⟨_,_,rfl,ci _,h⟩
    |islO _ _ _ _=>exact⟨_,_,rfl,ci _,h⟩
  ·split at h
   ·rename_i ty' sz n el' ho;obtain⟨z,hz,hor⟩:=hM.list ho;have hxz:x=z:=by cases hv<;>(rename_i hh;rw[hz]at hh;cases hh;rfl)
    subst hxz;rcases hor with⟨hq |⟨_,_,_,_,hq,_⟩,rfl⟩ |⟨_,_,_,rfl,_⟩ |⟨_,_,rfl,_⟩
    ·rcases zdD hq with rfl |⟨a,rfl⟩<;>exact⟨_,_,rfl,ci 0,h⟩
    ·subst hq;exact⟨_,_,rfl,ci 0,h⟩
    ·exact⟨_,_,rfl,ci _,h⟩
    ·exact⟨_,_,rfl,ci _,h⟩
   ·exact h.elim
  ·cases hv with
   |sub _=>exact⟨_,_,rfl,ci _,h⟩
  ·exact h.elim
 ·rename_i n el hu;exact⟨_,_,by simp only[hu],ci _,h⟩
 ·exact h.elim
theorem zmd{ty:TypeId}{v w:SV}{x y:CV}{K:SV->Prop}(hv:Rep R e v x)(hw:Rep R e w y)(h:zoa P ty v w K):∃u z,zdK P ty x y=.val z/\Rep R e u z/\K u:=by
 unfold zoa at h;split at h
 ·rename_i ik k;cases hw;split at h
  ·rename_i hu;split at h
   ·rename_i s;cases hv;obtain⟨⟨h0,h1⟩,hk⟩:=h;obtain⟨j,rfl,_⟩:=za9 h0;refine⟨_,.int .u8 (gbN s (.ofNat j)),?_,.cv rfl,hk⟩;have hj:j<s.length:=by have:(j:Int)<s.length:=h1;omega
    have:nth s j=some s[j]:=by rw[zbG];simp[hj]
    unfold zdK;simp only[hu,zuP,this,gbN,Int.ofNat_eq_natCast,Int.toNat_natCast,ya8,yb5 hj,Option.getD_some]
   ·exact h.elim
  ·rename_i len elem hu;split at h
   ·cases hv with
    |agg hv=>
     split at h
     ·rename_i inf hi;obtain⟨⟨h0,h1⟩,hk⟩:=h;obtain⟨j,rfl,hj⟩:=za9 h0;rw[hj]at hk;have hjn:j<len:=by have:(j:Int)<len:=h1;omega
      obtain⟨u,z,h2,h3,h4⟩:=zdz hv hk;refine⟨u,z,?_,h3,h4⟩;unfold zdK;simp only[hu,zvB,hi,ziF hjn,h2]
     ·exact h.elim
   ·exact h.elim
  ·exact h.elim
 ·exact h.elim
theorem zdZ{mx:Bool}{vs:List SV}{xs:List CV}{K:SV->Prop}(hv:RepL R e vs xs)(h:zfI mx vs K):∃u z,zdL mx xs=.val z/\Rep R e u z/\K u:=by
 unfold zfI at h;split at h
 ·cases hv with
  |cons h1 hs=>cases hs with
   |cons h2 hs=>cases hs with
    |nil=>
     cases h1;cases h2;obtain⟨z,h3,h4⟩:=zpC h;obtain⟨h5,h6⟩:=zof (R:=R) (e:=e) h4;exact⟨_,z,h3,h5,h6⟩
 ·exact h.elim
theorem zqS{v:SV}{x:CV}{K:SV->Prop}(hv:Rep R e v x)(h:zw0 v K):∃u,zvV m x=.val x/\Rep R e u x/\K u:=by
 unfold zw0 at h;split at h
 ·cases hv with
  |ptr hh=>exact⟨_,rfl,.ptr hh,h⟩
 ·cases hv with
  |eptS hh=>exact⟨_,rfl,.eptS hh,h⟩
  |eptO hh=>exact⟨_,rfl,.eptO hh,h⟩
 ·cases hv with
  |ipt g1 g2 g3 g0 g4=>exact⟨_,rfl,.ipt g1 g2 g3 g0 g4,h⟩
 ·cases hv with
  |fn ha hb=>exact⟨_,rfl,.fn ha hb,h⟩
 ·cases hv;exact⟨_,rfl,.cv rfl,h⟩
 ·exact h.elim
theorem zhX{i:Nat}{v:SV}{x:CV}{K:SV->Prop}(hv:Rep R e v x)(h:zgX i v K):∃u z,zea i m x=.val z/\Rep R e u z/\K u:=by
 unfold zgX at h;split at h
 ·cases hv with
  |tup hv=>
   obtain⟨h1,h2⟩:=zcN h;obtain⟨z,h3,h4⟩:=hv.nth h1;exact⟨_,z,by show(match nth _ i with |some v=>COut.val v |none=>.no "extract")=_;rw[h3],h4,h2⟩
 ·exact h.elim
theorem zlk{ty:TypeId}{v:SV}{x:CV}{K:SV->Prop}(hv:Rep R e v x)(h:zos P ty v K):∃u z,zhh P ty m x=.val z/\Rep R e u z/\K u:=by
 unfold zos at h;split at h
 ·exact h.elim
 ·rename_i d hn hu;refine⟨_,.ifc ty x,?_,.ifc hv,h⟩;unfold zhh;split
  ·rename_i ms hq;rw[hu]at hq;cases hq;exact absurd rfl (hn _)
  ·rfl
  ·rename_i hq;rw[hu]at hq;cases hq
 ·exact h.elim
end
end Go.Cx
namespace Go.Cx
open Go
section
variable{P:Program}{X:Ext}{G:Ctx}{R:RO}{e:DEnv}{m:Mem}{t:Tmps}{K:DK}{T:List SV}{O:List SObj}{c:DCfg}
theorem zbX{v:Option SV}{x:Option CV}{d:Nat}{a:Int}(hv:RepOp R e v x)(h:zir v d=some a)(h0:0<=a):bound x d=some a.toNat:=by
 cases hv with
 |none=>simp[zir]at h;subst h;simp[bound]
 |some hv=>
  unfold zir at h;split at h
  ·rename_i hh;cases hh
  ·rename_i k n hh;cases hh;cases h;cases hv;obtain⟨j,rfl,hj⟩:=za9 h0;rw[hj];rfl
  ·cases h
theorem zaB{v:SV}{x:CV}(hM:MSat G R e O m)(hT:TSat R e T t)(hv:Rep R e v x)(hk:K v T O):Gone G R e t K x m:=⟨R,e,v,T,O,RO.le.refl R,fun _ _ h=>h,hv,hT,hM,hk⟩
theorem zq1{ty elem:TypeId}{inf:TypeInfo}{lo hi:Option CV}{tt off n c a b:Nat}(hu:P.underlying ty=some (.slice elem))(hi':P.info? elem=some inf)(h1:bound lo 0=some a)(h2:bound hi n=some b)(hab:a<=b)(hbc:b<=c):
  zba P m ty (.slc tt off n c) lo hi none=.val (.slc tt (match Nat.beq c a with |true=>off |false=>off+a*inf.size) (b - a) (c - a)):=by
 unfold zba;simp only[hu,hi',zcs,znp,h1,h2,yb1 hab,yb1 hbc,Bool.and_self];rfl
theorem zui{ty elem ty':TypeId}{inf:TypeInfo}{lo hi:Option CV}{tt k n a b:Nat}{cs:List CV}(hu:P.underlying ty=some (.slice elem))(hi':P.info? elem=some inf)(h1:bound lo 0=some a)(h2:bound hi n=some b)(hab:a<=b)(hg:m.get tt=some (.opn ty' inf.size cs))(hl:(k+b)*inf.size<=cs.length)(hp:0<inf.size):
  zba P m ty (.opn tt k n) lo hi none=(match Nat.beq a 0||Nat.blt ((k+a)*inf.size) cs.length with |true=>.val (.opn tt (k+a) (b - a)) |false=>.val (.emp tt k a)):=by
 unfold zba;simp only[hu,hi',zcs,hg,zvb,h1,h2,yb1 hab,yb1 hl,show Nat.beq inf.size inf.size=true from Nat.beq_refl _,ziF hp,Bool.and_self];rfl
theorem zfD{ty elem:TypeId}{inf:TypeInfo}{lo hi:Option CV}{n a b:Nat}{el:Nat->List SV}{x:CV}(hM:MSat G R e O m)(hu:P.underlying ty=some (.slice elem))(hi':P.info? elem=some inf)(hp:0<inf.size)(h1:bound lo 0=some a)(h2:bound hi n=some b)(hab:a<=b)(hbn:b<=n)(hx:Rep R e (.isl inf.size n el) x):
  ∃y,zba P m ty x lo hi none=.val y/\Rep R e (.islx inf.size (b - a) (zlg a el)) y:=by
 cases hx with
 |islN=>
  obtain rfl:b=0:=by omega
  obtain rfl:a=0:=by omega
  refine⟨.nils,?_,.islx .islN⟩;unfold zba;simp only[hu,hi',zcs,zsH,h1,h2]
 | @islV _ _ _ a0=>
  obtain rfl:b=0:=by omega
  obtain rfl:a=0:=by omega
  refine⟨.void a0,?_,.islx .islV⟩;unfold zba;simp only[hu,hi',zcs,zoo,h1,h2]
 | @islS _ _ _ _ tt off c o cs g1 g2 g3 g4 g0 g5=>
  refine⟨_,zq1 hu hi' h1 h2 hab (Nat.le_trans hbn g4),.islx ?_⟩;have hmul:b*inf.size<=n*inf.size:=yd2 _ hbn;have hba:(b - a)*inf.size+a*inf.size=b*inf.size:=by rw[<- Nat.add_mul];congr 1;omega
  split
  ·rename_i hq;rw[zdG]at hq;simp at hq;have h0:b - a=0:=by omega
   rw[h0];exact .islS g1 g2 (by omega) (by omega) g0 fun i hi=>by omega
  ·refine .islS g1 g2 (by omega) (by omega) g0 fun i hi=>?_
   have:=g5 (a+i) (by omega);rw[Nat.add_mul,<- Nat.add_assoc]at this;exact this
 | @islO _ _ _ _ tt k ty' cs g1 g2 g0 g3=>
  have hl:(k+b)*inf.size<=cs.length:=Nat.le_trans (yd2 _ (by omega)) g2;have hs:=zui hu hi' h1 h2 hab (hM.sk.ro _ _ g1) hl hp;cases hb:Nat.beq a 0||Nat.blt ((k+a)*inf.size) cs.length with
  |true=>
   rw[hb]at hs;refine⟨_,hs,?_⟩;refine .islx (.islO g1 ?_ g0 fun i hi=>?_)
   ·rw[show k+a+(b - a)=k+b by omega];exact hl
   ·have:=g3 (a+i) (by omega);rw[show k+a+i=k+(a+i)by omega];exact this
  |false=>
   rw[hb]at hs;refine⟨_,hs,?_⟩;simp only[Bool.or_eq_false_iff]at hb;have h3:¬(k+a)*inf.size<cs.length:=fun hh=>by rw[ziF hh]at hb;cases hb.2
   have h4:b=a:=by
    rcases Nat.lt_or_ge a b with hlt |hge
    ·exfalso;have h5:=yd2 inf.size (show k+a+1<=k+b by omega);rw[Nat.add_mul (k+a),Nat.one_mul]at h5;omega
    ·omega
   rw[h4,Nat.sub_self];exact .islE
theorem zrb{ty:TypeId}{v:SV}{x:CV}{lo hi mx:Option SV}{lo' hi' mx':Option CV}(hM:MSat G R e O m)(hT:TSat R e T t)(hv:Rep R e v x)(hlo:RepOp R e lo lo')(hhi:RepOp R e hi hi')(hmx:RepOp R e mx mx')(h:zrF P ty v lo hi mx T O K):
  ∃z,zba P m ty x lo' hi' mx'=.val z/\Gone G R e t K z m:=by
 unfold zrF at h;split at h
 ·rename_i km;cases hmx with
  |some hmx=>
   cases hmx;split at h
   ·rename_i elem hu;split at h
    ·rename_i inf hi0;split at h
     ·rename_i kb hl0;have hb0:=zbX (d:=0) hlo hl0 (Int.le_refl 0);cases hhi with
      |some hhi=>
       cases hhi;have hcs:∀x,zba P m ty x lo' (some (.int kb (.ofNat 0))) (some (.int km (.ofNat 0)))=zgo inf m lo' 0 0 x:=fun x=>by
        unfold zba;show zfY P m ty x lo' _ _=_;unfold zfY;simp only[hu,hi0]
       rw[hcs];split at h
       ·cases hv;refine⟨.nils,?_,zaB hM hT .empN h⟩;show ziU lo' 0 0=_;unfold ziU;simp only[hb0,Int.toNat,Int.ofNat_eq_natCast]
       ·rename_i sz n el;split at h
        ·rename_i hq;simp only[ya2,zdG,decide_eq_true_eq]at hq;obtain⟨rfl,hsz⟩:=hq;cases hv with
         |islN=>
          refine⟨.nils,?_,zaB hM hT .empN h⟩;show ziU lo' 0 0=_;unfold ziU;simp only[hb0,Int.toNat,Int.ofNat_eq_natCast]
         | @islV _ _ _ a0=>
          refine⟨.void a0,?_,zaB hM hT .empV h⟩;show zkk a0 lo' 0 0=_;unfold zkk;simp only[hb0,Int.toNat,Int.ofNat_eq_natCast]
         | @islS _ _ _ _ tt off c o cs g1 g2 g3 g4 g0 g5=>
          refine⟨.slc tt off 0 0,?_,zaB hM hT (.empS ⟨o,cs,g1,g2,by omega,g0⟩) h⟩;show zog inf lo' tt off c 0 0=_;unfold zog;simp[hb0];rfl
         | @islO _ _ _ _ tt k ty' cs g1 g2 g0 g3=>
          have hk:k*inf.size<=cs.length:=Nat.le_trans (yd2 _ (by omega)) g2;refine⟨.slc tt (k*inf.size) 0 0,?_,zaB hM hT (.empS ⟨_,cs,g1,rfl,hk,g0⟩) h⟩;show zgo inf m lo' 0 0 (.opn tt k n)=_;unfold zgo;simp only[hM.sk.ro _ _ g1];unfold zrW;have hsz':Nat.blt 0 inf.size=true:=hsz;simp[hb0,hsz',yb1 hk]
        ·exact h.elim
       ·exact h.elim
     ·exact h.elim
    ·exact h.elim
   ·exact h.elim
 ·exact h.elim
 ·cases hmx;split at h
  ·rename_i hu;split at h
   ·rename_i s;cases hv;split at h
    ·rename_i a b ha hb;obtain⟨⟨h0,h1,h2⟩,hk⟩:=h;have e1:=zbX (d:=0) hlo ha h0;have e2:=zbX hhi hb (by omega);refine⟨.str (zwO s a b),?_,zaB hM hT (.cv rfl) hk⟩;unfold zba;simp only[hu,zs2,e1,e2];rw[yb1 (by omega),yb1 (by omega)];rfl
    ·exact h.elim
   ·exact h.elim
  ·rename_i elem hu;split at h
   ·rename_i inf hi0;split at h
    ·rename_i hp;have hp':0<inf.size:=ya9 hp;split at h
     ·rename_i sz n el;split at h
      ·rename_i hq;rw[zdG]at hq;simp at hq;subst hq;split at h
       ·rename_i a b ha hb;obtain⟨⟨h0,h1,h2⟩,hk⟩:=h;have e1:=zbX (d:=0) hlo ha h0;have e2:=zbX hhi hb (by omega);obtain⟨y,h3,h4⟩:=zfD hM hu hi0 hp' e1 e2 (by omega) (by omega) hv;exact⟨y,h3,zaB hM hT h4 hk⟩
       ·exact h.elim
      ·exact h.elim
     ·rename_i sz n el;split at h
      ·rename_i hq;rw[zdG]at hq;simp at hq;subst hq;split at h
       ·rename_i a b ha hb;obtain⟨⟨⟨h0,h1,h2⟩,hn⟩,hk⟩:=h;have e1:=zbX (d:=0) hlo ha h0;have e2:=zbX hhi hb (by omega);cases hv with
        |islE=>omega
        |islx hv=>
         obtain⟨y,h3,h4⟩:=zfD hM hu hi0 hp' e1 e2 (by omega) (by omega) hv;exact⟨y,h3,zaB hM hT h4 hk⟩
       ·exact h.elim
      ·exact h.elim
     ·rename_i o;split at h
      ·cases hlo;split at h
       ·rename_i ty' sz n el ho;split at h
        ·rename_i hq;rw[zdG]at hq;simp at hq;subst hq;split at h
         ·rename_i b hb;obtain⟨⟨h0,h1⟩,hk⟩:=h;rw[zft,zav]at hk;have e2:=zbX hhi hb h0;have e1:bound (none:Option CV) 0=some 0:=rfl;obtain⟨z,hz,hor⟩:=hM.list ho;have hxz:x=z:=by cases hv<;>(rename_i hh;rw[hz]at hh;cases hh;rfl)
          subst hxz;have hnp:∀u:PM,x≠PM.c u:=fun u hh=>by cases u<;>(subst hh;cases hv)
          rcases hor with⟨hq,rfl⟩ |⟨tt,cc,xs,rfl,k0,k1,k2,k3,ka,k4⟩ |⟨tt,xs,rfl,k2,k3,ka,k4⟩
          ·have hb0:b.toNat=0:=by omega
           rw[hb0]at e2 hk;have hs:zba P m ty x none hi' none=.val x:=by
            rcases hq with hq |⟨tt,off,o',cs,rfl,_⟩
            ·rcases zdD hq with rfl |⟨a,rfl⟩
             ·unfold zba;simp only[hu,hi0,zcs,zsH,e1,e2]
             ·unfold zba;simp only[hu,hi0,zcs,zoo,e1,e2]
            ·rw[zq1 hu hi0 e1 e2 (Nat.le_refl 0) (Nat.le_refl 0)]
           refine⟨x,hs,zgN hM hT hz hnp Chg.refl' (by simp) (OR.mkE hq) (fun e' h=>h) (fun e' he=>?_) hk⟩;rcases hq with hq |⟨_,_,_,_,rfl,_⟩
           ·rcases zdD hq with rfl |⟨a,rfl⟩
            ·exact .lstN he
            ·exact .lstV he
           ·exact .lstE he
          ·have hbn:b.toNat<=n:=by omega
           refine⟨.slc tt 0 b.toNat cc,?_,zgN hM hT hz hnp ?_ (by simp) (OR.mkS k0 (Nat.le_trans hbn k1) k2 k3 ka fun i hi=>k4 i (by omega)) (fun e' h=>h) (fun e' he=>.lstS he) hk⟩
           ·rw[zq1 hu hi0 e1 e2 (Nat.zero_le _) (Nat.le_trans hbn k1)];rw[zkQ (show cc≠0 by omega)];simp
           ·rw[zcD k0,zcD k0];exact Chg.refl'
          ·have hbn:b.toNat<=n:=by omega
           have hl:(0+b.toNat)*inf.size<=xs.length:=by rw[Nat.zero_add];exact Nat.le_trans (yd2 _ hbn) k3
           refine⟨.opn tt 0 b.toNat,?_,zgN hM hT hz hnp Chg.refl' (by simp) (OR.mkO k2 (by rw[Nat.zero_add]at hl;exact hl) ka fun i hi=>k4 i (by omega)) (fun e' h=>h) (fun e' he=>.lstO he) hk⟩;rw[zui hu hi0 e1 e2 (Nat.zero_le _) k2 hl hp'];rfl
         ·exact h.elim
        ·exact h.elim
       ·exact h.elim
      ·exact h.elim
     ·exact h.elim
    ·exact h.elim
   ·exact h.elim
  ·rename_i n elem hu;split at h
   ·rename_i inf hi0;split at h
    ·rename_i o off;split at h
     ·rename_i b ha hb;obtain⟨⟨rfl,hn⟩,hk⟩:=h;have e1:=zbX (d:=0) hlo ha (Int.le_refl 0);have e2:=zbX hhi hb (by omega);cases hv with
      | @ptr _ _ _ tt hh=>
       refine⟨.slc tt off n n,?_,zaB hM hT (.sub hh) hk⟩;unfold zba;simp only[hu,hi0,ztn,znp,e1,e2];simp[zkQ (show n≠0 by omega)];rw[yb1 (Nat.zero_le n),yb1 (Nat.le_refl n)];rfl
     ·exact h.elim
    ·rename_i cs off;split at h
     ·rename_i b ha hb;obtain⟨⟨rfl,hn,rfl,hl⟩,hk⟩:=h;rw[zat]at hl;have e1:=zbX (d:=0) hlo ha (Int.le_refl 0);have e2:=zbX hhi hb (by omega);cases hv with
      | @ipt _ _ _ tt bb oo xs g1 g2 g3 g0 g4=>
       refine⟨.slc tt (bb+0) n n,?_,zaB hM hT (.islS g1 g2 (by omega) (Nat.le_refl n) g0 fun i hi=>?_) hk⟩
       ·unfold zba;simp only[hu,hi0,ztn,znp,e1,e2];simp[zkQ (show n≠0 by omega)];rw[yb1 (Nat.zero_le n),yb1 (Nat.le_refl n)];rfl
       ·have:=g4.seg (i*inf.size) inf.size;rw[show((seg xs bb cs.length).drop (i*inf.size)).take inf.size=seg (seg xs bb cs.length) (i*inf.size) inf.size from rfl,zdv (by have:=zci (sz:=inf.size) hi;omega)]at this;exact this
     ·exact h.elim
    ·exact h.elim
   ·exact h.elim
  ·exact h.elim
theorem zoU{s:List Nat}:∀{n:Nat} {l:List CV} {el:Nat->List SV},l.length=n*1->s.length=n->(∀i,i<n->RepL R noE (el i) (seg l (i*1) 1))->(∀i,i<n->s.getD i 0<256/\el i=[.cv (.int .u8 ((s.getD i 0:Nat):Int))])->zeq l=some s:=by
 induction s with
 |nil=>
  intro n l el hl hs _ _;simp at hs;subst hs;simp at hl;subst hl;rfl
 |cons b s ih=>
  intro n l el hl hs hr he;cases n with
  |zero=>simp at hs
  |succ n=>
   cases l with
   |nil=>simp at hl
   |cons x l=>
    have h0:=hr 0 (by omega);rw[(he 0 (by omega)).2]at h0;have hx:x=.int .u8 (.ofNat b):=by
     simp only[seg,Nat.zero_mul,List.drop_zero]at h0;cases h0 with
     |cons h1 _=>cases h1;rfl
    subst hx;have:=ih (n:=n) (l:=l) (el:=fun i=>el (i+1)) (by simp at hl ⊢;omega) (by simpa using hs) (fun i hi=>by
     have h1:=hr (i+1) (by omega);simpa[seg]using h1) fun i hi=>by
     have h1:=he (i+1) (by omega);simpa using h1
    unfold zeq;simp only[this]
theorem ztO{s d:TypeId}{v:SV}{x:CV}(hM:MSat G R e O m)(hT:TSat R e T t)(hv:Rep R e v x)(h:zrA P c s d v T O K):∃z m',(za3 P m.nxt m s d x=.mem z m'\/(za3 P m.nxt m s d x=.val z/\m'=m))/\Gone G R e t K z m':=by
 unfold zrA at h;split at h
 ·exact h.elim
 ·rename_i el hs;split at h
  ·rename_i hd;split at h
   ·rename_i he;split at h
    ·rename_i n ee hel;obtain⟨str,⟨h1,h2⟩,hk⟩:=h;obtain⟨l,h3,h4,h5,h6⟩:=zt1 hM hv hel;refine⟨.str str,m,.inr ⟨?_,rfl⟩,zaB hM hT (.cv rfl) hk⟩;rw[zqL hs hd he]
     ·unfold zj3;simp only[h3,zoU h4 h1 h6 h2]
     ·rintro s' rfl;simp[elems]at h3
    ·exact h.elim
   ·exact h.elim
  ·exact h.elim
 ·rename_i sd hn hs;split at h
  ·rename_i k hd;split at h
   ·rename_i k' n;cases hv;have hc:=zn5 (P:=P) (m:=m) (T:=m.nxt) (k':=k') (n:=n) hs hd;rw[zbm]at hc;split at h
    ·exact⟨_,m,.inr ⟨hc,rfl⟩,zaB hM hT (.cv rfl) h⟩
    ·rw[zeC h.1]at hc;exact⟨_,m,.inr ⟨hc,rfl⟩,zaB hM hT (.cv rfl) h.2⟩
   ·exact h.elim
  ·rename_i hd;split at h
   ·cases hv;split at h
    ·exact⟨_,m,.inr ⟨zti hs hd,rfl⟩,zaB hM hT (.cv rfl) h⟩
    ·exact h.elim
   ·rename_i k' n;cases hv;split at h
    ·obtain⟨⟨h0,h1⟩,hk⟩:=h;obtain⟨j,rfl,hj⟩:=za9 h0;rw[hj]at hk;have hjn:j<128:=by have:(j:Int)<128:=h1;omega
     refine⟨.str [j],m,.inr ⟨?_,rfl⟩,zaB hM hT (.cv rfl) hk⟩;unfold za3;rw[hs,hd];simp only[ziF hjn]
    ·exact h.elim
   ·exact h.elim
  ·rename_i el hd;split at h
   ·rename_i he;split at h
    ·split at h
     ·rename_i str;cases hv;obtain⟨h1,hk⟩:=h;rw[zbE]at hk;have hnw:=New.at m (CO.opn el 1 (str.map fun b=>.int .u8 (.ofNat (b%256))));refine⟨_,_,.inl (ziH hs hd he h1),zfd (so:=.list el 1 str.length (zje str)) (x:=.opn m.nxt 0 str.length) hM hT hnw rfl rfl (by simp) (fun e' _=>OR.mkO hnw.self (by simp) (by simp[one]) fun i hi=>?_) (fun e' he=>.lstO he) (fun _ _ _=>trivial) hk⟩;have:seg (str.map fun b=>CV.int .u8 (.ofNat (b%256))) (i*1) 1=[.int .u8 (.ofNat (str.getD i 0%256))]:=by
       unfold seg;rw[Nat.mul_one,List.drop_eq_getElem_cons (by simpa using hi)];simp[ya8,yb5 hi]
      rw[this];exact .cons (.cv rfl) .nil
     ·exact h.elim
    ·exact h.elim
   ·exact h.elim
  ·rename_i hd;split at h
   ·rename_i el;split at h
    ·rename_i o off;split at h
     ·rename_i ty cs ho;split at h
      ·rename_i i hi;split at h
       ·rename_i hb;obtain⟨tt,xs,h1,h2,h3⟩:=hM.cells (zay ho (by simp));cases hv with
        |ptr he=>
         rw[h1]at he;cases he;refine⟨_,m,.inr ⟨?_,rfl⟩,zaB hM hT (.ptr h1) h⟩;unfold za3;simp only[hs,hd];unfold zg4;rw[zat,h3.length]at hb;simp only[hi,h2,hb]
       ·exact h.elim
      ·exact h.elim
     ·exact h.elim
    ·exact h.elim
   ·exact h.elim
  ·rename_i u hd;split at h
   ·split at h
    ·rename_i o off;split at h
     ·rename_i ty cs ho;split at h
      ·rename_i i hi;rw[zmz]at h;obtain⟨hb,h⟩:=h;have hb:=hb.out;obtain⟨tt,xs,h1,h2,h3⟩:=hM.cells (zay ho (by simp));cases hv with
       |ptr he=>
        rw[h1]at he;cases he;refine⟨_,m,.inr ⟨?_,rfl⟩,zaB hM hT (.ptr h1) h⟩;unfold za3;simp only[hs,hd];unfold zdY;rw[zat,h3.length]at hb;simp only[hi,h2,hb]
      ·exact h.elim
     ·exact h.elim
    ·exact h.elim
   ·exact h.elim
  ·exact h.elim
theorem zeZ{v:SV}{x:CV}{K:SV->Prop}{tys:List TypeId}{T0:Nat}(hM:MSat G R e O m)(hv:Rep R e v x)(h:zd7 O v K):∃u z,zcP P T0 tys .unsafeSliceData m [x]=.val z/\Rep R e u z/\K u:=by
 show ∃u z,zco m x=.val z/\Rep R e u z/\K u;unfold zd7 at h;split at h
 ·rename_i o;split at h
  ·rename_i ty sz n el ho;split at h
   ·rename_i hsz;have hsz:0<sz:=by simpa[Nat.blt_eq]using hsz
    obtain⟨hn,hk⟩:=h;rcases hM.ob o _ (zay ho (by simp))with h0 |⟨x',hx',hor⟩
    ·cases h0
    have hox:e o=some x:=by cases hv<;>assumption
    rw[hox]at hx';cases hx';have h00:∀tt:Nat,CV.ptr tt 0=.ptr tt (0*sz+0):=fun tt=>by rw[Nat.zero_mul]
    rcases hor with⟨_,rfl⟩ |⟨tt,c,xs,rfl,hc0,hc,hg,hcl,ha,hes⟩ |⟨tt,xs,rfl,hg,hcl,ha,hes⟩
    ·omega
    ·refine⟨_,.ptr tt 0,?_,?_,hk⟩
     ·obtain⟨c,rfl⟩:∃k,c=k+1:=⟨c - 1,by omega⟩
      rfl
     ·rw[h00];exact .eptS hox
    ·refine⟨_,.ptr tt 0,?_,?_,hk⟩
     ·obtain⟨n,rfl⟩:∃k,n=k+1:=⟨n - 1,by omega⟩
      cases xs with
      |nil=>
       have:0<(n+1)*sz:=Nat.mul_pos (by omega) hsz;simp at hcl;omega
      |cons a b=>
       unfold zco;simp only[hg]
     ·rw[h00];exact .eptO hox
   ·exact h.elim
  ·exact h.elim
 ·exact h.elim
theorem zwE{s:List Nat}{n:Nat}(hl:s.length=n)(h:∀j,j<n->s.getD j 0<256):(s.all fun b=>Nat.blt b 256)=true:=by
 rw[List.all_eq_true];intro b hb;obtain⟨j,hj,rfl⟩:=List.mem_iff_getElem.1 hb;have:=h j (by omega);rw[ya8,yb5 hj]at this;simpa[Nat.blt_eq]using this
theorem zjS{pt it:TypeId}{v w:SV}{x y:CV}{T0:Nat}(hM:MSat G R e O m)(hT:TSat R e T t)(hv:Rep R e v x)(hw:Rep R e w y)(h:zf3 P pt v w T O K):
  ∃z m',zcP P T0 [pt,it] .unsafeString m [x,y]=.mem z m'/\Gone G R e t K z m':=by
 show ∃z m',zcp P m pt x y=.mem z m'/\Gone G R e t K z m';unfold zf3 at h;split at h
 ·rename_i o sz i off;split at h
  ·rename_i k;cases hw;split at h
   ·rename_i el hp;split at h
    ·rename_i ty sz' len ee ho;split at h
     ·rename_i hb;simp only[ya2,zdG,decide_eq_true_eq]at hb;obtain⟨hb1,rfl,rfl,rfl,rfl,rfl⟩:=hb;obtain⟨⟨rfl,h0,hlen⟩,s,⟨hs1,hs2⟩,hk⟩:=h;rw[zft,zav]at hk;rcases hM.ob o _ (zay ho (by simp))with h0' |⟨x',hx',hor⟩
      ·cases h0'
      obtain⟨n,rfl⟩:∃k,len=k+1:=⟨len - 1,by omega⟩
      have hall:=zwE hs1 fun j hj=>(hs2 j hj).1
      have fin:∀(tt:Nat) (ob:CO) (xs:List CV),tg x'=some tt->(∀u:PM,x'≠PM.c u)->m.get tt=some ob->zcl ob=false->zpk m tt (n+1) ty (m.get tt)=.mem (.str s) (m.kill tt)->x=.ptr tt 0 ->
        ∃z m',zcp P m pt x (.int .i64 ((n+1:Nat):Int))=.mem z m'/\Gone G R e t K z m':=by
       intro tt ob xs h1 h2 h3 h4 h5 h6;subst h6;refine⟨.str s,m.kill tt,?_,?_⟩
       ·show(match P.underlying pt with
         |some (.pointer e)=>match Nat.beq (P.cellsOf e) 1&&Nat.ble n 1000000 with
          |true=>zpk m tt (n+1) e (m.get tt)
          |false=>.no _
         |_=>.no _)=_
        rw[hp];have hc:(Nat.beq (P.cellsOf ty) 1&&Nat.ble n 1000000)=true:=by rw[hb1,yb1 (by omega)];rfl
        simp only[hc];exact h5
       ·have hki:=Kill.mk' m tt (fun o' ho'=>by rw[h3]at ho';cases ho';exact h4);have hc:Chg m (tg x') (tg CV.nils) (m.kill tt):=⟨Nat.le_refl _,fun t' q1 q2=>(by rw[hki.get,if_neg (fun hq=>q1 (by rw[h1,hq]))]),fun t' ht=>(by cases ht),fun w=>hki.wf w⟩
        have hms:=hM.chg (y:=.nils) (so:=.list ty 1 0 ee) hx' hc (by simp) (OR.mkE (.inl rfl));have he:∀i z,i≠o->e i=some z->e.put o (some .nils) i=some z:=fun i z hi hz=>by rw[DEnv.put_ne _ _ hi];exact hz
        refine⟨R,_,.cv (.str s),_,_,RO.le.refl R,fun i u hi=>?_,.cv rfl,hT.sb (RO.le.refl R) he (fun _ _=>.junk),hms,hk⟩;by_cases hq:i=o
        ·subst hq;rw[hx']at hi;cases hi;exact absurd rfl (h2 u)
        ·exact he i _ hq hi
      have row:∀{xs:List CV},(n+1)*1<=xs.length->xs.all one=true->(∀i,i<n+1->RepL R noE (ee i) (seg xs (i*1) 1))->zcZ xs 0 (n+1)=some (seg xs 0 (n+1))/\zeq (seg xs 0 (n+1))=some s:=by
       intro xs h1 h2 h3;refine⟨zhk (by omega),?_⟩;exact zoU (n:=n+1) (el:=ee) (by rw[za6 (by omega),Nat.mul_one]) hs1 (fun i hi=>by
        rw[zdv (by omega),Nat.zero_add];exact h3 i hi) hs2
      have h00:∀{tt:Nat},CV.ptr tt (0*1+0)=.ptr tt 0:=rfl;rcases hor with⟨_,hq⟩ |⟨tt,c,xs,rfl,hc0,hc,hg,hcl,ha,hes⟩ |⟨tt,xs,rfl,hg,hcl,ha,hes⟩
      ·omega
      ·have hx:x=.ptr tt 0:=by
        cases hv with
        |eptS he=>rw[hx']at he;cases he;rfl
        |eptO he=>rw[hx']at he;cases he
       obtain⟨q1,q2⟩:=row (xs:=xs) (by omega) ha hes;refine fin tt _ xs (zcD hc0) (fun u=>by cases u<;>simp) hg rfl ?_ hx;rw[hg];unfold zpk;simp only[show Nat.beq ty ty=true from Nat.beq_refl ty,q1,q2,hall]
      ·have hx:x=.ptr tt 0:=by
        cases hv with
        |eptS he=>rw[hx']at he;cases he
        |eptO he=>rw[hx']at he;cases he;rfl
       obtain⟨q1,q2⟩:=row (xs:=xs) (by omega) ha hes;refine fin tt _ xs rfl (fun u=>by cases u<;>simp) hg rfl ?_ hx;rw[hg];unfold zpk;simp only[show Nat.beq ty ty=true from Nat.beq_refl ty,q1,q2,hall]
     ·exact h.elim
    ·exact h.elim
   ·exact h.elim
  ·exact h.elim
 ·exact h.elim
end
end Go.Cx
namespace Go.Cx
open Go
theorem zbw{c:KC}{a b:CV}(ha:c.has a=true)(hb:c.has b=true):zfT a b=true↔nk a=nk b:=by
 cases c with
 |int k=>
  cases a<;>simp only[KC.has,Bool.false_eq_true]at ha;cases b<;>simp only[KC.has,Bool.false_eq_true]at hb;have h1:=za8 ha;have h2:=za8 hb;subst h1;subst h2;simp only[zfT,nk,zb9,beq_iff_eq,Sum.inl.injEq,CV.int.injEq,true_and]
 |str=>
  cases a<;>simp only[KC.has,Bool.false_eq_true]at ha;cases b<;>simp only[KC.has,Bool.false_eq_true]at hb;simp only[zfT,nk,zhc,beq_iff_eq,Sum.inr.injEq]
 |wide ok=>
  cases a<;>simp only[KC.has,Bool.false_eq_true,ya2]at ha;cases b<;>simp only[KC.has,Bool.false_eq_true,ya2]at hb;simp only[zfT,nk,Sum.inl.injEq];constructor
  ·intro h;exact cvEq_eq h
  ·intro h;rw[h];exact hb.2
noncomputable def zk3(P:Program)(kt:TypeId):Option KC:=match zcz P kt with
 |true=>some (.wide (zsC P kt))
 |false=>match P.underlying kt with
  |some (.int k)=>some (.int k)
  |some .string=>some .str
  |_=>none
theorem zuL{P:Program}{kt:TypeId}{c:KC}(h:zk3 P kt=some c){a b:CV}(ha:c.has a=true)(hb:c.has b=true):zuA P kt a b=some (zfT a b):=by
 unfold zk3 at h;unfold zuA;split at h
 ·rename_i hw;cases h;rw[hw];cases a<;>simp only[KC.has,Bool.false_eq_true,ya2]at ha;cases b<;>simp only[KC.has,Bool.false_eq_true,ya2]at hb;simp only[hb.1];rfl
 ·rename_i hw;rw[hw];split at h
  ·rename_i k hu;cases h;cases a<;>simp only[KC.has,Bool.false_eq_true]at ha;cases b<;>simp only[KC.has,Bool.false_eq_true]at hb;have h1:=za8 ha;have h2:=za8 hb;subst h1;subst h2;simp only[ceq,hu,zl2,ha,zfT]
  ·rename_i hu;cases h;cases a<;>simp only[KC.has,Bool.false_eq_true]at ha;cases b<;>simp only[KC.has,Bool.false_eq_true]at hb;simp only[ceq,hu,zlv,zfT]
  ·cases h
theorem zkw{P:Program}{kt:TypeId}{c:KC}(h:zk3 P kt=some c){a:CV}(ha:c.has a=true):zkL P kt a=true:=by
 unfold zk3 at h;unfold zkL;split at h
 ·rename_i hw;cases h;rw[hw];cases a<;>simp only[KC.has,Bool.false_eq_true,ya2]at ha;exact ha.1
 ·rename_i hw;rw[hw];unfold zvS;split at h
  ·rename_i k hu;rw[hu]
  ·rename_i hu;rw[hu]
  ·cases h
theorem zg3{P:Program}{kt:TypeId}{c:KC}(h:zk3 P kt=some c){k:CV}(hk:c.has k=true):∀{es:List (CV×CV×Nat)} (i:Nat),(∀p∈es,c.has p.1=true) ->
  (zcK k es=none->zeY P kt k es i=some none)/\∀b,zcK k es=some b->∃j a s,zeY P kt k es i=some (some (i+j,b,s))/\es[j]? = some (a,b,s)/\zfT k a=true
 |[],i,_=>⟨fun _=>rfl,fun b hb=>by cases hb⟩
 |(a,b,s)::es,i,hes=>by
  have ha:=hes _ (ya5 ..);have ih:=zg3 h hk (es:=es) (i+1) fun p hp=>hes p (ya4 _ hp)
  unfold zcK zeY;rw[zuL h hk ha];cases hq:zfT k a with
  |true=>exact⟨fun hh=>(by cases hh),fun b' hb=>by cases hb;exact⟨0,a,s,rfl,rfl,hq⟩⟩
  |false=>
   refine⟨ih.1,fun b' hb=>?_⟩;obtain⟨j,a',s',h1,h2,h3⟩:=ih.2 b' hb;exact⟨j+1,a',s',by rw[show i+(j+1)=i+1+j by omega];exact h1,h2,h3⟩
noncomputable def zuB(k:CV)(v:SV)(f:CV->Option SV):CV->Option SV:=fun k'=>match zfT k' k with
 |true=>some v
 |false=>f k'
theorem zvH{c:KC}{a b k:CV}(ha:c.has a=true)(hb:c.has b=true)(hk:c.has k=true)(h:nk a=nk b):zfT k a=zfT k b:=by
 have h1:=zbw hk ha;have h2:=zbw hk hb;rw[h]at h1;exact Bool.eq_iff_iff.2 (h1.trans h2.symm)
theorem zlF{c:KC}{k k' a b v:CV}{s:Nat}(hk:c.has k=true)(hk':c.has k'=true)(hq:zfT k a=true):∀{es:List (CV×CV×Nat)} {j:Nat},(∀p∈es,c.has p.1=true)->(es.map fun p=>nk p.1).Nodup->es[j]? = some (a,b,s) ->
  zcK k' (es.set j (k,v,s))=match zfT k' k with |true=>some v |false=>zcK k' es
 |[],j,_,_,h=>by simp at h
 |(a',b',s')::es,0,hes,hn,h=>by
  simp only[List.getElem?_cons_zero,ya0,yc4]at h;obtain⟨rfl,rfl,rfl⟩:=h;have ha:=hes _ (ya5 ..);rw[List.set_cons_zero];unfold zcK;rw[zvH ha hk hk' ((zbw hk ha).1 hq).symm];cases zfT k' k<;>rfl
 |(a',b',s')::es,j+1,hes,hn,h=>by
  rw[yc6]at h;have ha':=hes _ (ya5 ..);have hmem:=List.mem_of_getElem? h;have ha:=hes _ (ya4 _ hmem);simp only[List.map_cons,List.nodup_cons]at hn;have ih:=zlF (v:=v) hk hk' hq (fun p hp=>hes p (ya4 _ hp)) hn.2 h;rw[List.set_cons_succ];unfold zcK;rw[ih];cases h1:zfT k' a' with
  |false=>rfl
  |true=>
   have h2:zfT k' k=false:=by
    cases h3:zfT k' k with
    |false=>rfl
    |true=>
     exfalso;apply hn.1;rw[List.mem_map];refine⟨_,hmem,?_⟩;rw[<- (zbw hk ha).1 hq,<- (zbw hk' hk).1 h3,(zbw hk' ha').1 h1]
   rw[h2]
theorem zkT{c:KC}{k k' v:CV}{s:Nat}(hk:c.has k=true)(hk':c.has k'=true):∀{es:List (CV×CV×Nat)},(∀p∈es,c.has p.1=true)->zcK k es=none ->
  zcK k' (es++[(k,v,s)])=match zfT k' k with |true=>some v |false=>zcK k' es
 |[],_,_=>by
  simp only[List.nil_append,zcK]
  all_goals (cases zfT k' k<;>rfl)
 |(a',b',s')::es,hes,h=>by
  have ha':=hes _ (ya5 ..);unfold zcK at h;split at h
  ·cases h
  ·rename_i hq;have ih:=zkT (v:=v) (s:=s) hk hk' (fun p hp=>hes p (ya4 _ hp)) h;rw[List.cons_append];unfold zcK;rw[ih];cases h1:zfT k' a' with
   |false=>rfl
   |true=>
    have h2:zfT k' k=false:=by
     cases h3:zfT k' k with
     |false=>rfl
     |true=>
      exfalso;have:=(zbw hk ha').2 (by rw[<- (zbw hk' hk).1 h3,(zbw hk' ha').1 h1]);rw[hq]at this;cases this
    rw[h2]
theorem ziW{c:KC}{k:CV}(hk:c.has k=true):∀{es:List (CV×CV×Nat)},(∀p∈es,c.has p.1=true)->zcK k es=none->nk k∉es.map fun p=>nk p.1
 |[],_,_=>by simp
 |(a,b,s)::es,hes,h=>by
  unfold zcK at h;split at h
  ·cases h
  ·rename_i hq;have ih:=ziW hk (fun p hp=>hes p (ya4 _ hp)) h;simp only[List.map_cons,List.mem_cons,not_or];refine⟨fun hh=>?_,ih⟩;have:=(zbw hk (hes _ (ya5 ..))).2 hh;rw[hq]at this;cases this
section
variable{R:RO}{c:KC}{f:CV->Option SV}{st:Option (CV×Nat)}{es:List (CV×CV×Nat)}{clock:Nat}
theorem zkZ{A:Type}{l:List A}{i:Nat}{x:A}(h:l[i]? = some x):l.set i x=l:=by
 apply List.ext_getElem?;intro j;rw[yc8];split
 ·rename_i hq;subst hq;rw[h];simp[(List.getElem?_eq_some_iff.1 h).1]
 ·rfl
theorem MapRep.upd(h:MapRep R c f st es clock){k a b x:CV}{v:SV}{j s:Nat}(hk:c.has k=true)(hj:es[j]? = some (a,b,s))(hq:zfT k a=true)(hv:Rep R noE v x):MapRep R c (zuB k v f) (some (k,s)) (es.set j (k,x,s)) clock:=by
 have hmem:=List.mem_of_getElem? hj;have ha:=h.has _ hmem;refine⟨fun p hp=>?_,fun k' hk'=>?_,?_,?_,fun p hp=>?_,fun k' s' hh=>?_⟩
 ·rcases List.mem_or_eq_of_mem_set hp with h1 |h1
  ·exact h.has p h1
  ·rw[h1];exact hk
 ·rw[zlF hk hk' hq h.has h.ne hj];unfold zuB;cases zfT k' k with
  |true=>exact .inr ⟨x,v,rfl,rfl,hv⟩
  |false=>exact h.get k' hk'
 ·rw[List.map_set,zkZ (by rw[yb9,hj];simp only[yc5];rw[(zbw hk ha).1 hq])];exact h.ne
 ·rw[List.map_set,zkZ (by rw[yb9,hj];rfl)];exact h.stp
 ·rcases List.mem_or_eq_of_mem_set hp with h1 |h1
  ·exact h.lt p h1
  ·rw[h1];exact h.lt (a,b,s) hmem
 ·cases hh;exact⟨hk,x,List.mem_iff_getElem?.2 ⟨j,by rw[yc8,if_pos rfl,if_pos (List.getElem?_eq_some_iff.1 hj).1]⟩⟩
theorem MapRep.add(h:MapRep R c f st es clock){k x:CV}{v:SV}(hk:c.has k=true)(hn:zcK k es=none)(hv:Rep R noE v x):MapRep R c (zuB k v f) (some (k,clock)) (es++[(k,x,clock)]) (clock+1):=by
 refine⟨fun p hp=>?_,fun k' hk'=>?_,?_,?_,fun p hp=>?_,fun k' s' hh=>?_⟩
 ·rcases List.mem_append.1 hp with h1 |h1
  ·exact h.has p h1
  ·rw[List.mem_singleton.1 h1];exact hk
 ·rw[zkT hk hk' h.has hn];unfold zuB;cases zfT k' k with
  |true=>exact .inr ⟨x,v,rfl,rfl,hv⟩
  |false=>exact h.get k' hk'
 ·rw[List.map_append,List.nodup_append];refine⟨h.ne,by simp,fun y hy z hz=>?_⟩;simp only[List.map_cons,List.map_nil,yc7]at hz;subst hz;rintro rfl;exact ziW hk h.has hn hy
 ·rw[List.map_append,List.nodup_append];refine⟨h.stp,by simp,fun y hy z hz=>?_⟩;simp only[List.map_cons,List.map_nil,yc7]at hz;subst hz;rintro rfl;obtain⟨p,hp,hpe⟩:=List.mem_map.1 hy;have:=h.lt p hp;omega
 ·rcases List.mem_append.1 hp with h1 |h1
  ·have:=h.lt p h1;omega
  ·rw[List.mem_singleton.1 h1];exact Nat.lt_succ_self _
 ·cases hh;exact⟨hk,x,by simp⟩
theorem MapRep.forget(h:MapRep R c f st es clock):MapRep R c f none es clock:=⟨h.has,h.get,h.ne,h.stp,h.lt,fun _ _ hh=>(by cases hh)⟩
theorem MapRep.nil:MapRep R c (fun _=>none) none [] 0:=⟨fun _ hp=>(by cases hp),fun k _=>.inl ⟨rfl,rfl⟩,by simp,by simp,fun _ hp=>(by cases hp),fun _ _ hh=>(by cases hh)⟩
theorem zob{s:Nat}:∀{es:List (CV×CV×Nat)} {k b:CV} (n:Nat),(k,b,s)∈es->(es.map fun p=>p.2.2).Nodup->∃j,zmt s es n=some (n+j,k)/\es[j]? = some (k,b,s)
 |[],_,_,_,h,_=>by cases h
 |(a,b',s')::es,k,b,n,h,hn=>by
  simp only[List.map_cons,List.nodup_cons]at hn;unfold zmt;rw[zdG];rcases List.mem_cons.1 h with h1 |h1
  ·cases h1;simp only[decide_true];exact⟨0,rfl,rfl⟩
  ·have hne:s'≠s:=fun hh=>hn.1 (List.mem_map.2 ⟨_,h1,hh.symm⟩)
   simp only[hne,decide_false];obtain⟨j,h2,h3⟩:=zob (n+1) h1 hn.2;exact⟨j+1,by rw[h2,show n+(j+1)=n+1+j by omega],h3⟩
end
def zsR:List SV->(List CV->Prop)->Prop
 |[],k=>k []
 |v::r,k=>match v with
  |.cv x=>fzC x fun x=>zsR r fun l=>k (x::l)
  |_=>False
def zwg(v:SV)(k:CV->Prop):Prop:=match v with
 |.cv x=>fzC x k
 |.agg cs=>zsR cs fun l=>k (.agg l)
 |_=>False
theorem zpb{R:RO}{e:DEnv}:∀{vs:List SV} {xs:List CV} {k:List CV->Prop},RepL R e vs xs->zsR vs k->k xs
 |[],_,_,.nil,h=>h
 |v::vs,_,k,.cons hv hs,h=>by
  unfold zsR at h;split at h
  ·rename_i x;rw[zqW]at h;cases hv;exact zpb (k:=fun l=>k (_::l)) hs h
  ·exact h.elim
theorem zmG{R:RO}{e:DEnv}{v:SV}{x:CV}{k:CV->Prop}(hv:Rep R e v x)(h:zwg v k):k x:=by
 unfold zwg at h;split at h
 ·rw[zqW]at h;cases hv;exact h
 ·cases hv with
  |agg hs=>exact zpb (k:=fun l=>k (.agg l)) hs h
 ·exact h.elim
noncomputable def zwy(P:Program)(kt:TypeId)(c:KC)(K:Prop):Prop:=match zcz P kt with
 |true=>match c with
  |.wide ok=>ok=zsC P kt/\K
  |_=>False
 |false=>match P.underlying kt with
  |some (.int k)=>match c with
   |.int k'=>match kEq k k' with
    |true=>K
    |false=>False
   |_=>False
  |some .string=>match c with
   |.str=>K
   |_=>False
  |_=>False
theorem zmO{P:Program}{kt:TypeId}{c:KC}{K:Prop}(h:zwy P kt c K):zk3 P kt=some c/\K:=by
 unfold zwy at h;unfold zk3;split at h
 ·rename_i hw;try rw[hw]
  split at h
  ·exact⟨by rw[h.1],h.2⟩
  ·exact h.elim
 ·rename_i hw;try rw[hw]
  split at h
  ·rename_i k hu;split at h
   ·split at h
    ·rename_i hk;exact⟨by rw[za8 hk],h⟩
    ·exact h.elim
   ·exact h.elim
  ·rename_i hu;split at h
   ·exact⟨rfl,h⟩
   ·exact h.elim
  ·exact h.elim
noncomputable def zv7(c:KC)(k:CV)(K:Prop):Prop:=match c with
 |.int q=>match k with
  |.int q' _=>match kEq q q' with
   |true=>K
   |false=>False
  |_=>False
 |.str=>match k with
  |.str _=>K
  |_=>False
 |.wide ok=>match k with
  |.agg cs=>(ok (.agg cs)&&cvEq (.agg cs) (.agg cs))=true/\K
  |_=>False
theorem zm5{c:KC}{k:CV}{K:Prop}(h:zv7 c k K):c.has k=true/\K:=by
 unfold zv7 at h;unfold KC.has;split at h
 ·split at h
  ·split at h
   ·rename_i hq;exact⟨hq,h⟩
   ·exact h.elim
  ·exact h.elim
 ·split at h
  ·exact⟨rfl,h⟩
  ·exact h.elim
 ·split at h
  ·exact h
  ·exact h.elim
def zxx(f:CV->Option SV)(k:CV):Bool:=match f k with
 |some (.cv (.bool b))=>b
 |_=>false
def zxw(f:CV->Option SV)(k:CV):Int:=match f k with
 |some (.cv (.int _ n))=>n
 |_=>0
def zxr(f:CV->Option SV)(k:CV):List Nat:=match f k with
 |some (.cv (.str s))=>s
 |_=>[]
def zfz(f:CV->Option SV)(k:CV):Bool:=(f k).isSome
def zx8(f:CV->Option SV)(k:CV):Prop:=∀v,f k=some v->∃b,v=.cv (.bool b)
def zye(q:IntKind)(f:CV->Option SV)(k:CV):Prop:=∀v,f k=some v->∃n,v=.cv (.int q n)
def zyd(f:CV->Option SV)(k:CV):Prop:=∀v,f k=some v->∃s,v=.cv (.str s)
noncomputable def zoR(P:Program)(et:TypeId)(f:CV->Option SV)(k:CV)(K:SV->Bool->Prop):Prop:=match zhZ P et with
 |some z=>match P.underlying et with
  |some .bool=>match z with
   |.bool b=>match b with
    |false=>zx8 f k/\K (.cv (.bool (zxx f k))) (zfz f k)
    |true=>False
   |_=>False
  |some (.int q)=>match z with
   |.int q' n=>match kEq q q'&&ieq n 0 with
    |true=>zye q f k/\K (.cv (.int q (zxw f k))) (zfz f k)
    |false=>False
   |_=>False
  |some .string=>match z with
   |.str s=>match s with
    |[]=>zyd f k/\K (.cv (.str (zxr f k))) (zfz f k)
    |_=>False
   |_=>False
  |_=>∃(b:Bool) (v:SV),f k=(bif b then some v else none)/\zhz b (knK v fun v=>K v true) (knK (zrG z) fun v=>K v false)
 |none=>False
theorem zqJ{b:Bool}{A B:Prop}(h:zhz b A B):(b=true/\A)\/(b=false/\B):=by
 cases b with
 |true=>exact .inl ⟨rfl,h⟩
 |false=>exact .inr ⟨rfl,h⟩
section
variable{P:Program}{X:Ext}{G:Ctx}{R:RO}{e:DEnv}{m:Mem}{t:Tmps}{K:DK}{T:List SV}{O:List SObj}
theorem MSat.mapo(h:MSat G R e O m){o:Nat}{c:KC}{f:CV->Option SV}{st:Option (CV×Nat)}(ho:zbt O o=.map c f st):∃t es clock,e o=some (.map t)/\m.get t=some (.map es clock)/\MapRep R c f st es clock:=by
 rcases h.ob o _ (zay ho (by simp))with h1 |⟨x,h1,t,es,clock,rfl,h2,h3⟩
 ·cases h1
 ·exact⟨t,es,clock,h1,h2,h3⟩
theorem zk8{c:KC}{f:CV->Option SV}{st:Option (CV×Nat)}{es:List (CV×CV×Nat)}{clock:Nat}{et:TypeId}{k:CV}{K:SV->Bool->Prop}(h:MapRep R c f st es clock)(hk:c.has k=true)(hK:zoR P et f k K):
  ∃z,zhZ P et=some z/\((zcK k es=none/\∃v,Rep R noE v z/\K v false)\/∃b v,zcK k es=some b/\Rep R noE v b/\K v true):=by
 unfold zoR at hK;split at hK
 ·rename_i z hz;refine⟨z,hz,?_⟩;have hg:=h.get k hk;split at hK
  ·split at hK
   ·split at hK
    ·obtain⟨ha,hK⟩:=hK;rcases hg with⟨h1,h2⟩ |⟨b,v,h1,h2,h3⟩
     ·refine .inl ⟨h1,_,.cv rfl,?_⟩;simpa only[zxx,zfz,h2,Option.isSome_none]using hK
     ·obtain⟨bb,rfl⟩:=ha v h2;refine .inr ⟨b,_,h1,h3,?_⟩;simpa only[zxx,zfz,h2,Option.isSome_some]using hK
    ·exact hK.elim
   ·exact hK.elim
  ·rename_i q hu;split at hK
   ·split at hK
    ·rename_i q' n hb;simp only[ya2,zb9,beq_iff_eq]at hb;obtain⟨hb1,rfl⟩:=hb;have:=za8 hb1;subst this;obtain⟨ha,hK⟩:=hK;rcases hg with⟨h1,h2⟩ |⟨b,v,h1,h2,h3⟩
     ·refine .inl ⟨h1,.cv (.int q 0),.cv rfl,?_⟩;simpa only[zxw,zfz,h2,Option.isSome_none]using hK
     ·obtain⟨bb,rfl⟩:=ha v h2;refine .inr ⟨b,_,h1,h3,?_⟩;simpa only[zxw,zfz,h2,Option.isSome_some]using hK
    ·exact hK.elim
   ·exact hK.elim
  ·split at hK
   ·split at hK
    ·obtain⟨ha,hK⟩:=hK;rcases hg with⟨h1,h2⟩ |⟨b,v,h1,h2,h3⟩
     ·refine .inl ⟨h1,.cv (.str []),.cv rfl,?_⟩;simpa only[zxr,zfz,h2,Option.isSome_none]using hK
     ·obtain⟨bb,rfl⟩:=ha v h2;refine .inr ⟨b,_,h1,h3,?_⟩;simpa only[zxr,zfz,h2,Option.isSome_some]using hK
    ·exact hK.elim
   ·exact hK.elim
  ·obtain⟨b,v,hf,hK⟩:=hK;rcases zqJ hK with⟨rfl,hK⟩ |⟨rfl,hK⟩
   ·rcases hg with⟨h1,h2⟩ |⟨y,w,h1,h2,h3⟩
    ·rw[h2]at hf;cases hf
    ·rw[h2]at hf;cases hf;exact .inr ⟨y,_,h1,h3,(zcN hK).2⟩
   ·rcases hg with⟨h1,h2⟩ |⟨y,w,h1,h2,h3⟩
    ·exact .inl ⟨h1,_,zdB z,(zcN hK).2⟩
    ·rw[h2]at hf;cases hf
 ·exact hK.elim
noncomputable def zfs(P:Program)(ty:TypeId)(r:Option Operand)(T:List SV)(O:List SObj)(K:DK):Prop:=match r with
 |some _=>False
 |none=>match P.underlying ty with
  |some (.map kt _)=>match zk3 P kt with
   |some c=>zpi O (.map c (fun _=>none) none) fun o O=>K (.map o) T O
   |none=>False
  |_=>False
theorem zmF{ty:TypeId}{r:Option Operand}(hM:MSat G R e O m)(hT:TSat R e T t)(h:zfs P ty r T O K):∃y m',zgy m.nxt r m t=.mem y m'/\Gone G R e t K y m':=by
 unfold zfs at h;split at h
 ·exact h.elim
 ·split at h
  ·split at h
   ·rename_i c hc;rw[zbE]at h;have hn:=New.at m (.map [] 0);exact⟨_,_,rfl,zfd (so:=.map c (fun _=>none) none) hM hT hn (x:=.map m.nxt) rfl rfl (by simp) (fun e' _=>⟨m.nxt,[],0,rfl,hn.self,MapRep.nil⟩) (fun e' he=>.map he) (fun _ _ _=>trivial) h⟩
   ·exact h.elim
  ·exact h.elim
noncomputable def zjA(P:Program)(ty:TypeId)(O:List SObj)(x k:SV)(ok:Bool)(K:SV->Prop):Prop:=match P.underlying ty with
 |some (.map kt et)=>zwg k fun k=>match x with
  |.map o=>match zbt O o with
   |.map c f st=>zwy P kt c (zv7 c k (zoR P et f k fun v b=>match ok with
    |true=>K (.tup [v,.cv (.bool b)])
    |false=>K v))
   |_=>False
  |_=>False
 |_=>False
theorem ziV{ty:TypeId}{x k:SV}{xv kv:CV}{ok:Bool}{K:SV->Prop}(hM:MSat G R e O m)(hx:Rep R e x xv)(hk:Rep R e k kv)(h:zjA P ty O x k ok K):∃v y,zbC P m ty xv kv ok=.val y/\Rep R e v y/\K v:=by
 unfold zjA at h;split at h
 ·rename_i kt et hu;have h:=zmG hk h;split at h
  ·rename_i o;split at h
   ·rename_i c f st ho;obtain⟨hc,h⟩:=zmO h;obtain⟨hh,h⟩:=zm5 h;obtain⟨tt,es,clock,h1,h2,h3⟩:=hM.mapo ho;cases hx with
    |map h4=>
     rw[h1]at h4;cases h4;have hf:=zg3 (k:=kv) hc hh (es:=es) 0 h3.has;have hes:zm0 m (.map tt)=some es:=by unfold zm0;simp only[h2]
     have up:∀{v:SV} {y:CV},Rep R noE v y->Rep R e v y:=fun h=>h.mono (RO.le.refl R) fun _ _ hh=>(by cases hh)
     obtain⟨z,hz,hcase⟩:=zk8 h3 hh h;unfold zbC;simp only[hu,zkw hc hh,hz,hes];rcases hcase with⟨g1,v,g2,g3⟩ |⟨b,v,g1,g2,g3⟩
     ·rw[hf.1 g1];cases ok with
      |true=>exact⟨_,_,rfl,.tup (.cons (up g2) (.cons (.cv rfl) .nil)),g3⟩
      |false=>exact⟨_,_,rfl,up g2,g3⟩
     ·obtain⟨j,a,s,g4,_,_⟩:=hf.2 b g1;rw[g4];cases ok with
      |true=>exact⟨_,_,rfl,.tup (.cons (up g2) (.cons (.cv rfl) .nil)),g3⟩
      |false=>exact⟨_,_,rfl,up g2,g3⟩
   ·exact h.elim
  ·exact h.elim
 ·exact h.elim
theorem zfn{o tt:Nat}{c:KC}{f':CV->Option SV}{st':Option (CV×Nat)}{es es':List (CV×CV×Nat)}{clock clock':Nat}{v:SV}{x:CV}(hM:MSat G R e O m)(hT:TSat R e T t)(h1:e o=some (.map tt))(h2:m.get tt=some (.map es clock))(h3:MapRep R c f' st' es' clock')(hv:Rep R e v x)(hk:K v T (O.set o (.map c f' st'))):Gone G R e t K x (m.put tt (.map es' clock')):=by
 have hput:=Put.mk' m tt (.map es' clock') (fun o' ho'=>by rw[h2]at ho';cases ho';rfl);exact⟨R,e,v,T,_,RO.le.refl R,fun _ _ h=>h,hv,hT,hM.putL (so:=.map c f' st') h1 rfl hput (by simp) ⟨tt,es',clock',rfl,hput.self,h3⟩,hk⟩
noncomputable def zdX(P:Program)(ty:TypeId)(x k v:SV)(T:List SV)(O:List SObj)(K:DK):Prop:=match P.underlying ty with
 |some (.map kt _)=>zwg k fun k=>zmp 9 [x,v] T O fun l T O=>match l with
  |[x,v]=>match x with
   |.map o=>match zbt O o with
    |.map c f st=>zwy P kt c (zv7 c k (match zeg zah v with
     |true=>zcI O o (.map c (zuB k v f) none) fun O=>K (.tup []) T O
     |false=>False))
    |_=>False
   |_=>False
  |_=>False
 |_=>False
theorem zfC{ty:TypeId}{x k v:SV}{xv kv vv:CV}(hM:MSat G R e O m)(hT:TSat R e T t)(hx:Rep R e x xv)(hk:Rep R e k kv)(hv:Rep R e v vv)(h:zdX P ty x k v T O K):∃m',zaM P m ty xv kv vv=.mem zam m'/\Gone G R e t K zam m':=by
 unfold zdX at h;split at h
 ·rename_i kt et hu;have h:=zmG hk h;obtain⟨R1,e1,l,T1,O1,q1,q2,q3,q4,q5,h⟩:=zcf 9 (RepL.cons hx (RepL.cons hv .nil)) hT hM h;split at h
  ·rename_i x1 v1;cases q3 with
   |cons hx1 hs=>cases hs with
    |cons hv1 _=>
     split at h
     ·rename_i o;split at h
      ·rename_i c f st ho;obtain⟨hc,h⟩:=zmO h;obtain⟨hh,h⟩:=zm5 h;split at h
       ·rename_i him;rw[zav]at h;obtain⟨tt,es,clock,h1,h2,h3⟩:=q5.mapo ho;cases hx1 with
        |map h4=>
         rw[h1]at h4;cases h4;have hf:=zg3 (k:=kv) hc hh (es:=es) 0 h3.has;have hvi:=hv1.imm zah him;unfold zaM;simp only[hu,zkw hc hh,h2];cases hfk:zcK kv es with
         |none=>
          rw[hf.1 hfk];exact⟨_,rfl,zfp q1 q2 (zfn q5 q4 h1 h2 (h3.add hh hfk hvi).forget (.tup .nil) h)⟩
         |some b=>
          obtain⟨j,a,s,g4,g5,g6⟩:=hf.2 b hfk;rw[g4,Nat.zero_add];exact⟨_,rfl,zfp q1 q2 (zfn q5 q4 h1 h2 (h3.upd hh g5 g6 hvi).forget (.tup .nil) h)⟩
       ·exact h.elim
      ·exact h.elim
     ·exact h.elim
  ·exact h.elim
 ·exact h.elim
noncomputable def zhB(P:Program)(ty:TypeId)(x k:SV)(T:List SV)(O:List SObj)(K:DK):Prop:=match P.underlying ty with
 |some (.map kt et)=>zwg k fun k=>match x with
  |.map o=>match zbt O o with
   |.map c f st=>zwy P kt c (zv7 c k (zoR P et f k fun v _=>∀s:Nat,zcI O o (.map c (zuB k v f) (some (k,s))) fun O=>K (.tup [v,.cv (.int .i64 (.ofNat s))]) T O))
   |_=>False
  |_=>False
 |_=>False
theorem zla{ty:TypeId}{x k:SV}{xv kv:CV}(hM:MSat G R e O m)(hT:TSat R e T t)(hx:Rep R e x xv)(hk:Rep R e k kv)(h:zhB P ty x k T O K):∃y m',zb7 P m ty xv kv=.mem y m'/\Gone G R e t K y m':=by
 unfold zhB at h;split at h
 ·rename_i kt et hu;have h:=zmG hk h;split at h
  ·rename_i o;split at h
   ·rename_i c f st ho;obtain⟨hc,h⟩:=zmO h;obtain⟨hh,h⟩:=zm5 h;obtain⟨tt,es,clock,h1,h2,h3⟩:=hM.mapo ho;cases hx with
    |map h4=>
     rw[h1]at h4;cases h4;have hf:=zg3 (k:=kv) hc hh (es:=es) 0 h3.has;have up:∀{v:SV} {y:CV},Rep R noE v y->Rep R e v y:=fun h=>h.mono (RO.le.refl R) fun _ _ hh=>(by cases hh)
     obtain⟨z,hz,hcase⟩:=zk8 h3 hh h;unfold zb7;simp only[hu,zkw hc hh,h2,hz];rcases hcase with⟨g1,v,g2,g3⟩ |⟨b,v,g1,g2,g3⟩
     ·rw[hf.1 g1];have g4:=g3 clock;rw[zav]at g4;exact⟨_,_,rfl,zfn hM hT h1 h2 (h3.add hh g1 g2) (.tup (.cons (up g2) (.cons (.cv rfl) .nil))) g4⟩
     ·obtain⟨j,a,s,g5,g6,g7⟩:=hf.2 b g1;rw[g5,Nat.zero_add];have g4:=g3 s;rw[zav]at g4;exact⟨_,_,rfl,zfn hM hT h1 h2 (h3.upd hh g6 g7 g2) (.tup (.cons (up g2) (.cons (.cv rfl) .nil))) g4⟩
   ·exact h.elim
  ·exact h.elim
 ·exact h.elim
noncomputable def zeR(x s v:SV)(T:List SV)(O:List SObj)(K:DK):Prop:=zmp 9 [x,v] T O fun l T O=>match l with
 |[x,v]=>match x with
  |.map o=>match zbt O o with
   |.map c f st=>match st with
    |some (k,s')=>match s with
     |.cv (.int _ n)=>(n=.ofNat s')/\(match zeg zah v with
      |true=>zcI O o (.map c (zuB k v f) (some (k,s'))) fun O=>K (.tup []) T O
      |false=>False)
     |_=>False
    |none=>False
   |_=>False
  |_=>False
 |_=>False
theorem zio{x s v:SV}{xv sv vv:CV}(hM:MSat G R e O m)(hT:TSat R e T t)(hx:Rep R e x xv)(hs:Rep R e s sv)(hv:Rep R e v vv)(h:zeR x s v T O K):∃m',zbc m xv sv vv=.mem zam m'/\Gone G R e t K zam m':=by
 unfold zeR at h;obtain⟨R1,e1,l,T1,O1,q1,q2,q3,q4,q5,h⟩:=zcf 9 (RepL.cons hx (RepL.cons hv .nil)) hT hM h;split at h
 ·rename_i x1 v1;cases q3 with
  |cons hx1 hss=>cases hss with
   |cons hv1 _=>
    split at h
    ·rename_i o;split at h
     ·rename_i c f st ho;split at h
      ·rename_i k s';split at h
       ·rename_i q n;obtain⟨rfl,h⟩:=h;split at h
        ·rename_i him;rw[zav]at h;cases hs;obtain⟨tt,es,clock,h1,h2,h3⟩:=q5.mapo ho;cases hx1 with
         |map h4=>
          rw[h1]at h4;cases h4;have hvi:=hv1.imm zah him;obtain⟨hh,b,hb⟩:=h3.last k s' rfl;obtain⟨j,g1,g2⟩:=zob 0 hb h3.stp;unfold zbc;simp only[h2,g1,Nat.zero_add];exact⟨_,rfl,zfp q1 q2 (zfn q5 q4 h1 h2 (h3.upd hh g2 ((zbw hh hh).2 rfl) hvi) (.tup .nil) h)⟩
        ·exact h.elim
       ·exact h.elim
      ·exact h.elim
     ·exact h.elim
    ·exact h.elim
 ·exact h.elim
end
end Go.Cx
