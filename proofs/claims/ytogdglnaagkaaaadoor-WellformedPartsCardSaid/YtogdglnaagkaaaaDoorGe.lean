import Derived.Test.YtogdglnaagkaaaaDoorGd
set_option linter.unusedSimpArgs false
set_option linter.unusedVariables false
namespace Go.Cx
open Go
inductive SV where
 |junk
 |cv (x:CV)
 |agg (cs:List SV)
 |tup (vs:List SV)
 |ptr (o off:Nat)
 |ept (o sz i off:Nat)
 |lst (o:Nat)
 |sub (o off n c:Nat)
 |isl (sz n:Nat) (el:Nat->List SV)
 |islx (sz n:Nat) (el:Nat->List SV)
 |ipt (cs:List SV) (off:Nat)
 |emp
 |fn (f:FuncId) (a b:List SV)
 |map (o:Nat)
 |ifc (ty:TypeId) (v:SV)
 deriving Inhabited
inductive PM where
 |p (t:Nat)
 |m (t:Nat)
@[reducible] def PM.c:PM->CV
 |.p t=>.ptr t 0
 |.m t=>.map t
def zu4:CV->Bool
 |.nils=>true
 |.void _=>true
 |_=>false
abbrev DEnv:=Nat->Option CV
def noE:DEnv:=fun _=>none
def tg:CV->Option Nat
 |.ptr t _=>some t
 |.slc t _ _ c=>match c with
  |0=>none
  |_+1=>some t
 |.opn t _ _=>some t
 |.map t=>some t
 |_=>none
theorem zs5{x:CV}(h:zu4 x=true):tg x=none:=by cases x<;>simp[zu4]at h<;>rfl
theorem zd4{x:CV}(h:zu4 x=true):x=.nils\/∃a,x=.void a:=by cases x<;>simp[zu4]at h<;>simp
theorem zcV{t off n c:Nat}(h:0<c):tg (.slc t off n c)=some t:=by
 cases c with
 |zero=>omega
 |succ c=>rfl
theorem zfx{t u off n c:Nat}(h:tg (.slc t off n c)=some u):u=t/\0<c:=by
 cases c with
 |zero=>cases h
 |succ c=>cases h;exact⟨rfl,Nat.succ_pos _⟩
def zn9:CV->Bool
 |.bool _=>true
 |.int _ _=>true
 |.str _=>true
 |.nilp=>true
 |.nils=>true
 |.nilf=>true
 |.nilm=>true
 |.nili=>true
 |.yld _=>true
 |_=>false
def zkM:CO->Option (List CV)
 |.cells _ cs=>some cs
 |.opn _ _ cs=>some cs
 |.ro cs=>some cs
 |_=>none
theorem zg8{m:Mem}{t:Nat}{o:CO}{cs:List CV}(h:m.get t=some o)(hr:zkM o=some cs):zek m t=some cs:=by
 unfold zek;rw[h];cases o<;>simp[zkM]at hr ⊢ <;> exact hr
inductive KC where
 |int (k:IntKind)
 |str
 |wide (ok:CV->Bool)
noncomputable def KC.has:KC->CV->Bool
 |.int k,.int k' _=>kEq k k'
 |.str,.str _=>true
 |.wide ok,.agg cs=>ok (.agg cs)&&cvEq (.agg cs) (.agg cs)
 |_,_=>false
noncomputable def zg0:CV->CV->Bool
 |.int _ a,.int _ b=>ieq a b
 |.str a,.str b=>zbE a b
 |a,b=>cvEq a b
def nk:CV->CV ⊕ List UInt8
 |.str a=>.inr (a.map UInt8.ofNat)
 |x=>.inl x
noncomputable def zc8(k:CV):List (CV×CV×Nat)->Option CV
 |[]=>none
 |(a,b,_)::es=>match zg0 k a with
  |true=>some b
  |false=>zc8 k es
def seg(cs:List CV)(off n:Nat):List CV:=(cs.drop off).take n
mutual
inductive Rep (R:RO):DEnv->SV->CV->Prop
 |junk {e x}:Rep R e .junk x
 |cv {e x}:zn9 x=true->Rep R e (.cv x) x
 |agg {e cs xs}:RepL R e cs xs->Rep R e (.agg cs) (.agg xs)
 |tup {e cs xs}:RepL R e cs xs->Rep R e (.tup cs) (.tup xs)
 |ptr {e o off t}:e o=some (.ptr t 0)->Rep R e (.ptr o off) (.ptr t off)
 |eptS {e o sz i off t n c}:e o=some (.slc t 0 n c)->Rep R e (.ept o sz i off) (.ptr t (i*sz+off))
 |eptO {e o sz i off t n}:e o=some (.opn t 0 n)->Rep R e (.ept o sz i off) (.ptr t (i*sz+off))
 |lstN {e o}:e o=some .nils->Rep R e (.lst o) .nils
 |lstV {e o a}:e o=some (.void a)->Rep R e (.lst o) (.void a)
 |lstS {e o t n c}:e o=some (.slc t 0 n c)->Rep R e (.lst o) (.slc t 0 n c)
 |lstE {e o t off}:e o=some (.slc t off 0 0)->Rep R e (.lst o) (.slc t off 0 0)
 |lstO {e o t n}:e o=some (.opn t 0 n)->Rep R e (.lst o) (.opn t 0 n)
 |sub {e o off n c t}:e o=some (.ptr t 0)->Rep R e (.sub o off n c) (.slc t off n c)
 |islN {e sz el}:Rep R e (.isl sz 0 el) .nils
 |islV {e sz el a}:Rep R e (.isl sz 0 el) (.void a)
 |islE {e sz el t k a}:Rep R e (.islx sz 0 el) (.emp t k a)
 |islx {e sz n el x}:Rep R e (.isl sz n el) x->Rep R e (.islx sz n el) x
 |islS {e sz n el t off c o cs}:R t=some o->zkM o=some cs->off+n*sz<=cs.length->n<=c->cs.all one=true->(∀i,i<n->RepL R noE (el i) (seg cs (off+i*sz) sz))->Rep R e (.isl sz n el) (.slc t off n c)
 |islO {e sz n el t k ty cs}:R t=some (.opn ty sz cs)->(k+n)*sz<=cs.length->cs.all one=true->(∀i,i<n->RepL R noE (el i) (seg cs ((k+i)*sz) sz))->Rep R e (.isl sz n el) (.opn t k n)
 |ipt {e cs off t b o xs}:R t=some o->zkM o=some xs->b+cs.length<=xs.length->xs.all one=true->RepL R noE cs (seg xs b cs.length)->Rep R e (.ipt cs off) (.ptr t (b+off))
 |empN {e}:Rep R e .emp .nils
 |empV {e a}:Rep R e .emp (.void a)
 |empS {e t off}:(∃o cs,R t=some o/\zkM o=some cs/\off<=cs.length/\cs.all one=true)->Rep R e .emp (.slc t off 0 0)
 |fn {e f a b x y}:RepL R e a x->RepL R e b y->Rep R e (.fn f a b) (.fn f x y)
 |map {e o t}:e o=some (.map t)->Rep R e (.map o) (.map t)
 |ifc {e ty v x}:Rep R e v x->Rep R e (.ifc ty v) (.ifc ty x)
inductive RepL (R:RO):DEnv->List SV->List CV->Prop
 |nil {e}:RepL R e [] []
 |cons {e v x vs xs}:Rep R e v x->RepL R e vs xs->RepL R e (v::vs) (x::xs)
end
def DEnv.le(e e':DEnv):Prop:=∀o x,e o=some x->e' o=some x
theorem DEnv.le.refl(e:DEnv):DEnv.le e e:=fun _ _ h=>h
theorem DEnv.le.trans{a b c:DEnv}(h:DEnv.le a b)(k:DEnv.le b c):DEnv.le a c:=fun o x hx=>k o x (h o x hx)
section
variable{R R':RO}
theorem Rep.mono(hR:R.le R'){e:DEnv}{v:SV}{x:CV}(h:Rep R e v x):∀{e':DEnv},e.le e'->Rep R' e' v x:=by
 induction h using Rep.rec (motive_2:=fun e vs xs _=>∀{e':DEnv},e.le e'->RepL R' e' vs xs) with
 |junk=>intro e' he;exact .junk
 |cv h=>intro e' he;exact .cv h
 |agg h ih=>intro e' he;exact .agg (ih he)
 |tup h ih=>intro e' he;exact .tup (ih he)
 |ptr h=>intro e' he;exact .ptr (he _ _ h)
 |eptS h=>intro e' he;exact .eptS (he _ _ h)
 |eptO h=>intro e' he;exact .eptO (he _ _ h)
 |lstN h=>intro e' he;exact .lstN (he _ _ h)
 |lstV h=>intro e' he;exact .lstV (he _ _ h)
 |lstS h=>intro e' he;exact .lstS (he _ _ h)
 |lstE h=>intro e' he;exact .lstE (he _ _ h)
 |lstO h=>intro e' he;exact .lstO (he _ _ h)
 |sub h=>intro e' he;exact .sub (he _ _ h)
 |islN=>intro e' he;exact .islN
 |islV=>intro e' he;exact .islV
 |islE=>intro e' he;exact .islE
 |islS h1 h2 h3 h4 h0 h5 ih=>intro e' he;exact .islS (hR _ _ h1) h2 h3 h4 h0 fun i hi=>ih i hi (DEnv.le.refl _)
 |islO h1 h2 h0 h3 ih=>intro e' he;exact .islO (hR _ _ h1) h2 h0 fun i hi=>ih i hi (DEnv.le.refl _)
 |islx h ih=>intro e' he;exact .islx (ih he)
 |ipt h1 h2 h3 h0 h4 ih=>intro e' he;exact .ipt (hR _ _ h1) h2 h3 h0 (ih (DEnv.le.refl _))
 |empN=>intro e' he;exact .empN
 |empV=>intro e' he;exact .empV
 |empS h=>intro e' he;obtain⟨o,cs,h1,h2,h3⟩:=h;exact .empS ⟨o,cs,hR _ _ h1,h2,h3⟩
 |fn ha hb iha ihb=>intro e' he;exact .fn (iha he) (ihb he)
 |map h=>intro e' he;exact .map (he _ _ h)
 |ifc h ih=>intro e' he;exact .ifc (ih he)
 |nil=>exact .nil
 |cons h hs ih ihs=>rename_i e'' he;exact .cons (ih he) (ihs he)
theorem RepL.mono(hR:R.le R'):∀{vs:List SV} {xs:List CV} {e e':DEnv},RepL R e vs xs->e.le e'->RepL R' e' vs xs
 |_,_,_,_,.nil,_=>.nil
 |_,_,_,_,.cons h hs,he=>.cons (h.mono hR he) (RepL.mono hR hs he)
end
section
variable{R:RO}{e:DEnv}
theorem RepL.length:∀{vs:List SV} {xs:List CV},RepL R e vs xs->vs.length=xs.length
 |_,_,.nil=>rfl
 |_,_,.cons _ h=>by simp[RepL.length h]
theorem RepL.get:∀{vs:List SV} {xs:List CV} {i:Nat} {v:SV},RepL R e vs xs->vs[i]? = some v->∃x,xs[i]? = some x/\Rep R e v x
 |_,_,_,_,.nil,h=>by simp at h
 |_,_,0,v,.cons hv _,h=>by simp at h;subst h;exact⟨_,rfl,hv⟩
 |_,_,i+1,v,.cons _ hs,h=>by simp at h;simpa using RepL.get hs h
theorem RepL.append:∀{vs ws:List SV} {xs ys:List CV},RepL R e vs xs->RepL R e ws ys->RepL R e (vs++ws) (xs++ys)
 |_,_,_,_,.nil,h=>h
 |_,_,_,_,.cons hv hs,h=>.cons hv (RepL.append hs h)
theorem RepL.take:∀{vs:List SV} {xs:List CV} (n:Nat),RepL R e vs xs->RepL R e (vs.take n) (xs.take n)
 |_,_,n,.nil=>by simp;exact .nil
 |_,_,0,.cons _ _=>.nil
 |_,_,n+1,.cons hv hs=>.cons hv (RepL.take n hs)
theorem RepL.drop:∀{vs:List SV} {xs:List CV} (n:Nat),RepL R e vs xs->RepL R e (vs.drop n) (xs.drop n)
 |_,_,n,.nil=>by simp;exact .nil
 |_,_,0,.cons hv hs=>.cons hv hs
 |_,_,n+1,.cons _ hs=>RepL.drop n hs
theorem RepL.set:∀{vs:List SV} {xs:List CV} (i:Nat) {v:SV} {x:CV},RepL R e vs xs->Rep R e v x->RepL R e (vs.set i v) (xs.set i x)
 |_,_,_,_,_,.nil,_=>.nil
 |_,_,0,_,_,.cons _ hs,h=>.cons h hs
 |_,_,i+1,_,_,.cons hv hs,h=>.cons hv (RepL.set i hs h)
theorem RepL.junks:∀(xs:List CV),RepL R e (List.replicate xs.length .junk) xs
 |[]=>.nil
 |_::xs=>.cons .junk (RepL.junks xs)
end
inductive SObj where
 |dead
 |cells (ty:TypeId) (cs:List SV)
 |list (ty:TypeId) (sz n:Nat) (el:Nat->List SV)
 |map (c:KC) (f:CV->Option SV) (st:Option (CV×Nat))
 deriving Inhabited
structure MapRep(R:RO)(c:KC)(f:CV->Option SV)(st:Option (CV×Nat))(es:List (CV×CV×Nat))(clock:Nat):Prop where
 has:∀p∈es,c.has p.1=true
 get:∀k,c.has k=true->(zc8 k es=none/\f k=none)\/∃b v,zc8 k es=some b/\f k=some v/\Rep R noE v b
 ne:(es.map fun p=>nk p.1).Nodup
 stp:(es.map fun p=>p.2.2).Nodup
 lt:∀p∈es,p.2.2<clock
 last:∀k s,st=some (k,s)->c.has k=true/\∃b,(k,b,s)∈es
theorem MapRep.mono{R R':RO}(hR:R.le R'){c:KC}{f:CV->Option SV}{st:Option (CV×Nat)}{es:List (CV×CV×Nat)}{clock:Nat}(h:MapRep R c f st es clock):MapRep R' c f st es clock:=
 ⟨h.has,fun k hk=>(h.get k hk).imp id fun⟨b,v,h1,h2,h3⟩=>⟨b,v,h1,h2,h3.mono hR (DEnv.le.refl _)⟩,h.ne,h.stp,h.lt,h.last⟩
def OR(R:RO)(e:DEnv)(m:Mem)(x:CV):SObj->Prop
 |.dead=>False
 |.cells ty cs=>∃t xs,x=.ptr t 0/\m.get t=some (.cells ty xs)/\RepL R e cs xs
 |.list ty sz n el=>((zu4 x=true\/∃t off o cs,x=.slc t off 0 0/\R t=some o/\zkM o=some cs/\off<=cs.length/\cs.all one=true)/\n=0) \/
   (∃t c xs,x=.slc t 0 n c/\0<c/\n<=c/\m.get t=some (.cells ty xs)/\c*sz=xs.length/\xs.all one=true/\∀i,i<n->RepL R noE (el i) (seg xs (i*sz) sz)) \/
   (∃t xs,x=.opn t 0 n/\m.get t=some (.opn ty sz xs)/\n*sz<=xs.length/\xs.all one=true/\∀i,i<n->RepL R noE (el i) (seg xs (i*sz) sz))
 |.map c f st=>∃t es clock,x=.map t/\m.get t=some (.map es clock)/\MapRep R c f st es clock
structure Ctx where
 m0:Mem
 S0:List Nat
 R0:RO
def Ctx.own(G:Ctx)(t:Nat):Prop:=G.m0.nxt<=t\/t∈G.S0
structure MSat(G:Ctx)(R:RO)(e:DEnv)(O:List SObj)(m:Mem):Prop where
 fr:Fr G.S0 G.m0 m
 sk:Mk R m
 le:G.R0.le R
 rn:∀t o,R t=some o->G.R0 t=some o\/G.own t
 own:∀o x t,e o=some x->tg x=some t->G.own t/\R t=none
 inj:∀o o' x x' t,e o=some x->e o'=some x'->tg x=some t->tg x'=some t->o=o'
 ob:∀o so,O[o]? = some so->so=.dead\/∃x,e o=some x/\OR R e m x so
 dom:∀o x,e o=some x->∃so,O[o]? = some so/\so≠.dead
structure TSat(R:RO)(e:DEnv)(T:List SV)(t:Tmps):Prop where
 sz:t.sz=T.length
 get:∀i v,T[i]? = some v->v=.junk\/∃x,t.get i=some x/\Rep R e v x
section
variable{G:Ctx}{R R':RO}{e e':DEnv}{O:List SObj}{m m':Mem}{T:List SV}{t:Tmps}
theorem TSat.mono(h:TSat R e T t)(hR:R.le R')(he:e.le e'):TSat R' e' T t:=
 ⟨h.sz,fun i v hv=>(h.get i v hv).imp id fun⟨x,h1,h2⟩=>⟨x,h1,h2.mono hR he⟩⟩
theorem TSat.set(h:TSat R e T t){d:Nat}{v:SV}{x:CV}(hv:Rep R e v x)(hd:d<T.length):TSat R e (T.set d v) (t.set d x):=by
 refine⟨by rw[Tmps.set_sz,h.sz,List.length_set],fun i u hi=>?_⟩;rw[yc8]at hi;by_cases hq:d=i
 ·subst hq;rw[if_pos rfl,if_pos hd]at hi;cases hi;exact .inr ⟨x,Tmps.get_set_self t x (by rw[h.sz];exact hd),hv⟩
 ·rw[if_neg hq]at hi;rw[Tmps.get_set_ne t x (fun e=>hq e.symm)];exact h.get i u hi
theorem MSat.obj(h:MSat G R e O m){o:Nat}{x:CV}(hx:e o=some x):∃so,O[o]? = some so/\OR R e m x so:=by
 obtain⟨so,h1,h2⟩:=h.dom o x hx;rcases h.ob o so h1 with h3 |⟨y,h3,h4⟩
 ·exact absurd h3 h2
 ·rw[hx]at h3;cases h3;exact⟨so,h1,h4⟩
theorem MSat.cells(h:MSat G R e O m){o:Nat}{ty:TypeId}{cs:List SV}(ho:O[o]? = some (.cells ty cs)):∃t xs,e o=some (.ptr t 0)/\m.get t=some (.cells ty xs)/\RepL R e cs xs:=by
 rcases h.ob o _ ho with h1 |⟨x,h1,t,xs,rfl,h3,h4⟩
 ·cases h1
 ·exact⟨t,xs,h1,h3,h4⟩
theorem OR.mono(hR:R.le R')(he:e.le e'){x:CV}{so:SObj}(h:OR R e m x so)(hm:∀t,tg x=some t->m'.get t=m.get t):OR R' e' m' x so:=by
 cases so with
 |dead=>exact h
 |cells ty cs=>
  obtain⟨t,xs,rfl,h2,h3⟩:=h;exact⟨t,xs,rfl,by rw[hm t rfl];exact h2,h3.mono hR he⟩
 |list ty sz n el=>
  rcases h with⟨h,hn⟩ |⟨t,c,xs,rfl,h0,h1,h2,h3,ha,h4⟩ |⟨t,xs,rfl,h2,h3,ha,h4⟩
  ·refine .inl ⟨h.imp id ?_,hn⟩;rintro⟨t,off,o,cs,h1,h2,h3⟩;exact⟨t,off,o,cs,h1,hR _ _ h2,h3⟩
  ·exact .inr (.inl ⟨t,c,xs,rfl,h0,h1,by rw[hm t (zcV h0)];exact h2,h3,ha,fun i hi=>(h4 i hi).mono hR (DEnv.le.refl _)⟩)
  ·exact .inr (.inr ⟨t,xs,rfl,by rw[hm t rfl];exact h2,h3,ha,fun i hi=>(h4 i hi).mono hR (DEnv.le.refl _)⟩)
 |map c f st=>
  obtain⟨t,es,clock,rfl,h2,h3⟩:=h;exact⟨t,es,clock,rfl,by rw[hm t rfl];exact h2,h3.mono hR⟩
theorem OR.lt(hw:Wf m){x:CV}{so:SObj}(h:OR R e m x so){t:Nat}(ht:tg x=some t):∃o,m.get t=some o/\zcG o=false/\t<m.nxt:=by
 cases so with
 |dead=>exact h.elim
 |cells ty cs=>
  obtain⟨t',xs,rfl,h2,h3⟩:=h;cases ht;exact⟨_,h2,rfl,hw.lt h2⟩
 |list ty sz n el=>
  rcases h with⟨h |⟨t',off,o,cs,h,_⟩,_⟩ |⟨t',c,xs,rfl,h0,h1,h2,h3,ha,h4⟩ |⟨t',xs,rfl,h2,h3,ha,h4⟩
  ·rw[zs5 h]at ht;cases ht
  ·subst h;cases ht
  ·obtain⟨rfl,_⟩:=zfx ht;exact⟨_,h2,rfl,hw.lt h2⟩
  ·cases ht;exact⟨_,h2,rfl,hw.lt h2⟩
 |map c f st=>
  obtain⟨t',es,clock,rfl,h2,h3⟩:=h;cases ht;exact⟨_,h2,rfl,hw.lt h2⟩
theorem MSat.lt(h:MSat G R e O m){o t:Nat}{x:CV}(hx:e o=some x)(ht:tg x=some t):∃o,m.get t=some o/\zcG o=false/\t<m.nxt:=by
 obtain⟨so,_,h2⟩:=h.obj hx;exact h2.lt h.sk.wf ht
end
def DEnv.put(e:DEnv)(o:Nat)(x:Option CV):DEnv:=fun i=>if i=o then x else e i
theorem DEnv.put_self(e:DEnv)(o:Nat)(x:Option CV):e.put o x o=x:=if_pos rfl
theorem DEnv.put_ne(e:DEnv){o i:Nat}(x:Option CV)(h:i≠o):e.put o x i=e i:=if_neg h
theorem DEnv.le_put{e:DEnv}{o:Nat}(h:e o=none)(x:Option CV):e.le (e.put o x):=fun i y hy=>by
 unfold DEnv.put;split
 ·rename_i hq;rw[hq,h]at hy;cases hy
 ·exact hy
section
variable{G:Ctx}{R R':RO}{e:DEnv}{O:List SObj}{m m':Mem}{T:List SV}{t:Tmps}
theorem MSat.free(h:MSat G R e O m){o:Nat}(ho:O.length<=o):e o=none:=by
 cases hx:e o with
 |none=>rfl
 |some x=>
  obtain⟨so,h1,_⟩:=h.dom o x hx;rw[List.getElem?_eq_none ho]at h1;cases h1
theorem MSat.new(h:MSat G R e O m){T:Nat}{co:CO}(hn:New m T co m'){x:CV}{so:SObj}(hx:tg x=some T)(hrec:zcG co=false)(hne:so≠.dead)(hor:∀e',e.le e'->OR R e' m' x so):e.le (e.put O.length (some x))/\MSat G R (e.put O.length (some x)) (O++[so]) m':=by
 have hle:e.le (e.put O.length (some x)):=DEnv.le_put (h.free (Nat.le_refl _)) _;have hT:=hn.tag;have hnx:=h.fr.nxt;refine⟨hle,⟨h.fr.new hn,h.sk.new hn,h.le,h.rn,fun o y t hy ht=>?_,fun o o' y y' t hy hy' ht ht'=>?_,fun o so' ho=>?_,fun o y hy=>?_⟩⟩
 ·unfold DEnv.put at hy;split at hy
  ·cases hy;rw[hx]at ht;cases ht;exact⟨.inl (by omega),h.sk.none (by omega)⟩
  ·exact h.own o y t hy ht
 ·unfold DEnv.put at hy hy';split at hy<;>split at hy'
  ·omega
  ·cases hy;rw[hx]at ht;cases ht;obtain⟨_,_,_,hl⟩:=h.lt hy' ht';omega
  ·cases hy';rw[hx]at ht';cases ht';obtain⟨_,_,_,hl⟩:=h.lt hy ht;omega
  ·exact h.inj o o' y y' t hy hy' ht ht'
 ·rcases Nat.lt_trichotomy o O.length with hq |hq |hq
  ·rw[yb8 hq]at ho;rcases h.ob o so' ho with h1 |⟨y,h1,h2⟩
   ·exact .inl h1
   ·refine .inr ⟨y,by rw[DEnv.put_ne _ _ (by omega)];exact h1,h2.mono (RO.le.refl R) hle fun t ht=>?_⟩;obtain⟨_,hg,_,hl⟩:=h.lt h1 ht;rw[hn.get,if_neg (by omega)]
  ·subst hq;simp at ho;subst ho;exact .inr ⟨x,DEnv.put_self ..,hor _ hle⟩
  ·rw[List.getElem?_eq_none (by simp;omega)]at ho;cases ho
 ·unfold DEnv.put at hy;split at hy
  ·rename_i hq;subst hq;exact⟨so,by simp,hne⟩
  ·obtain⟨so',h1,h2⟩:=h.dom o y hy;exact⟨so',by rw[yb8 (List.getElem?_eq_some_iff.1 h1).1];exact h1,h2⟩
end
end Go.Cx
namespace Go.Cx
open Go
def zbC{A B:Type}(f:A->(B->Prop)->Prop):List A->(List B->Prop)->Prop
 |[],k=>k []
 |x::xs,k=>f x fun y=>zbC f xs fun ys=>k (y::ys)
theorem zai{A B:Type}{f:A->(B->Prop)->Prop}{g:A->B}(h:∀x k,f x k=k (g x)):∀(l:List A) (k:List B->Prop),zbC f l k=k (l.map g)
 |[],_=>rfl
 |x::xs,k=>by rw[zbC,h,zai h xs];rfl
def sbLeaf(o:Nat)(r:SV):SV->SV
 |.lst i=>match Nat.beq i o with
  |true=>r
  |false=>.lst i
 |.ept i sz k off=>match Nat.beq i o with
  |true=>.junk
  |false=>.ept i sz k off
 |.ptr i off=>match Nat.beq i o with
  |true=>.junk
  |false=>.ptr i off
 |.sub i off n c=>match Nat.beq i o with
  |true=>.junk
  |false=>.sub i off n c
 |.map i=>match Nat.beq i o with
  |true=>.junk
  |false=>.map i
 |.agg _=>.junk
 |.tup _=>.junk
 |.fn _ _ _=>.junk
 |.ifc _ _=>.junk
 |v=>v
def sb(o:Nat)(r:SV):Nat->SV->SV
 |0,v=>sbLeaf o r v
 |d+1,.agg cs=>.agg (cs.map (sb o r d))
 |d+1,.tup cs=>.tup (cs.map (sb o r d))
 |d+1,.fn f a b=>.fn f (a.map (sb o r d)) (b.map (sb o r d))
 |d+1,.ifc ty v=>.ifc ty (sb o r d v)
 |_+1,v=>sbLeaf o r v
def zle(o:Nat)(r:SV)(v:SV)(k:SV->Prop):Prop:=match v with
 |.lst i=>match Nat.beq i o with
  |true=>k r
  |false=>k (.lst i)
 |.ept i sz j off=>match Nat.beq i o with
  |true=>k .junk
  |false=>k (.ept i sz j off)
 |.ptr i off=>match Nat.beq i o with
  |true=>k .junk
  |false=>k (.ptr i off)
 |.sub i off n c=>match Nat.beq i o with
  |true=>k .junk
  |false=>k (.sub i off n c)
 |.map i=>match Nat.beq i o with
  |true=>k .junk
  |false=>k (.map i)
 |.agg _=>k .junk
 |.tup _=>k .junk
 |.fn _ _ _=>k .junk
 |.ifc _ _=>k .junk
 |v=>k v
def sbK(o:Nat)(r:SV):Nat->SV->(SV->Prop)->Prop
 |0,v,k=>zle o r v k
 |d+1,.agg cs,k=>zbC (sbK o r d) cs fun cs=>k (.agg cs)
 |d+1,.tup cs,k=>zbC (sbK o r d) cs fun cs=>k (.tup cs)
 |d+1,.fn f a b,k=>zbC (sbK o r d) a fun a=>zbC (sbK o r d) b fun b=>k (.fn f a b)
 |d+1,.ifc ty v,k=>sbK o r d v fun v=>k (.ifc ty v)
 |_+1,v,k=>zle o r v k
theorem zjQ(o:Nat)(r v:SV)(k:SV->Prop):zle o r v k=k (sbLeaf o r v):=by
 cases v<;>simp only[zle,sbLeaf]<;>split<;>rfl
theorem zhi(o:Nat)(r:SV):∀(d:Nat) (v:SV) (k:SV->Prop),sbK o r d v k=k (sb o r d v)
 |0,v,k=>by unfold sbK sb;exact zjQ o r v k
 |d+1,v,k=>by
  cases v<;>simp only[sbK,sb]<;>first
   |exact zjQ o r _ k
   |(rw[zai (zhi o r d),zai (zhi o r d)])
   |(rw[zai (zhi o r d)])
   |(rw[zhi o r d])
def zal:Nat:=4
def sbO(o:Nat)(r:SV):SObj->SObj
 |.cells ty cs=>.cells ty (cs.map (sb o r zal))
 |so=>so
def zAy(o:Nat)(r:SV)(so:SObj)(k:SObj->Prop):Prop:=match so with
 |.cells ty cs=>zbC (sbK o r zal) cs fun cs=>k (.cells ty cs)
 |so=>k so
theorem zs8(o:Nat)(r:SV)(so:SObj)(k:SObj->Prop):zAy o r so k=k (sbO o r so):=by
 cases so<;>simp only[zAy,sbO];rw[zai (zhi o r zal)]
def zq8(o:Nat)(r:SV)(T:List SV)(O:List SObj)(k:List SV->List SObj->Prop):Prop:=
 zbC (sbK o r zal) T fun T=>zbC (zAy o r) O fun O=>k T O
theorem zgc(o:Nat)(r:SV)(T:List SV)(O:List SObj)(k:List SV->List SObj->Prop):zq8 o r T O k=k (T.map (sb o r zal)) (O.map (sbO o r)):=by
 unfold zq8;rw[zai (zhi o r zal),zai (zs8 o r)]
section
variable{R R':RO}{e e':DEnv}{o:Nat}{r:SV}
theorem zeY{a b:Nat}:Nat.beq a b=decide (a=b):=by
 by_cases h:a=b
 ·rw[znX h,decide_eq_true h]
 ·rw[zmh h,decide_eq_false h]
theorem Rep.leaf(hR:R.le R')(he:∀i x,i≠o->e i=some x->e' i=some x)(hr:∀x,Rep R e (.lst o) x->Rep R' e' r x){v:SV}{x:CV}(h:Rep R e v x):Rep R' e' (sbLeaf o r v) x:=by
 cases h with
 |junk=>exact .junk
 |cv h=>exact .cv h
 |agg h=>exact .junk
 |tup h=>exact .junk
 |fn ha hb=>exact .junk
 |ifc h=>exact .junk
 |ptr h=>
  simp only[sbLeaf,zeY];split
  ·exact .junk
  ·rename_i hq;exact .ptr (he _ _ (by simpa using hq) h)
 |eptS h=>
  simp only[sbLeaf,zeY];split
  ·exact .junk
  ·rename_i hq;exact .eptS (he _ _ (by simpa using hq) h)
 |eptO h=>
  simp only[sbLeaf,zeY];split
  ·exact .junk
  ·rename_i hq;exact .eptO (he _ _ (by simpa using hq) h)
 |lstN h=>
  simp only[sbLeaf,zeY];split
  ·rename_i hq;simp at hq;subst hq;exact hr _ (.lstN h)
  ·rename_i hq;exact .lstN (he _ _ (by simpa using hq) h)
 |lstV h=>
  simp only[Go.Cx.sbLeaf,zeY];split
  ·rename_i hq;simp at hq;subst hq;exact hr _ (.lstV h)
  ·rename_i hq;exact .lstV (he _ _ (by simpa using hq) h)
 |lstS h=>
  simp only[sbLeaf,zeY];split
  ·rename_i hq;simp at hq;subst hq;exact hr _ (.lstS h)
  ·rename_i hq;exact .lstS (he _ _ (by simpa using hq) h)
 |lstE h=>
  simp only[sbLeaf,zeY];split
  ·rename_i hq;simp at hq;subst hq;exact hr _ (.lstE h)
  ·rename_i hq;exact .lstE (he _ _ (by simpa using hq) h)
 |lstO h=>
  simp only[sbLeaf,zeY];split
  ·rename_i hq;simp at hq;subst hq;exact hr _ (.lstO h)
  ·rename_i hq;exact .lstO (he _ _ (by simpa using hq) h)
 |sub h=>
  simp only[sbLeaf,zeY];split
  ·exact .junk
  ·rename_i hq;exact .sub (he _ _ (by simpa using hq) h)
 |map h=>
  simp only[sbLeaf,zeY];split
  ·exact .junk
  ·rename_i hq;exact .map (he _ _ (by simpa using hq) h)
 |islN=>exact .islN
 |islV=>exact .islV
 |islE=>exact .islE
 |islS h1 h2 h3 h4 h0 h5=>exact .islS (hR _ _ h1) h2 h3 h4 h0 fun i hi=>(h5 i hi).mono hR (DEnv.le.refl _)
 |islO h1 h2 h0 h3=>exact .islO (hR _ _ h1) h2 h0 fun i hi=>(h3 i hi).mono hR (DEnv.le.refl _)
 |islx h=>
  show Rep R' e' (.islx _ _ _) x;cases h with
  |islN=>exact .islx .islN
  |islV=>exact .islx .islV
  |islS h1 h2 h3 h4 h0 h5=>exact .islx (.islS (hR _ _ h1) h2 h3 h4 h0 fun i hi=>(h5 i hi).mono hR (DEnv.le.refl _))
  |islO h1 h2 h0 h3=>exact .islx (.islO (hR _ _ h1) h2 h0 fun i hi=>(h3 i hi).mono hR (DEnv.le.refl _))
 |ipt h1 h2 h3 h0 h4=>exact .ipt (hR _ _ h1) h2 h3 h0 (h4.mono hR (DEnv.le.refl _))
 |empN=>exact .empN
 |empV=>exact .empV
 |empS h=>obtain⟨o',cs,h1,h2,h3⟩:=h;exact .empS ⟨o',cs,hR _ _ h1,h2,h3⟩
theorem Rep.sb(hR:R.le R')(he:∀i x,i≠o->e i=some x->e' i=some x)(hr:∀x,Rep R e (.lst o) x->Rep R' e' r x):∀(d:Nat) {v:SV} {x:CV},Rep R e v x->Rep R' e' (sb o r d v) x
 |0,_,_,h=>h.leaf hR he hr
 |d+1,v,x,h=>by
  have hl:∀{vs:List SV} {xs:List CV},RepL R e vs xs->RepL R' e' (vs.map (Go.Cx.sb o r d)) xs:=by
   intro vs
   induction vs with
   |nil=>intro xs h;cases h;exact .nil
   |cons v vs ih=>intro xs h;cases h with |cons hv hs=>exact .cons (Rep.sb hR he hr d hv) (ih hs)
  cases h with
  |agg h=>exact .agg (hl h)
  |tup h=>exact .tup (hl h)
  |fn ha hb=>exact .fn (hl ha) (hl hb)
  |ifc h=>exact .ifc (Rep.sb hR he hr d h)
  |junk=>exact Rep.leaf hR he hr .junk
  |cv h=>exact Rep.leaf hR he hr (.cv h)
  |ptr h=>exact Rep.leaf hR he hr (.ptr h)
  |eptS h=>exact Rep.leaf hR he hr (.eptS h)
  |eptO h=>exact Rep.leaf hR he hr (.eptO h)
  |lstN h=>exact Rep.leaf hR he hr (.lstN h)
  |lstV h=>exact Rep.leaf hR he hr (.lstV h)
  |lstS h=>exact Rep.leaf hR he hr (.lstS h)
  |lstE h=>exact Rep.leaf hR he hr (.lstE h)
  |lstO h=>exact Rep.leaf hR he hr (.lstO h)
  |sub h=>exact Rep.leaf hR he hr (.sub h)
  |map h=>exact Rep.leaf hR he hr (.map h)
  |islN=>exact Rep.leaf hR he hr .islN
  |islV=>exact Rep.leaf hR he hr .islV
  |islE=>exact Rep.leaf hR he hr .islE
  |islS h1 h2 h3 h4 h0 h5=>exact Rep.leaf hR he hr (.islS h1 h2 h3 h4 h0 h5)
  |islO h1 h2 h0 h3=>exact Rep.leaf hR he hr (.islO h1 h2 h0 h3)
  |islx h=>exact Rep.leaf hR he hr (.islx h)
  |ipt h1 h2 h3 h0 h4=>exact Rep.leaf hR he hr (.ipt h1 h2 h3 h0 h4)
  |empN=>exact Rep.leaf hR he hr .empN
  |empV=>exact Rep.leaf hR he hr .empV
  |empS h=>exact Rep.leaf hR he hr (.empS h)
theorem RepL.sb(hR:R.le R')(he:∀i x,i≠o->e i=some x->e' i=some x)(hr:∀x,Rep R e (.lst o) x->Rep R' e' r x)(d:Nat):∀{vs:List SV} {xs:List CV},RepL R e vs xs->RepL R' e' (vs.map (Go.Cx.sb o r d)) xs
 |_,_,.nil=>.nil
 |_,_,.cons hv hs=>.cons (hv.sb hR he hr d) (RepL.sb hR he hr d hs)
theorem TSat.sb(hR:R.le R')(he:∀i x,i≠o->e i=some x->e' i=some x)(hr:∀x,Rep R e (.lst o) x->Rep R' e' r x){T:List SV}{t:Tmps}(h:TSat R e T t):TSat R' e' (T.map (Go.Cx.sb o r zal)) t:=by
 refine⟨by rw[h.sz,yb7],fun i v hv=>?_⟩;rw[yb9]at hv;cases hT:T[i]? with
 |none=>rw[hT]at hv;cases hv
 |some u=>
  rw[hT]at hv;cases hv;rcases h.get i u hT with rfl |⟨x,h1,h2⟩
  ·exact .inl rfl
  ·exact .inr ⟨x,h1,h2.sb hR he hr zal⟩
end
structure Chg(m:Mem)(a b:Option Nat)(m':Mem):Prop where
 nxt:m.nxt<=m'.nxt
 get:∀t,a≠some t->b≠some t->m'.get t=m.get t
 new:∀t,b=some t->a=some t\/m.nxt<=t
 wf:Wf m->Wf m'
section
variable{G:Ctx}{R R':RO}{e:DEnv}{O:List SObj}{m m':Mem}
theorem MSat.chg(h:MSat G R e O m){o:Nat}{x:CV}{y:CV}{so:SObj}(hx:e o=some x)(hc:Chg m (tg x) (tg y) m')(hne:so≠.dead)
  (hor:OR R (e.put o (some y)) m' y so):MSat G R (e.put o (some y)) ((O.map (sbO o .junk)).set o so) m':=by
 have hown:∀t,tg y=some t->G.own t/\R t=none:=fun t ht=>by
  rcases hc.new t ht with h1 |h1
  ·exact h.own o x t hx h1
  ·exact⟨.inl (by have:=h.fr.nxt;omega),h.sk.none h1⟩
 have hlo:o<O.length:=by
  obtain⟨so',h1,_⟩:=h.dom o x hx;exact(List.getElem?_eq_some_iff.1 h1).1
 have hfar:∀i z t,i≠o->e i=some z->tg z=some t->tg y≠some t:=fun i z t hi hz ht hy=>by
  rcases hc.new t hy with h1 |h1
  ·exact hi (h.inj i o z x t hz hx ht h1)
  ·obtain⟨_,_,_,hl⟩:=h.lt hz ht;omega
 have hstay:∀t oo,R t=some oo->m'.get t=m.get t:=fun t oo hR=>by
  refine hc.get t (fun ha=>?_) fun hb=>?_
  ·rw[(h.own o x t hx ha).2]at hR;cases hR
  ·rw[(hown t hb).2]at hR;cases hR
 refine⟨⟨Nat.le_trans h.fr.nxt hc.nxt,fun t ht hS=>?_,fun w=>hc.wf (h.fr.wf w)⟩,⟨hc.wf h.sk.wf,fun t oo hR=>by rw[hstay t oo hR];exact h.sk.ro t oo hR⟩,h.le,h.rn,fun i z t hz ht=>?_,fun i j z w t hz hw hzt hwt=>?_,fun i so' hi=>?_,fun i z hz=>?_⟩
 ·rw[hc.get t (fun ha=>?_) (fun hb=>?_)]
  ·exact h.fr.get t ht hS
  ·rcases(h.own o x t hx ha).1 with h1 |h1
   ·omega
   ·exact hS h1
  ·rcases(hown t hb).1 with h1 |h1
   ·omega
   ·exact hS h1
 ·unfold DEnv.put at hz;split at hz
  ·cases hz;exact hown t ht
  ·exact h.own i z t hz ht
 ·unfold DEnv.put at hz hw;split at hz<;>split at hw
  ·omega
  ·cases hz;exact absurd hzt (hfar j w t (by assumption) hw hwt)
  ·cases hw;exact absurd hwt (hfar i z t (by assumption) hz hzt)
  ·exact h.inj i j z w t hz hw hzt hwt
 ·rw[yc8]at hi;by_cases hq:o=i
  ·subst hq;rw[if_pos rfl,if_pos (by simpa using hlo)]at hi;cases hi;exact .inr ⟨y,DEnv.put_self ..,hor⟩
  ·rw[if_neg hq,yb9]at hi;cases hO:O[i]? with
   |none=>rw[hO]at hi;cases hi
   |some s0=>
    rw[hO]at hi;cases hi;rcases h.ob i s0 hO with rfl |⟨z,h1,h2⟩
    ·exact .inl rfl
    ·refine .inr ⟨z,by rw[DEnv.put_ne _ _ (fun hh=>hq hh.symm)];exact h1,?_⟩;have hm:∀t,tg z=some t->m'.get t=m.get t:=fun t ht=>
      hc.get t (fun ha=>hq (h.inj i o z x t h1 hx ht ha).symm) (hfar i z t (fun hh=>hq hh.symm) h1 ht)
     cases s0 with
     |dead=>exact h2
     |cells ty cs=>
      obtain⟨t,xs,rfl,h3,h4⟩:=h2;exact⟨t,xs,rfl,by rw[hm t rfl];exact h3,h4.sb (RO.le.refl R) (fun i z hi hz=>by rw[DEnv.put_ne _ _ hi];exact hz) (fun x _=>.junk) zal⟩
     |list ty sz n el=>exact OR.mono (e:=e) (e':=e) (RO.le.refl R) (DEnv.le.refl _) h2 hm
     |map c f st=>exact OR.mono (e:=e) (e':=e) (RO.le.refl R) (DEnv.le.refl _) h2 hm
 ·unfold DEnv.put at hz;split at hz
  ·rename_i hq;subst hq;exact⟨so,by rw[yc8,if_pos rfl,if_pos (by simpa using hlo)],hne⟩
  ·rename_i hq;obtain⟨s0,h1,h2⟩:=h.dom i z hz;refine⟨sbO o .junk s0,by rw[yc8,if_neg (fun hh=>hq hh.symm),yb9,h1];rfl,?_⟩;cases s0<;>simp[sbO]at h2 ⊢
theorem MSat.put(h:MSat G R e O m){o t:Nat}{ty:TypeId}{cs:List SV}{xs:List CV}(hx:e o=some (.ptr t 0))(hm:Put m t (.cells ty xs) m')(hcs:RepL R e cs xs):MSat G R e (O.set o (.cells ty cs)) m':=by
 have hlo:o<O.length:=by
  obtain⟨so',h1,_⟩:=h.dom o _ hx;exact(List.getElem?_eq_some_iff.1 h1).1
 obtain⟨_,_,_,hlt⟩:=h.lt hx rfl;have how:=h.own o _ t hx rfl;refine⟨h.fr.put hm hlt how.1,h.sk.put hm hlt how.2,h.le,h.rn,h.own,h.inj,fun i so hi=>?_,fun i z hz=>?_⟩
 ·rw[yc8]at hi;by_cases hq:o=i
  ·subst hq;rw[if_pos rfl,if_pos hlo]at hi;cases hi;exact .inr ⟨_,hx,t,xs,rfl,hm.self,hcs⟩
  ·rw[if_neg hq]at hi;rcases h.ob i so hi with h1 |⟨z,h1,h2⟩
   ·exact .inl h1
   ·exact .inr ⟨z,h1,h2.mono (RO.le.refl R) (DEnv.le.refl _) fun t' ht'=>by
     rw[hm.get,if_neg (by rintro rfl;exact hq (h.inj i o z _ t' h1 hx ht' rfl).symm)]⟩
 ·obtain⟨so,h1,h2⟩:=h.dom i z hz;by_cases hq:o=i
  ·subst hq;exact⟨_,by rw[yc8,if_pos rfl,if_pos hlo],by simp⟩
  ·exact⟨so,by rw[yc8,if_neg hq];exact h1,h2⟩
theorem MSat.putL(h:MSat G R e O m){o t:Nat}{x:CV}{so:SObj}{co:CO}(hx:e o=some x)(ht:tg x=some t)(hm:Put m t co m')(hne:so≠.dead)(hor:OR R e m' x so):MSat G R e (O.set o so) m':=by
 have hlo:o<O.length:=by
  obtain⟨so',h1,_⟩:=h.dom o _ hx;exact(List.getElem?_eq_some_iff.1 h1).1
 obtain⟨_,_,_,hlt⟩:=h.lt hx ht;have how:=h.own o _ t hx ht;refine⟨h.fr.put hm hlt how.1,h.sk.put hm hlt how.2,h.le,h.rn,h.own,h.inj,fun i so' hi=>?_,fun i z hz=>?_⟩
 ·rw[yc8]at hi;by_cases hq:o=i
  ·subst hq;rw[if_pos rfl,if_pos hlo]at hi;cases hi;exact .inr ⟨_,hx,hor⟩
  ·rw[if_neg hq]at hi;rcases h.ob i so' hi with h1 |⟨z,h1,h2⟩
   ·exact .inl h1
   ·exact .inr ⟨z,h1,h2.mono (RO.le.refl R) (DEnv.le.refl _) fun t' ht'=>by
     rw[hm.get,if_neg (by rintro rfl;exact hq (h.inj i o z _ t' h1 hx ht' ht).symm)]⟩
 ·obtain⟨so',h1,h2⟩:=h.dom i z hz;by_cases hq:o=i
  ·subst hq;exact⟨_,by rw[yc8,if_pos rfl,if_pos hlo],hne⟩
  ·exact⟨so',by rw[yc8,if_neg hq];exact h1,h2⟩
theorem OR.frozen{x:CV}{ty:TypeId}{sz n:Nat}{el:Nat->List SV}(h:OR R e m x (.list ty sz n el))(hR:∀t,tg x=some t->R t=none):∃R',R.le R'/\(∀t oo,R' t=some oo->R t=some oo\/(tg x=some t/\m.get t=some oo))/\∀e',Rep R' e' (.isl sz n el) x:=by
 rcases h with⟨h |⟨t,off,o,cs,h,h1,h2,h3,h4⟩,rfl⟩ |⟨t,c,xs,rfl,h0,h1,h2,h3,ha,h4⟩ |⟨t,xs,rfl,h2,h3,ha,h4⟩
 ·rcases zd4 h with h |⟨a,h⟩
  ·subst h;exact⟨R,RO.le.refl R,fun t oo h=>.inl h,fun e'=>.islN⟩
  ·subst h;exact⟨R,RO.le.refl R,fun t oo h=>.inl h,fun e'=>.islV⟩
 ·subst h;exact⟨R,RO.le.refl R,fun t oo h=>.inl h,fun e'=>.islS h1 h2 (by simpa using h3) (Nat.le_refl _) h4 fun i hi=>by omega⟩
 ·have hle:=RO.le_add (R:=R) (a:=t) (o:=.cells ty xs) (hR t (zcV h0));refine⟨R.add t (.cells ty xs),hle,fun t' oo h=>?_,fun e'=>?_⟩
  ·unfold RO.add at h;split at h
   ·rename_i hq;subst hq;cases h;exact .inr ⟨zcV h0,h2⟩
   ·exact .inl h
  ·refine .islS RO.add_self rfl ?_ h1 ha fun i hi=>?_
   ·rw[<- h3,Nat.zero_add];exact yd2 _ h1
   ·rw[Nat.zero_add];exact(h4 i hi).mono hle (DEnv.le.refl _)
 ·have hle:=RO.le_add (R:=R) (a:=t) (o:=.opn ty sz xs) (hR t rfl);refine⟨R.add t (.opn ty sz xs),hle,fun t' oo h=>?_,fun e'=>?_⟩
  ·unfold RO.add at h;split at h
   ·rename_i hq;subst hq;cases h;exact .inr ⟨rfl,h2⟩
   ·exact .inl h
  ·refine .islO RO.add_self ?_ ha fun i hi=>?_
   ·rw[Nat.zero_add];exact h3
   ·rw[Nat.zero_add];exact(h4 i hi).mono hle (DEnv.le.refl _)
theorem MSat.freeze(h:MSat G R e O m){o:Nat}{ty:TypeId}{sz n:Nat}{el:Nat->List SV}(ho:O[o]? = some (.list ty sz n el)):
  ∃R',R.le R'/\(∀x,Rep R e (.lst o) x->Rep R' (e.put o none) (.isl sz n el) x)/\(∀i x,i≠o->e i=some x->e.put o none i=some x)/\MSat G R' (e.put o none) ((O.map (sbO o (.isl sz n el))).set o .dead) m:=by
 rcases h.ob o _ ho with h0 |⟨x,hx,hor⟩
 ·cases h0
 have hlo:o<O.length:=(List.getElem?_eq_some_iff.1 ho).1;obtain⟨R',hle,hR',hrep⟩:=hor.frozen fun t ht=>(h.own o x t hx ht).2
 have hr:∀y,Rep R e (.lst o) y->Rep R' (e.put o none) (.isl sz n el) y:=fun y hy=>by
  have:y=x:=by cases hy<;>(rename_i h1;rw[hx]at h1;cases h1;rfl)
  subst this;exact hrep _
 have he:∀i x,i≠o->e i=some x->e.put o none i=some x:=fun i z hi hz=>by rw[DEnv.put_ne _ _ hi];exact hz
 refine⟨R',hle,hr,he,h.fr,⟨h.sk.wf,fun t oo hh=>?_⟩,h.le.trans hle,fun t oo hh=>?_,fun i z t hz ht=>?_,fun i j z w t hz hw hzt hwt=>?_,fun i so hi=>?_,fun i z hz=>?_⟩
 ·rcases hR' t oo hh with h1 |⟨_,h1⟩
  ·exact h.sk.ro t oo h1
  ·exact h1
 ·rcases hR' t oo hh with h1 |⟨h1,_⟩
  ·exact h.rn t oo h1
  ·exact .inr (h.own o x t hx h1).1
 ·unfold DEnv.put at hz;split at hz
  ·cases hz
  ·rename_i hq;refine⟨(h.own i z t hz ht).1,?_⟩;cases hh:R' t with
   |none=>rfl
   |some oo=>
    rcases hR' t oo hh with h1 |⟨h1,_⟩
    ·rw[(h.own i z t hz ht).2]at h1;cases h1
    ·exact absurd (h.inj i o z x t hz hx ht h1) hq
 ·unfold DEnv.put at hz hw;split at hz<;>split at hw<;>first |(cases hz;done) |(cases hw;done) |exact h.inj i j z w t hz hw hzt hwt
 ·rw[yc8]at hi;by_cases hq:o=i
  ·subst hq;rw[if_pos rfl,if_pos (by simpa using hlo)]at hi;cases hi;exact .inl rfl
  ·rw[if_neg hq,yb9]at hi;cases hO:O[i]? with
   |none=>rw[hO]at hi;cases hi
   |some s0=>
    rw[hO]at hi;cases hi;rcases h.ob i s0 hO with rfl |⟨z,h1,h2⟩
    ·exact .inl rfl
    ·refine .inr ⟨z,he i z (fun hh=>hq hh.symm) h1,?_⟩;cases s0 with
     |dead=>exact h2
     |cells ty cs=>
      obtain⟨t,xs,rfl,h3,h4⟩:=h2;exact⟨t,xs,rfl,h3,h4.sb hle he hr zal⟩
     |list ty sz n el=>exact OR.mono (e:=e) (e':=e) hle (DEnv.le.refl _) h2 fun _ _=>rfl
     |map c f st=>exact OR.mono (e:=e) (e':=e) hle (DEnv.le.refl _) h2 fun _ _=>rfl
 ·unfold DEnv.put at hz;split at hz
  ·cases hz
  ·rename_i hq;obtain⟨s0,h1,h2⟩:=h.dom i z hz;refine⟨sbO o (.isl sz n el) s0,by rw[yc8,if_neg (fun hh=>hq hh.symm),yb9,h1];rfl,?_⟩;cases s0<;>simp[sbO]at h2 ⊢
end
end Go.Cx
namespace Go.Cx
open Go
inductive DPlc where
 |slot (s:Nat)
 |cell (o off:Nat)
structure DCfg where
 wrap:Bool:=false
 ann:List (Nat×List Nat):=[]
 cut:List (Nat×List Nat):=[]
 nils:List (Nat×List (DPlc×TypeId×Nat)):=[]
 words:List TypeId:=[]
 glb:List (Nat×List CV):=[]
 yl:Nat:=0
 ys:Nat->Option (List SV):=fun _=>none
 pans:List FuncId:=[]
def zyN:CV->SV
 |.fn f [] []=>.fn f [] []
 |.fn _ _ _=>.junk
 |.ptr _ _=>.junk
 |.slc _ _ _ _=>.junk
 |.opn _ _ _=>.junk
 |.emp _ _ _=>.junk
 |.map _=>.junk
 |.ifc _ _=>.junk
 |.agg _=>.junk
 |.tup _=>.junk
 |.res _ _ _ _=>.junk
 |.void _=>.junk
 |x=>.cv x
def svL:List CV->List SV
 |[]=>[]
 |x::xs=>zyN x::svL xs
def zuR:CV->SV
 |.agg cs=>.agg (svL cs)
 |.tup []=>.tup []
 |x=>zyN x
def zer:List SV->Nat->SV
 |[],_=>.junk
 |x::_,0=>x
 |_::xs,n+1=>zer xs n
def zlq(g:Nat):List (Nat×List CV)->SV
 |[]=>.junk
 |(i,cs)::r=>match Nat.beq i g with
  |true=>.ipt (svL cs) 0
  |false=>zlq g r
noncomputable def evD(c:DCfg)(T:List SV):Operand->SV
 |.tmp i=>zer T i
 |.const v=>match ofV v with
  |some x=>zuR x
  |none=>.junk
 |.global g=>match Nat.blt g 64 with
  |true=>zlq g c.glb
  |false=>.junk
 |.func f=>.fn f [] []
def fzC(x:CV)(k:CV->Prop):Prop:=match x with
 |.bool b=>k (.bool b)
 |.int a n=>k (.int a n)
 |.str s=>k (.str s)
 |.nilp=>k .nilp
 |.nils=>k .nils
 |.nilf=>k .nilf
 |.nilm=>k .nilm
 |.nili=>k .nili
 |.yld l=>k (.yld l)
 |x=>k x
def fz1(v:SV)(k:SV->Prop):Prop:=match v with
 |.junk=>k .junk
 |.cv x=>fzC x fun x=>k (.cv x)
 |.agg cs=>k (.agg cs)
 |.tup cs=>k (.tup cs)
 |.ptr o off=>k (.ptr o off)
 |.ept o sz i off=>k (.ept o sz i off)
 |.lst o=>k (.lst o)
 |.sub o off n c=>k (.sub o off n c)
 |.isl sz n el=>k (.isl sz n el)
 |.islx sz n el=>k (.islx sz n el)
 |.ipt cs off=>k (.ipt cs off)
 |.emp=>k .emp
 |.fn f a b=>k (.fn f a b)
 |.map o=>k (.map o)
 |.ifc ty v=>k (.ifc ty v)
def fzV(v:SV)(k:SV->Prop):Prop:=match v with
 |.agg cs=>zbC fz1 cs fun cs=>k (.agg cs)
 |.tup cs=>zbC fz1 cs fun cs=>k (.tup cs)
 |.ipt cs off=>zbC fz1 cs fun cs=>k (.ipt cs off)
 |.fn f a b=>zbC fz1 a fun a=>zbC fz1 b fun b=>k (.fn f a b)
 |v=>fz1 v k
theorem zsw(x:CV)(k:CV->Prop):fzC x k=k x:=by cases x<;>rfl
theorem zhs(v:SV)(k:SV->Prop):fz1 v k=k v:=by
 cases v<;>simp only[fz1];rw[zsw]
theorem zfo{f:SV->(SV->Prop)->Prop}(h:∀v k,f v k=k v)(l:List SV)(k:List SV->Prop):zbC f l k=k l:=by
 rw[zai (g:=id) h];simp
theorem ztE(v:SV)(k:SV->Prop):fzV v k=k v:=by
 cases v<;>simp only[fzV,zhs,zfo zhs]
def knK(v:SV)(k:SV->Prop):Prop:=fzV v fun v=>match v with
 |.junk=>False
 |v=>k v
theorem zdk{v:SV}{k:SV->Prop}(h:knK v k):v≠.junk/\k v:=by
 unfold knK at h;rw[ztE]at h;cases v<;>first |exact h.elim |exact⟨by simp,h⟩
noncomputable def za1(c:DCfg)(T:List SV)(x:Operand)(k:SV->Prop):Prop:=knK (evD c T x) k
noncomputable def ze7(c:DCfg)(T:List SV):List Operand->(List SV->Prop)->Prop
 |[],k=>k []
 |x::xs,k=>za1 c T x fun v=>ze7 c T xs fun vs=>k (v::vs)
noncomputable def zs4(c:DCfg)(T:List SV):List (Nat×Operand)->(List (Nat×SV)->Prop)->Prop
 |[],k=>k []
 |(i,x)::xs,k=>za1 c T x fun v=>zs4 c T xs fun vs=>k ((i,v)::vs)
noncomputable def zoK(c:DCfg)(T:List SV):Option Operand->(Option SV->Prop)->Prop
 |none,k=>k none
 |some x,k=>za1 c T x fun v=>k (some v)
def GlbOk(gl:List (Nat×List CV))(R:RO):Prop:=∀g cs,(g,cs)∈gl->∃o,R g=some o/\zkM o=some cs/\cs.all one=true
inductive RepPs (R:RO) (e:DEnv):List (Nat×SV)->List (Nat×CV)->Prop
 |nil:RepPs R e [] []
 |cons {i v x vs xs}:Rep R e v x->RepPs R e vs xs->RepPs R e ((i,v)::vs) ((i,x)::xs)
inductive RepOp (R:RO) (e:DEnv):Option SV->Option CV->Prop
 |none:RepOp R e none none
 |some {v x}:Rep R e v x->RepOp R e (some v) (some x)
section
variable{c:DCfg}{R:RO}{e:DEnv}{T:List SV}{t:Tmps}
theorem zcZ:∀(l:List SV) (i:Nat),zer l i=l.getD i .junk
 |[],_=>rfl
 |_::_,0=>rfl
 |_::xs,n+1=>by rw[zer,zcZ xs n];rfl
theorem znu{e:DEnv}:∀(x:CV),Rep R e (zyN x) x
 |.fn f a b=>by
  cases a with
  |nil=>cases b with
   |nil=>exact .fn .nil .nil
   |cons _ _=>exact .junk
  |cons _ _=>exact .junk
 |.bool _=>.cv rfl
 |.int _ _=>.cv rfl
 |.str _=>.cv rfl
 |.yld _=>.cv rfl
 |.nilp=>.cv rfl
 |.nils=>.cv rfl
 |.nilf=>.cv rfl
 |.nilm=>.cv rfl
 |.nili=>.cv rfl
 |.ptr _ _=>.junk
 |.slc _ _ _ _=>.junk
 |.opn _ _ _=>.junk
 |.emp _ _ _=>.junk
 |.map _=>.junk
 |.ifc _ _=>.junk
 |.agg _=>.junk
 |.tup _=>.junk
 |.res _ _ _ _=>.junk
 |.void _=>.junk
theorem zdV{e:DEnv}:∀(l:List CV),RepL R e (svL l) l
 |[]=>.nil
 |x::xs=>.cons (znu x) (zdV xs)
theorem zdT{e:DEnv}(x:CV):Rep R e (zuR x) x:=by
 cases x with
 |agg cs=>exact .agg (zdV cs)
 |tup cs=>cases cs with
  |nil=>exact .tup .nil
  |cons _ _=>exact .junk
 |fn f a b=>exact znu (.fn f a b)
 |_=>first |exact Rep.junk |exact Rep.cv rfl
theorem zgB:∀(l:List CV),(svL l).length=l.length
 |[]=>rfl
 |_::xs=>by simp[svL,zgB xs]
theorem zw9{gl:List (Nat×List CV)}{g:Nat}(h:GlbOk gl R):zlq g gl=.junk\/Rep R e (zlq g gl) (.ptr g 0):=by
 induction gl with
 |nil=>exact .inl rfl
 |cons p r ih=>
  obtain⟨i,cs⟩:=p;simp only[zlq,zeY];split
  ·rename_i hq;simp at hq;subst hq;obtain⟨o,h1,h2,h0⟩:=h i cs (ya5 ..);refine .inr ?_;have:Rep R e (.ipt (svL cs) 0) (.ptr i (0+0)):=.ipt h1 h2 (by rw[zgB];omega) h0 (by
    rw[zgB];unfold seg;simp only[List.drop_zero,List.take_length];exact zdV cs)
   exact this
  ·exact ih fun g cs hm=>h g cs (ya4 _ hm)
theorem zad(hg:GlbOk c.glb R)(h:TSat R e T t){x:Operand}{k:SV->Prop}(hx:za1 c T x k):∃v y,evO t x=some y/\Rep R e v y/\k v:=by
 obtain⟨h1,h2⟩:=zdk hx;refine⟨evD c T x,?_⟩;cases x with
 |tmp i=>
  change zer T i≠.junk at h1
  rw[zcZ,ya8]at h1;cases hT:T[i]? with
  |none=>rw[hT]at h1;exact absurd rfl h1
  |some v=>
   rw[hT]at h1;rcases h.get i v hT with rfl |⟨y,h3,h4⟩
   ·exact absurd rfl h1
   ·refine⟨y,h3,?_,h2⟩;show Rep R e (zer T i) y;rw[zcZ,ya8,hT];exact h4
 |const u=>
  show ∃y,ofV u=some y/\_;cases hu:ofV u with
  |none=>exact absurd (show evD c T (.const u)=.junk by simp[evD,hu]) h1
  |some y=>
   refine⟨y,rfl,?_,h2⟩;show Rep R e (match ofV u with |some x=>zuR x |none=>.junk) y;rw[hu];exact zdT y
 |global g=>
  have h0:evD c T (.global g)=(match Nat.blt g 64 with |true=>zlq g c.glb |false=>.junk):=rfl;cases hb:Nat.blt g 64 with
  |false=>rw[h0,hb]at h1;exact absurd rfl h1
  |true=>
   rw[h0,hb]at h1 ⊢;refine⟨.ptr g 0,?_,(zw9 hg).resolve_left h1,by rw[h0,hb]at h2;exact h2⟩;show Bool.rec (motive:=fun _=>Option CV) none (some (.ptr g 0)) (Nat.blt g 64)=_;rw[hb]
 |func f=>exact⟨.fn f [] [],rfl,.fn .nil .nil,h2⟩
theorem zbL(hg:GlbOk c.glb R)(h:TSat R e T t):∀{l:List Operand} {k:List SV->Prop},ze7 c T l k->∃vs ys,evL t l=some ys/\RepL R e vs ys/\k vs
 |[],k,hk=>⟨[],[],rfl,.nil,hk⟩
 |x::xs,k,hk=>by
  obtain⟨v,y,h1,h2,hk⟩:=zad hg h hk;obtain⟨vs,ys,h3,h4,hk⟩:=zbL hg h hk;exact⟨v::vs,y::ys,by simp[evL,h1,h3],.cons h2 h4,hk⟩
theorem zgi(hg:GlbOk c.glb R)(h:TSat R e T t):∀{l:List (Nat×Operand)} {k:List (Nat×SV)->Prop},zs4 c T l k->∃vs ys,evP t l=some ys/\RepPs R e vs ys/\k vs
 |[],k,hk=>⟨[],[],rfl,.nil,hk⟩
 |(i,x)::xs,k,hk=>by
  obtain⟨v,y,h1,h2,hk⟩:=zad hg h hk;obtain⟨vs,ys,h3,h4,hk⟩:=zgi hg h hk;exact⟨(i,v)::vs,(i,y)::ys,by simp[evP,h1,h3],.cons h2 h4,hk⟩
theorem zf6(hg:GlbOk c.glb R)(h:TSat R e T t){x:Option Operand}{k:Option SV->Prop}(hk:zoK c T x k):∃v y,zfE t x=some y/\RepOp R e v y/\k v:=by
 cases x with
 |none=>exact⟨none,none,rfl,.none,hk⟩
 |some x=>
  obtain⟨v,y,h1,h2,hk⟩:=zad hg h hk;exact⟨some v,some y,by simp[zfE,h1],.some h2,hk⟩
end
def zjc:SV->Option (List SV)
 |.agg cs=>some cs
 |.tup _=>none
 |.junk=>none
 |v=>some [v]
def zyS:SV->Bool
 |.agg _=>false
 |.tup _=>false
 |.junk=>false
 |_=>true
def ziO:List SV->Bool
 |[]=>true
 |v::vs=>match zyS v with
  |true=>ziO vs
  |false=>false
def zcb{A:Type}:List A->Nat
 |[]=>0
 |_::r=>Nat.succ (zcb r)
theorem zaw{A:Type}:∀(l:List A),zcb l=l.length
 |[]=>rfl
 |_::r=>by simp[zcb,zaw r]
def zcW{A:Type}:List A->Nat->A->(List A->Prop)->Prop
 |[],_,_,k=>k []
 |_::xs,0,v,k=>k (v::xs)
 |x::xs,n+1,v,k=>zcW xs n v fun r=>k (x::r)
theorem zaz{A:Type}:∀(l:List A) (n:Nat) (v:A) (k:List A->Prop),zcW l n v k=k (l.set n v)
 |[],_,_,_=>rfl
 |_::_,0,_,_=>rfl
 |x::xs,n+1,v,k=>by rw[zcW,zaz xs n v];rfl
def wrS:List SV->Nat->List SV->List SV
 |cs,_,[]=>cs
 |cs,off,v::vs=>wrS (cs.set off v) (off+1) vs
def zy4:List SV->Nat->List SV->(List SV->Prop)->Prop
 |cs,_,[],k=>k cs
 |cs,off,v::vs,k=>zcW cs off v fun cs=>zy4 cs (off+1) vs k
theorem zgY:∀(vs cs:List SV) (off:Nat) (k:List SV->Prop),zy4 cs off vs k=k (wrS cs off vs)
 |[],_,_,_=>rfl
 |v::vs,cs,off,k=>by rw[zy4,zaz,zgY vs];rfl
def zqC:List SV->Nat->(List SV->Prop)->Prop
 |_,0,k=>k []
 |[],_+1,k=>k []
 |x::xs,n+1,k=>zqC xs n fun l=>k (x::l)
theorem zmw:∀(l:List SV) (n:Nat) (k:List SV->Prop),zqC l n k=k (l.take n)
 |[],0,_=>rfl
 |_::_,0,_=>rfl
 |[],_+1,_=>rfl
 |x::xs,n+1,k=>by rw[zqC,zmw xs n];rfl
def zp8:List SV->Nat->(List SV->Prop)->Prop
 |l,0,k=>k l
 |[],_+1,k=>k []
 |_::xs,n+1,k=>zp8 xs n k
theorem znJ:∀(l:List SV) (n:Nat) (k:List SV->Prop),zp8 l n k=k (l.drop n)
 |[],0,_=>rfl
 |_::_,0,_=>rfl
 |[],_+1,_=>rfl
 |x::xs,n+1,k=>by rw[zp8,znJ xs n];rfl
def zBu(l:List SV)(off n:Nat)(k:List SV->Prop):Prop:=zp8 l off fun l=>zqC l n k
theorem zxn(l:List SV)(off n:Nat)(k:List SV->Prop):zBu l off n k=k ((l.drop off).take n):=by
 unfold zBu;rw[znJ,zmw]
noncomputable def zme(P:Program)(ty:TypeId)(cs:List SV)(off:Nat)(k:SV->Prop):Prop:=match zeq P ty with
 |some none=>knK (zer cs off) k
 |some (some n)=>match Nat.ble (off+n) (zcb cs) with
  |true=>zBu cs off n fun l=>k (.agg l)
  |false=>False
 |none=>False
noncomputable def zrn(place:Nat->Option (Nat×Nat))(cells:List SV):List (Nat×SV)->(List SV->Prop)->Prop
 |[],k=>k cells
 |(i,v)::rest,k=>match place i,zjc v with
  |some (off,size),some vs=>match Nat.beq (zcb vs) size&&Nat.ble (off+zcb vs) (zcb cells) with
   |true=>zy4 cells off vs fun cells=>zrn place cells rest k
   |false=>False
  |_,_=>False
section
variable{R:RO}{e:DEnv}
theorem Rep.cells{v:SV}{x:CV}{vs:List SV}(h:Rep R e v x)(hv:zjc v=some vs):∃ys,zfp x=some ys/\RepL R e vs ys:=by
 cases h<;>simp only[zjc,ya0,reduceCtorEq]at hv<;>subst hv
 case cv h=>cases x<;>simp[zn9]at h<;>exact⟨_,rfl,.cons (.cv rfl) .nil⟩
 case agg h=>exact⟨_,rfl,h⟩
 case ptr h=>exact⟨_,rfl,.cons (.ptr h) .nil⟩
 case eptS h=>exact⟨_,rfl,.cons (.eptS h) .nil⟩
 case eptO h=>exact⟨_,rfl,.cons (.eptO h) .nil⟩
 case lstN h=>exact⟨_,rfl,.cons (.lstN h) .nil⟩
 case lstV h=>exact⟨_,rfl,.cons (.lstV h) .nil⟩
 case lstS h=>exact⟨_,rfl,.cons (.lstS h) .nil⟩
 case lstE h=>exact⟨_,rfl,.cons (.lstE h) .nil⟩
 case lstO h=>exact⟨_,rfl,.cons (.lstO h) .nil⟩
 case sub h=>exact⟨_,rfl,.cons (.sub h) .nil⟩
 case islN=>exact⟨_,rfl,.cons .islN .nil⟩
 case islV=>exact⟨_,rfl,.cons .islV .nil⟩
 case islE=>exact⟨_,rfl,.cons .islE .nil⟩
 case islS h1 h2 h3 h4 h0 h5=>exact⟨_,rfl,.cons (.islS h1 h2 h3 h4 h0 h5) .nil⟩
 case islO h1 h2 h0 h3=>exact⟨_,rfl,.cons (.islO h1 h2 h0 h3) .nil⟩
 case islx h=>exact⟨_,by cases h<;>rfl,.cons (.islx h) .nil⟩
 case ipt h1 h2 h3 h0 h4=>exact⟨_,rfl,.cons (.ipt h1 h2 h3 h0 h4) .nil⟩
 case empN=>exact⟨_,rfl,.cons .empN .nil⟩
 case empV=>exact⟨_,rfl,.cons .empV .nil⟩
 case empS h=>exact⟨_,rfl,.cons (.empS h) .nil⟩
 case fn ha hb=>exact⟨_,rfl,.cons (.fn ha hb) .nil⟩
 case map h=>exact⟨_,rfl,.cons (.map h) .nil⟩
 case ifc h=>exact⟨_,rfl,.cons (.ifc h) .nil⟩
theorem Rep.one{v:SV}{x:CV}(h:Rep R e v x)(hv:zyS v=true):one x=true:=by
 cases h<;>simp[zyS]at hv
 case cv h=>cases x<;>simp[zn9]at h<;>rfl
 case islx h=>cases h<;>rfl
 all_goals rfl
theorem RepL.all{vs:List SV}{xs:List CV}(h:RepL R e vs xs)(hv:ziO vs=true):xs.all Go.Cx.one=true:=by
 induction vs generalizing xs with
 |nil=>cases h;rfl
 |cons v vs ih=>
  cases h with
  |cons h hs=>
   unfold ziO at hv;split at hv
   ·rename_i ho;rw[List.all_cons,h.one ho,ih hs hv];rfl
   ·cases hv
theorem RepL.wr:∀{us vs:List SV} {xs ys:List CV} {off:Nat},RepL R e vs xs->RepL R e us ys->RepL R e (wrS vs off us) (zaA xs off ys)
 |_,_,_,_,_,h,.nil=>h
 |_,_,_,_,off,h,.cons hv hs=>by
  have h1:=RepL.set off h hv;have h2:=RepL.wr (off:=off+1) h1 hs;exact h2
theorem RepL.seg{vs:List SV}{xs:List CV}(h:RepL R e vs xs)(off n:Nat):RepL R e ((vs.drop off).take n) ((xs.drop off).take n):=(h.drop off).take n
theorem RepL.nth{vs:List SV}{xs:List CV}{i:Nat}(h:RepL R e vs xs)(hi:zer vs i≠.junk):∃x,Go.Cx.nth xs i=some x/\Rep R e (zer vs i) x:=by
 rw[zcZ,ya8]at hi ⊢;cases hv:vs[i]? with
 |none=>rw[hv]at hi;exact absurd rfl hi
 |some v=>
  obtain⟨x,h1,h2⟩:=h.get hv;exact⟨x,by rw[zbV,h1],h2⟩
theorem zdZ{P:Program}{ty:TypeId}{vs:List SV}{xs:List CV}{off:Nat}{k:SV->Prop}(h:RepL R e vs xs)(hk:zme P ty vs off k):∃v x,part P ty xs off=some x/\Rep R e v x/\k v:=by
 unfold zme at hk;split at hk
 ·rename_i ha;obtain⟨h1,h2⟩:=zdk hk;obtain⟨x,h3,h4⟩:=h.nth h1;exact⟨_,x,by unfold part;rw[ha];exact h3,h4,h2⟩
 ·rename_i n ha;split at hk
  ·rename_i hb;rw[zxn]at hk;have hb':=ya9 hb;rw[zaw,h.length]at hb';refine⟨_,.agg ((xs.drop off).take n),?_,.agg (h.seg off n),hk⟩;unfold part;rw[ha];simp only[zep,yb1 hb']
  ·exact hk.elim
 ·exact hk.elim
theorem zfX{place:Nat->Option (Nat×Nat)}:∀{ps:List (Nat×SV)} {qs:List (Nat×CV)} {vs:List SV} {xs:List CV} {k:List SV->Prop},RepL R e vs xs->RepPs R e ps qs->zrn place vs ps k->∃vs' xs',zhy place xs qs=some xs'/\RepL R e vs' xs'/\k vs'
 |_,_,vs,xs,k,h,.nil,hk=>⟨vs,xs,rfl,h,hk⟩
 |_,_,vs,xs,k,h,.cons (i:=i) hv hs,hk=>by
  unfold zrn at hk;split at hk
  ·rename_i off size ws hp hc;split at hk
   ·rename_i hb;rw[zgY]at hk;obtain⟨ys,h1,h2⟩:=hv.cells hc;rw[zaw,zaw,h2.length,h.length]at hb;obtain⟨vs',xs',h3,h4,h5⟩:=zfX (h.wr (off:=off) h2) hs hk;exact⟨vs',xs',by unfold zhy;simp only[hp,h1,hb];exact h3,h4,h5⟩
   ·exact hk.elim
  ·exact hk.elim
end
def zzp(n:Nat)(k:Nat->Prop):Prop:=match n with
 |0=>k 0 |1=>k 1 |2=>k 2 |3=>k 3 |4=>k 4 |5=>k 5 |6=>k 6 |7=>k 7 |8=>k 8 |9=>k 9 |10=>k 10 |11=>k 11 |12=>k 12 |13=>k 13 |14=>k 14 |15=>k 15 |16=>k 16 |17=>k 17 |18=>k 18 |19=>k 19 |20=>k 20
 |n=>k n
theorem zoS(n:Nat)(k:Nat->Prop):zzp n k=k n:=by unfold zzp;split<;>rfl
def zuy:List SObj->SObj->(List SObj->Prop)->Prop
 |[],so,k=>k [so]
 |x::xs,so,k=>zuy xs so fun l=>k (x::l)
theorem zli:∀(l:List SObj) (so:SObj) (k:List SObj->Prop),zuy l so k=k (l++[so])
 |[],_,_=>rfl
 |x::xs,so,k=>by rw[zuy,zli xs so];rfl
def zrR(O:List SObj)(so:SObj)(k:Nat->List SObj->Prop):Prop:=zzp (zcb O) fun n=>zuy O so fun O=>k n O
theorem zbO(O:List SObj)(so:SObj)(k:Nat->List SObj->Prop):zrR O so k=k O.length (O++[so]):=by
 unfold zrR;rw[zoS,zli,zaw]
def zbG:List SObj->Nat->SObj
 |[],_=>.dead
 |x::_,0=>x
 |_::xs,n+1=>zbG xs n
theorem zdL:∀(l:List SObj) (i:Nat),zbG l i=l.getD i .dead
 |[],_=>rfl
 |_::_,0=>rfl
 |_::xs,n+1=>by rw[zbG,zdL xs n];rfl
theorem zaB{l:List SObj}{i:Nat}{so:SObj}(h:zbG l i=so)(hn:so≠.dead):l[i]? = some so:=by
 rw[zdL,ya8]at h;cases hl:l[i]? with
 |none=>rw[hl]at h;exact absurd h.symm hn
 |some x=>rw[hl]at h;simp at h;rw[h]
abbrev DK:=SV->List SV->List SObj->Prop
structure Gone(G:Ctx)(R:RO)(e:DEnv)(t:Tmps)(K:DK)(x:CV)(m:Mem):Prop where
 ex:∃R' e' v T O,R.le R'/\(∀o u,e o=some (PM.c u)->e' o=some (PM.c u))/\Rep R' e' v x/\TSat R' e' T t/\MSat G R' e' O m/\K v T O
inductive OpRes (P:Program) (X:Ext) (op:Op) (m:Mem) (t:Tmps) (x:CV):Mem->Prop
 |val:cop P op m t=.val x->OpRes P X op m t x m
 |mem {m'}:cop P op m t=.mem x m'->OpRes P X op m t x m'
 |call {f args m'}:cop P op m t=.call f args->Ev P X (.call f args m) (.ret x m')->OpRes P X op m t x m'
theorem OpRes.after{P:Program}{X:Ext}{op:Op}{m m':Mem}{t:Tmps}{x:CV}(h:OpRes P X op m t x m'):Evt P X (fun ih=>∀r k dst ds,Go.Cx.after ih r k dst t ds m (cop P op m t)=zmV k dst x t ds m'):=by
 cases h with
 |val h=>exact .all fun ih r k dst ds=>by rw[h];rfl
 |mem h=>exact .all fun ih r k dst ds=>by rw[h];rfl
 |call h1 h2=>exact h2.mono fun ih he r k dst ds=>by rw[h1];simp only[Go.Cx.after,he,zlD]
def zte(P:Program)(X:Ext)(G:Ctx)(R:RO)(e:DEnv)(op:Op)(m:Mem)(t:Tmps)(K:DK):Prop:=
 ∃x m',OpRes P X op m t x m'/\Gone G R e t K x m'
section
variable{P:Program}{X:Ext}{G:Ctx}{R:RO}{e:DEnv}{op:Op}{m:Mem}{t:Tmps}{K:DK}{T:List SV}{O:List SObj}
theorem zay{x:CV}{v:SV}(h:cop P op m t=.val x)(hv:Rep R e v x)(hT:TSat R e T t)(hM:MSat G R e O m)(hk:K v T O):zte P X G R e op m t K:=
 ⟨x,m,.val h,R,e,v,T,O,RO.le.refl R,fun _ _ h=>h,hv,hT,hM,hk⟩
theorem zbd{x:CV}{m':Mem}(h:cop P op m t=.mem x m')(hg:Gone G R e t K x m'):zte P X G R e op m t K:=
 ⟨x,m',.mem h,hg⟩
theorem zkk{x:CV}(h:cop P op m t=.val x)(hg:Gone G R e t K x m):zte P X G R e op m t K:=
 ⟨x,m,.val h,hg⟩
theorem zgt{co:CO}{m':Mem}{x y:CV}{v:SV}{so:SObj}(hM:MSat G R e O m)(hT:TSat R e T t)(hn:New m m.nxt co m')(hx:tg x=some m.nxt)(hrec:zcG co=false)(hne:so≠.dead)
  (hor:∀e',e.le e'->OR R e' m' x so) (hv:∀e',e' O.length=some x->Rep R e' v y) (hp:∀o u,e o=some (PM.c u)->True) (hk:K v T (O++[so])):Gone G R e t K y m':=by
 obtain⟨h1,h2⟩:=hM.new hn hx hrec hne hor;exact⟨R,_,v,T,_,RO.le.refl R,fun o u h=>h1 _ _ h,hv _ (DEnv.put_self ..),hT.mono (RO.le.refl R) h1,h2,hk⟩
end
end Go.Cx
namespace Go.Cx
open Go
theorem zdO{l:List CV}{a n b k:Nat}(h:b+k<=n):seg (seg l a n) b k=seg l (a+b) k:=by
 unfold seg;rw[List.drop_take,List.take_take,List.drop_drop,Nat.min_eq_left (by omega)]
theorem zbh{l:List CV}{a n:Nat}(h:a+n<=l.length):(seg l a n).length=n:=by
 unfold seg;rw[List.length_take,List.length_drop];omega
theorem zi9{l:List CV}{a n:Nat}(h:a+n<=l.length):zep l a n=some (seg l a n):=by
 unfold zep;rw[yb1 h];rfl
theorem zgI{l:List CV}(h:l.all one=true)(a n:Nat):(seg l a n).all one=true:=by
 rw[yd1]at *;exact fun x hx=>h x (List.mem_of_mem_drop (List.mem_of_mem_take hx))
theorem zcC{i n sz:Nat}(h:i<n):i*sz+sz<=n*sz:=by
 have:=yd2 sz (show i+1<=n by omega);rw[Nat.add_mul,Nat.one_mul]at this;exact this
def zhG(sz:Nat)(O:List SObj):SV->Option (Nat×(Nat->List SV))
 |.cv .nils=>some (0,fun _=>[])
 |.emp=>some (0,fun _=>[])
 |.isl s n el=>match Nat.beq s sz with
  |true=>some (n,el)
  |false=>none
 |.islx s n el=>match Nat.beq s sz with
  |true=>some (n,el)
  |false=>none
 |.lst o=>match zbG O o with
  |.list _ s n el=>match Nat.beq s sz with
   |true=>some (n,el)
   |false=>none
  |_=>none
 |_=>none
section
variable{P:Program}{X:Ext}{G:Ctx}{R:RO}{e:DEnv}{op:Op}{m:Mem}{t:Tmps}{K:DK}{T:List SV}{O:List SObj}
theorem zdu{tt:Nat}{o:CO}{cs:List CV}{off n c sz:Nat}(hg:m.get tt=some o)(hr:zkM o=some cs)(hl:off+n*sz<=cs.length):elems m sz (.slc tt off n c)=some (n,seg cs off (n*sz)):=by
 have ht:=zi9 hl;unfold elems;cases o<;>simp[zkM]at hr<;>subst hr<;>simp only[hg,ht]
theorem zjg{tt:Nat}{ty:TypeId}{cs:List CV}{k n sz:Nat}(hg:m.get tt=some (.opn ty sz cs))(hl:(k+n)*sz<=cs.length):elems m sz (.opn tt k n)=some (n,seg cs (k*sz) (n*sz)):=by
 have ht:=zi9 (l:=cs) (a:=k*sz) (n:=n*sz) (by rw[<- Nat.add_mul];exact hl);unfold elems;simp only[hg,ht,show Nat.beq sz sz=true from Nat.beq_refl sz]
theorem zw8{sz n:Nat}{v:SV}{x:CV}{el:Nat->List SV}(hM:MSat G R e O m)(hv:Rep R e v x)(h:zhG sz O v=some (n,el)):
  ∃l,elems m sz x=some (n,l)/\l.length=n*sz/\l.all one=true/\∀i,i<n->RepL R noE (el i) (seg l (i*sz) sz):=by
 have zero:∀{y:CV} {l:List CV},elems m sz y=some (0,l)->l=[]->∃l,elems m sz y=some (0,l)/\l.length=0*sz/\l.all one=true/\∀i,i<0->RepL R noE (el i) (seg l (i*sz) sz):=fun h hl=>⟨_,h,by rw[hl];simp,by rw[hl];rfl,fun i hi=>by omega⟩
 have slc0:∀{tt off c:Nat},(∃o cs,R tt=some o/\zkM o=some cs/\off<=cs.length)->elems m sz (.slc tt off 0 c)=some (0,[]):=by
  rintro tt off c ⟨o,cs,h1,h2,h3⟩;have:=zdu (m:=m) (c:=c) (n:=0) (sz:=sz) (hM.sk.ro _ _ h1) h2 (by simpa using h3);rw[this];simp[seg]
 have own:∀{o:Nat} {ty:TypeId},e o=some x->zbG O o=.list ty sz n el->∃l,elems m sz x=some (n,l)/\l.length=n*sz/\l.all one=true/\∀i,i<n->RepL R noE (el i) (seg l (i*sz) sz):=by
  intro o ty hx ho;rcases hM.ob o _ (zaB ho (by simp))with h0 |⟨y,hy,hor⟩
  ·cases h0
  ·rw[hx]at hy;cases hy;rcases hor with⟨hq0 |⟨t',off,o',cs,hq0,h1,h2,h3,h4⟩,rfl⟩ |⟨t',c,xs,rfl,h0,h1,h2,h3,ha,h4⟩ |⟨t',xs,rfl,h2,h3,ha,h4⟩
   ·rcases zd4 hq0 with h |⟨a,h⟩
    ·subst h;exact zero rfl rfl
    ·subst h;exact zero rfl rfl
   ·subst hq0;exact zero (slc0 ⟨o',cs,h1,h2,h3⟩) rfl
   ·have hl:0+n*sz<=xs.length:=by rw[<- h3];have:=yd2 sz h1;omega
    refine⟨_,zdu h2 rfl hl,zbh hl,zgI ha _ _,fun i hi=>?_⟩;rw[zdO (zcC hi),Nat.zero_add];exact h4 i hi
   ·have hl:(0+n)*sz<=xs.length:=by rw[Nat.zero_add];exact h3
    refine⟨_,zjg h2 hl,zbh (by rw[Nat.zero_mul,Nat.zero_add];exact h3),zgI ha _ _,fun i hi=>?_⟩;rw[zdO (zcC hi),Nat.zero_mul,Nat.zero_add];exact h4 i hi
 have lst:∀{o:Nat},e o=some x->zhG sz O (.lst o)=some (n,el)->∃l,elems m sz x=some (n,l)/\l.length=n*sz/\l.all one=true/\∀i,i<n->RepL R noE (el i) (seg l (i*sz) sz):=by
  intro o hx h;have h':(match zbG O o with
   |.list _ s n el=>(match Nat.beq s sz with
    |true=>some (n,el)
    |false=>none)
   |_=>none)=some (n,el):=h
  cases hO:zbG O o with
  |dead=>rw[hO]at h';cases h'
  |cells _ _=>rw[hO]at h';cases h'
  |map _ _ _=>rw[hO]at h';cases h'
  |list ty s n' el'=>
   rw[hO]at h';by_cases hq:s=sz
   ·subst hq;have h2:(match Nat.beq s s with |true=>some (n',el') |false=>none)=some (n,el):=h';rw[Nat.beq_refl]at h2;cases h2;exact own hx hO
   ·have h2:(match Nat.beq s sz with |true=>some (n',el') |false=>none)=some (n,el):=h';rw[zmh hq]at h2;cases h2
 have isl:∀{s k:Nat} {el':Nat->List SV},Rep R e (.isl s k el') x->zhG sz O (.isl s k el')=some (n,el)->∃l,elems m sz x=some (n,l)/\l.length=n*sz/\l.all one=true/\∀i,i<n->RepL R noE (el i) (seg l (i*sz) sz):=by
  intro s k el' hv h;have h':(match Nat.beq s sz with
    |true=>some (k,el')
    |false=>none)=some (n,el):=h
  by_cases hq:s=sz
  ·subst hq;rw[Nat.beq_refl]at h';cases h';cases hv with
   |islN=>exact zero rfl rfl
   |islV=>exact zero rfl rfl
   |islS h1 h2 h3 h4 h0 h5=>
    refine⟨_,zdu (hM.sk.ro _ _ h1) h2 h3,zbh h3,zgI h0 _ _,fun i hi=>?_⟩;rw[zdO (zcC hi)];exact h5 i hi
   |islO h1 h2 h0 h3=>
    refine⟨_,zjg (hM.sk.ro _ _ h1) h2,zbh (by rw[<- Nat.add_mul];exact h2),zgI h0 _ _,fun i hi=>?_⟩;rw[zdO (zcC hi),<- Nat.add_mul];exact h3 i hi
  ·rw[zmh hq]at h';cases h'
 cases hv with
 |cv hf=>cases x<;>simp[zhG]at h<;>(obtain⟨rfl,rfl⟩:=h;exact zero rfl rfl)
 |empN=>simp[zhG]at h;obtain⟨rfl,rfl⟩:=h;exact zero rfl rfl
 |empV=>simp[zhG]at h;obtain⟨rfl,rfl⟩:=h;exact zero rfl rfl
 |empS hh=>simp[zhG]at h;obtain⟨rfl,rfl⟩:=h;obtain⟨o,cs,h1,h2,h3,h4⟩:=hh;exact zero (slc0 ⟨o,cs,h1,h2,h3⟩) rfl
 |islN=>exact isl .islN h
 |islV=>exact isl .islV h
 |islS h1 h2 h3 h4 h0 h5=>exact isl (.islS h1 h2 h3 h4 h0 h5) h
 |islO h1 h2 h0 h3=>exact isl (.islO h1 h2 h0 h3) h
 |islE=>
  simp only[zhG,zeY]at h;split at h<;>simp at h;obtain⟨rfl,rfl⟩:=h;exact zero rfl rfl
 |islx hh=>exact isl hh (by simpa only[zhG]using h)
 |lstN hx=>exact lst hx h
 |lstV hx=>exact lst hx h
 |lstS hx=>exact lst hx h
 |lstE hx=>exact lst hx h
 |lstO hx=>exact lst hx h
 |_=>simp[zhG]at h
end
def cvK(x:CV)(k:SV->Prop):Prop:=match x with
 |.int a b=>k (.cv (.int a b))
 |.str s=>k (.cv (.str s))
 |.bool b=>k (.cv (.bool b))
 |_=>False
theorem zqE{R:RO}{e:DEnv}{x:CV}{k:SV->Prop}(h:cvK x k):Rep R e (.cv x) x/\k (.cv x):=by
 unfold cvK at h;split at h<;>first |exact h.elim |exact⟨.cv rfl,h⟩
noncomputable def zAz(P:Program)(eq:TypeId->SV->SV->(Bool->Prop)->Prop)(xs ys:List SV):List Field->(Bool->Prop)->Prop
 |[],k=>k true
 |f::fs,k=>match f.name == "_" with
  |true=>False
  |false=>zme P f.type xs f.offset fun a=>zme P f.type ys f.offset fun b=>eq f.type a b fun p=>match fs with
   |[]=>k p
   |g::gs=>zAz P eq xs ys (g::gs) fun q=>k (p&&q)
structure StoodNo(P:Program)(t:TypeId):Prop where
 no:P.stoodInHeld t=false
noncomputable def zyR(P:Program):Nat->TypeId->SV->SV->(Bool->Prop)->Prop
 |0,_,_,_,_=>False
 |d+1,t,x,y,k=>match P.underlying t with
  |some (.int _)=>match x,y with
   |.cv (.int a b),.cv (.int a' b')=>match kEq a a' with
    |true=>k (b==b')
    |false=>False
   |_,_=>False
  |some .string=>match x,y with
   |.cv (.str a),.cv (.str b)=>k (zbE a b)
   |_,_=>False
  |some .bool=>match x,y with
   |.cv (.bool a),.cv (.bool b)=>k (a==b)
   |_,_=>False
  |some (.struct fs)=>match x,y with
   |.agg xs,.agg ys=>StoodNo P t/\zAz P (zyR P d) xs ys fs.toList k
   |_,_=>False
  |_=>False
section
variable{P:Program}{R:RO}{e:DEnv}
theorem zpi:∀(d:Nat) {ty:TypeId} {v w:SV} {x y:CV} {k:Bool->Prop},Rep R e v x->Rep R e w y->zyR P d ty v w k->∃b,ceq P d ty x y=some b/\k b
 |0,_,_,_,_,_,_,_,_,h=>h.elim
 |d+1,ty,v,w,x,y,k,hv,hw,h=>by
  have fld:∀(fs:List Field) {xs ys:List SV} {us ws:List CV} {k:Bool->Prop},RepL R e xs us->RepL R e ys ws->zAz P (zyR P d) xs ys fs k->∃b,zxf P (ceq P d) us ws fs=some b/\k b:=by
   intro fs
   induction fs with
   |nil=>intro xs ys us ws k _ _ h;exact⟨true,rfl,h⟩
   |cons f fs ih=>
    intro xs ys us ws k hx hy h;unfold zAz at h;split at h
    ·exact h.elim
    ·rename_i hn;obtain⟨a,a',h1,h2,h⟩:=zdZ hx h;obtain⟨b,b',h3,h4,h⟩:=zdZ hy h;obtain⟨p,h5,h⟩:=zpi d h2 h4 h;unfold zxf;simp only[hn,h1,h3,h5];cases fs with
     |nil=>
      refine⟨p,?_,h⟩;cases p<;>simp[zxf]
     |cons g gs=>
      obtain⟨q,h6,h⟩:=ih hx hy h;refine⟨p&&q,?_,h⟩;cases p<;>simp[h6]
  unfold zyR at h;unfold ceq;split at h
  ·rename_i hu;split at h
   ·split at h
    ·rename_i hk;cases hv;cases hw;refine⟨_,?_,h⟩;simp only[hu,znP,hk,zcp]
    ·exact h.elim
   ·exact h.elim
  ·rename_i hu;split at h
   ·cases hv;cases hw;exact⟨_,by simp only[hu,zne],h⟩
   ·exact h.elim
  ·rename_i hu;split at h
   ·rename_i a b;cases hv;cases hw;refine⟨_,?_,h⟩;simp only[hu,ziu];cases a<;>cases b<;>rfl
   ·exact h.elim
  ·rename_i fs hu;split at h
   ·obtain⟨⟨hs⟩,h⟩:=h;cases hv with
    |agg hv=>cases hw with
     |agg hw=>
      obtain⟨b,h1,h2⟩:=fld _ hv hw h;exact⟨b,by simp only[hu,zgh,hs];exact h1,h2⟩
   ·exact h.elim
  ·exact h.elim
end
noncomputable def zAu(P:Program)(c:DCfg)(lit:Bool)(op:BinOp)(ty:TypeId)(x y:SV)(K:SV->Prop):Prop:=
 match x with
 |.cv a=>match y with
  |.cv b=>match a with
   |.str p=>match b with
    |.str q=>match op with
     |.add=>p.length+q.length<=1000000/\K (.cv (.str (p++q)))
     |.eql=>K (.cv (.bool (zbE p q)))
     |.neq=>K (.cv (.bool (!(zbE p q))))
     |.lss=>K (.cv (.bool (ltL p q)))
     |.leq=>K (.cv (.bool (ltL p q||zbE p q)))
     |.gtr=>K (.cv (.bool (!(ltL p q||zbE p q))))
     |.geq=>K (.cv (.bool (!ltL p q)))
     |_=>False
    |_=>False
   |.int k p=>match b with
    |.int k' q=>zAL { wrap:=c.wrap } op k k' p q fun v=>cvK v K
    |_=>False
   |a=>zBP P { wrap:=c.wrap } lit op ty a b fun v=>cvK v K
  |_=>False
 |.agg xs=>match y with
  |.agg ys=>ClosedB (!P.eqGuardType P.depth ty)/\(match op with
   |.eql=>zyR P 40 ty (.agg xs) (.agg ys) fun b=>K (.cv (.bool b))
   |.neq=>zyR P 40 ty (.agg xs) (.agg ys) fun b=>K (.cv (.bool (!b)))
   |_=>False)
  |_=>False
 |.isl _ n _=>match y with
  |.cv b=>match b with
   |.nils=>match P.underlying ty with
    |some u=>match u with
     |.slice _=>match op with
      |.eql=>(n=0->K (.cv (.bool true)))/\K (.cv (.bool false))
      |.neq=>(n=0->K (.cv (.bool false)))/\K (.cv (.bool true))
      |_=>False
     |_=>False
    |none=>False
   |_=>False
  |_=>False
 |.ptr p off=>match P.underlying ty with
  |some u=>match u with
   |.pointer el=>match y with
    |.cv b=>match b with
     |.nilp=>match op with
      |.eql=>K (.cv (.bool false))
      |.neq=>K (.cv (.bool true))
      |_=>False
     |_=>False
    |.ptr q off'=>match Nat.beq p q&&Nat.beq off off' with
     |true=>match P.info? el with
      |some _=>match op with
       |.eql=>K (.cv (.bool true))
       |.neq=>K (.cv (.bool false))
       |_=>False
      |none=>False
     |false=>False
    |_=>False
   |_=>False
  |none=>False
 |.ifc _ _=>match y with
  |.cv b=>match b with
   |.nili=>match P.underlying ty with
    |some u=>match u with
     |.interface _=>match op with
      |.eql=>K (.cv (.bool false))
      |.neq=>K (.cv (.bool true))
      |_=>False
     |_=>False
    |none=>False
   |_=>False
  |_=>False
 |_=>False
noncomputable def dUn(c:DCfg)(op:UnOp)(x:SV)(K:SV->Prop):Prop:=match x with
 |.cv a=>eUn { wrap:=c.wrap } op a fun v=>cvK v K
 |_=>False
section
variable{P:Program}{R:RO}{e:DEnv}{c:DCfg}
theorem zsj{lit:Bool}{o:BinOp}{ty:TypeId}{v w:SV}{x y:CV}{K:SV->Prop}(hv:Rep R e v x)(hw:Rep R e w y)(h:zAu P c lit o ty v w K):∃u z,zrM P lit o ty x y=.val z/\Rep R e u z/\K u:=by
 unfold zAu at h;split at h
 ·rename_i a;cases hv;split at h
  ·rename_i b;cases hw;split at h
   ·split at h
    ·rename_i p q;have b1:∀b:Bool,Rep R e (.cv (.bool b)) (.bool b):=fun b=>.cv rfl
     split at h
     ·refine⟨_,.str (_++_),?_,.cv rfl,h.2⟩;show zi0 _ _=_;unfold zi0;rw[yb1 h.1]
     ·exact⟨_,_,rfl,b1 _,h⟩
     ·exact⟨_,_,rfl,b1 _,h⟩
     ·exact⟨_,_,rfl,b1 _,h⟩
     ·exact⟨_,_,rfl,b1 _,h⟩
     ·exact⟨_,_,rfl,b1 _,h⟩
     ·exact⟨_,_,rfl,b1 _,h⟩
     ·exact h.elim
    ·exact h.elim
   ·split at h
    ·obtain⟨z,h1,h2⟩:=zs0 h;obtain⟨h3,h4⟩:=zqE (R:=R) (e:=e) h2;exact⟨_,z,h1,h3,h4⟩
    ·exact h.elim
   ·obtain⟨z,h1,h2⟩:=zym h;obtain⟨h3,h4⟩:=zqE (R:=R) (e:=e) h2;exact⟨_,z,h1,h3,h4⟩
  ·exact h.elim
 ·cases hv with
  |agg hv=>
  split at h
  ·cases hw with
   |agg hw=>
   obtain⟨hc,h⟩:=h;have hc:=hc.out;have hcb:∀xs ys,zrM P lit o ty (.agg xs) (.agg ys)=zgM P lit o ty (.agg xs) (.agg ys):=fun _ _=>rfl
   rw[hcb];have hg:P.eqGuardType P.depth ty=false:=by simpa using hc
   have hq:∀(neg:Bool) (us ws:List CV) (b:Bool),ceq P 40 ty (.agg us) (.agg ws)=some b->cEq P lit neg ty (.agg us) (.agg ws)=ofB neg (some b):=fun neg us ws b h1=>by
    unfold cEq;simp only[zjb,hg,h1]
   split at h
   ·obtain⟨b,h1,h2⟩:=zpi 40 (.agg hv) (.agg hw) h;exact⟨_,.bool b,hq false _ _ _ h1,.cv rfl,h2⟩
   ·obtain⟨b,h1,h2⟩:=zpi 40 (.agg hv) (.agg hw) h;exact⟨_,.bool (!b),hq true _ _ _ h1,.cv rfl,h2⟩
   ·exact h.elim
  ·exact h.elim
 ·rename_i sz n el;split at h
  ·split at h
   ·split at h
    ·rename_i u hu;split at h
     ·cases hw;have key:∀neg:Bool,(x=.nils/\n=0/\cEq P lit neg ty x .nils=.val (.bool (!neg)))\/(cEq P lit neg ty x .nils=.val (.bool neg)):=fun neg=>by
       have hq:∀b,ztY x .nils=some b->zjb x .nils=2->cEq P lit neg ty x .nils=ofB neg (some b):=fun b h1 h2=>by
        unfold cEq;rw[h2];show ofB neg (ceq P 40 ty x .nils)=_;unfold ceq;simp only[hu,h1]
       cases hv with
       |islN=>exact .inl ⟨rfl,rfl,by rw[hq true rfl rfl];cases neg<;>rfl⟩
       |islV=>exact .inr (by rw[hq false rfl rfl];cases neg<;>rfl)
       |islS=>exact .inr (by rw[hq false rfl rfl];cases neg<;>rfl)
       |islO=>exact .inr (by rw[hq false rfl rfl];cases neg<;>rfl)
      have hcb:zrM P lit o ty x .nils=zgM P lit o ty x .nils:=by cases hv<;>rfl
      rw[hcb];split at h
      ·rcases key false with⟨_,h1,h2⟩ |h2
       ·exact⟨_,_,h2,.cv rfl,h.1 h1⟩
       ·exact⟨_,_,h2,.cv rfl,h.2⟩
      ·rcases key true with⟨_,h1,h2⟩ |h2
       ·exact⟨_,_,h2,.cv rfl,h.1 h1⟩
       ·exact⟨_,_,h2,.cv rfl,h.2⟩
      ·exact h.elim
     ·exact h.elim
    ·exact h.elim
   ·exact h.elim
  ·exact h.elim
 ·rename_i p off;split at h
  ·rename_i u hu;split at h
   ·rename_i el;have hq:∀(y:CV) (b:Bool) (neg:Bool),zmk P el x y=some b->zjb x y=2->cEq P lit neg ty x y=ofB neg (some b):=fun y b neg h1 h2=>by
     unfold cEq;rw[h2];show ofB neg (ceq P 40 ty x y)=_;unfold ceq;simp only[hu,h1]
    cases hv with
    |ptr he=>
     rename_i tt;split at h
     ·split at h
      ·cases hw;have e1:zmk P el (.ptr tt off) .nilp=some false:=rfl;split at h
       ·exact⟨_,_,hq _ _ false e1 rfl,.cv rfl,h⟩
       ·exact⟨_,_,hq _ _ true e1 rfl,.cv rfl,h⟩
       ·exact h.elim
      ·exact h.elim
     ·split at h
      ·rename_i hb;simp only[ya2]at hb;obtain rfl:=yb0 hb.1;obtain rfl:=yb0 hb.2;cases hw with
       |ptr he'=>
        rw[he]at he';cases he';split at h
        ·rename_i hi;have e1:zmk P el (.ptr tt off) (.ptr tt off)=some true:=by
          unfold zmk;simp only[show Nat.beq tt tt=true from Nat.beq_refl tt,show Nat.beq off off=true from Nat.beq_refl off,Bool.and_self,hi]
         split at h
         ·exact⟨_,_,hq _ _ false e1 rfl,.cv rfl,h⟩
         ·exact⟨_,_,hq _ _ true e1 rfl,.cv rfl,h⟩
         ·exact h.elim
        ·exact h.elim
      ·exact h.elim
     ·exact h.elim
   ·exact h.elim
  ·exact h.elim
 ·split at h
  ·split at h
   ·split at h
    ·rename_i u hu;split at h
     ·cases hv with
      |ifc hx=>
      cases hw;have hq:∀(t':TypeId) (z:CV) (neg:Bool),cEq P lit neg ty (.ifc t' z) .nili=ofB neg (some false):=fun t' z neg=>by
       unfold cEq;show ofB neg (ceq P 40 ty (.ifc t' z) .nili)=_;unfold ceq;simp only[hu,ztK]
      split at h
      ·exact⟨_,_,hq _ _ false,.cv rfl,h⟩
      ·exact⟨_,_,hq _ _ true,.cv rfl,h⟩
      ·exact h.elim
     ·exact h.elim
    ·exact h.elim
   ·exact h.elim
  ·exact h.elim
 ·exact h.elim
theorem zxe{o:UnOp}{v:SV}{x:CV}{K:SV->Prop}(hv:Rep R e v x)(h:dUn c o v K):∃u z,cUn o x=.val z/\Rep R e u z/\K u:=by
 unfold dUn at h;split at h
 ·cases hv;obtain⟨z,h1,h2⟩:=zzD h;obtain⟨h3,h4⟩:=zqE (R:=R) (e:=e) h2;exact⟨_,z,h1,h3,h4⟩
 ·exact h.elim
end
end Go.Cx
namespace Go.Cx
open Go
def zAK:Nat->SV->Option Nat
 |_,.lst o=>some o
 |d+1,.agg cs=>cs.findSome? (zAK d)
 |d+1,.tup cs=>cs.findSome? (zAK d)
 |d+1,.ifc _ v=>zAK d v
 |_,_=>none
def znh:Nat->List SV->List SV->List SObj->(List SV->List SV->List SObj->Prop)->Prop
 |0,_,_,_,_=>False
 |n+1,vs,T,O,k=>match vs.findSome? (zAK zal) with
  |none=>k vs T O
  |some o=>match zbG O o with
   |.list ty sz m el=>zq8 o (.isl sz m el) T O fun T O=>zbC (sbK o (.isl sz m el) zal) vs fun vs=>zcW O o .dead fun O=>znh n vs T O k
   |_=>False
def zeM:Nat->SV->Bool
 |_,.cv _=>true
 |_,.isl _ _ _=>true
 |_,.islx _ _ _=>true
 |_,.ipt _ _=>true
 |_,.emp=>true
 |d+1,.agg cs=>cs.all (zeM d)
 |d+1,.tup cs=>cs.all (zeM d)
 |d+1,.fn _ a b=>a.all (zeM d)&&b.all (zeM d)
 |d+1,.ifc _ v=>zeM d v
 |_,_=>false
section
variable{G:Ctx}{R:RO}{e:DEnv}{O:List SObj}{m:Mem}{T:List SV}{t:Tmps}
theorem Rep.imm:∀(d:Nat) {v:SV} {x:CV},Rep R e v x->zeM d v=true->Rep R noE v x:=by
 intro d
 induction d with
 |zero=>
  intro v x h hi;cases h<;>simp[zeM]at hi
  case cv h=>exact .cv h
  case islN=>exact .islN
  case islV=>exact .islV
  case islE=>exact .islE
  case islx h=>exact .islx (by cases h with |islN=>exact .islN |islV=>exact .islV |islS h1 h2 h3 h4 h0 h5=>exact .islS h1 h2 h3 h4 h0 h5 |islO h1 h2 h0 h3=>exact .islO h1 h2 h0 h3)
  case islS h1 h2 h3 h4 h0 h5=>exact .islS h1 h2 h3 h4 h0 h5
  case islO h1 h2 h0 h3=>exact .islO h1 h2 h0 h3
  case ipt h1 h2 h3 h0 h4=>exact .ipt h1 h2 h3 h0 h4
  case empN=>exact .empN
  case empV=>exact .empV
  case empS h=>exact .empS h
 |succ d ih=>
  have hl:∀{vs:List SV} {xs:List CV},RepL R e vs xs->vs.all (zeM d)=true->RepL R noE vs xs:=by
   intro vs
   induction vs with
   |nil=>intro xs h _;cases h;exact .nil
   |cons v vs ihv=>
    intro xs h hi;simp only[List.all_cons,ya2]at hi;cases h with
    |cons hv hs=>exact .cons (ih hv hi.1) (ihv hs hi.2)
  intro v x h hi;cases h<;>simp[zeM]at hi
  case cv h=>exact .cv h
  case islN=>exact .islN
  case islV=>exact .islV
  case islE=>exact .islE
  case islx h=>exact .islx (by cases h with |islN=>exact .islN |islV=>exact .islV |islS h1 h2 h3 h4 h0 h5=>exact .islS h1 h2 h3 h4 h0 h5 |islO h1 h2 h0 h3=>exact .islO h1 h2 h0 h3)
  case islS h1 h2 h3 h4 h0 h5=>exact .islS h1 h2 h3 h4 h0 h5
  case islO h1 h2 h0 h3=>exact .islO h1 h2 h0 h3
  case ipt h1 h2 h3 h0 h4=>exact .ipt h1 h2 h3 h0 h4
  case empN=>exact .empN
  case empV=>exact .empV
  case empS h=>exact .empS h
  case agg h=>exact .agg (hl h (by simpa using hi))
  case tup h=>exact .tup (hl h (by simpa using hi))
  case fn ha hb=>exact .fn (hl ha (by simpa using hi.1)) (hl hb (by simpa using hi.2))
  case ifc h=>exact .ifc (ih h hi)
theorem RepL.imm{vs:List SV}{xs:List CV}(h:RepL R e vs xs)(hi:vs.all (zeM zal)=true):RepL R noE vs xs:=by
 induction vs generalizing xs with
 |nil=>cases h;exact .nil
 |cons v vs ih=>
  simp only[List.all_cons,ya2]at hi;cases h with
  |cons hv hs=>exact .cons (hv.imm zal hi.1) (ih hs hi.2)
theorem zch:∀(n:Nat) {vs:List SV} {xs:List CV} {T:List SV} {O:List SObj} {R:RO} {e:DEnv} {k:List SV->List SV->List SObj->Prop},RepL R e vs xs->TSat R e T t->MSat G R e O m->znh n vs T O k ->
  ∃R' e' vs' T' O',R.le R'/\(∀o u,e o=some (PM.c u)->e' o=some (PM.c u))/\RepL R' e' vs' xs/\TSat R' e' T' t/\MSat G R' e' O' m/\k vs' T' O'
 |0,_,_,_,_,_,_,_,_,_,_,h=>h.elim
 |n+1,vs,xs,T,O,R,e,k,hv,hT,hM,h=>by
  unfold znh at h;split at h
  ·exact⟨R,e,vs,T,O,RO.le.refl R,fun _ _ h=>h,hv,hT,hM,h⟩
  ·rename_i o _;split at h
   ·rename_i ty sz k' el ho;rw[zgc,zai (zhi o _ zal),zaz]at h;have ho':=zaB ho (by simp);obtain⟨R',h1,h2,h3,h4⟩:=hM.freeze ho';have hpt:∀i u,e i=some (PM.c u)->e.put o none i=some (PM.c u):=fun i u hi=>by
     refine h3 i _ (fun hq=>?_) hi;subst hq;rcases hM.ob i _ ho' with h5 |⟨x,h5,h6⟩
     ·cases h5
     ·rw[hi]at h5;cases h5;rcases h6 with⟨h7 |⟨_,_,_,_,h7,_⟩,_⟩ |⟨_,_,_,h7,_⟩ |⟨_,_,h7,_⟩<;>cases u<;>cases h7
    obtain⟨R2,e2,vs2,T2,O2,g1,g2,g3,g4,g5,g6⟩:=zch n (hv.sb h1 h3 h2 zal) (hT.sb h1 h3 h2) h4 h;exact⟨R2,e2,vs2,T2,O2,h1.trans g1,fun i u hi=>g2 i u (hpt i u hi),g3,g4,g5,g6⟩
   ·exact h.elim
end
def zcd(n:Nat)(a b:Nat->List SV):Nat->List SV:=fun i=>if i<n then a i else b (i - n)
noncomputable def zqg(elem:TypeId)(sz0 nx:Nat)(new:Nat->List SV)(x:SV)(T:List SV)(O:List SObj)(K:DK):Prop:=
 match x with
 |.cv .nils=>nx<=1000000/\zrR O (.list elem sz0 nx new) fun o O=>K (.lst o) T O
 |.emp=>nx<=1000000/\zrR O (.list elem sz0 nx new) fun o O=>K (.lst o) T O
 |.lst o=>match zbG O o with
  |.list ty' sz n el=>match Nat.beq ty' elem&&Nat.beq sz sz0 with
   |true=>n+nx<=1000000/\zq8 o .junk T O fun T O=>zcW O o (.list elem sz0 (n+nx) (zcd n el new)) fun O=>K (.lst o) T O
   |false=>False
  |_=>False
 |_=>False
noncomputable def zof(P:Program)(ty:TypeId)(x y:SV)(T:List SV)(O:List SObj)(K:DK):Prop:=
 match P.underlying ty with
 |some (.slice elem)=>match P.info? elem with
  |some inf=>match zfj P elem with
   |some z=>match Nat.blt 0 inf.size&&(Nat.beq z.length inf.size&&Nat.ble inf.bytes 1000000) with
    |true=>match zhG inf.size O y with
     |some (nx,new)=>zqg elem inf.size nx new x T O K
     |none=>False
    |false=>False
   |none=>False
  |none=>False
 |_=>False
def ziK(s:List Nat):Nat->List SV:=fun i=>[.cv (.int .u8 ((s.getD i 0%256:Nat):Int))]
noncomputable def zk0(P:Program)(ty T2:TypeId)(x:SV)(s:List Nat)(T:List SV)(O:List SObj)(K:DK):Prop:=
 match P.underlying ty with
 |some (.slice elem)=>match P.underlying T2 with
  |some .string=>match P.info? elem with
   |some inf=>match zfj P elem with
    |some z=>match Nat.beq inf.size 1&&(Nat.beq z.length 1&&Nat.ble inf.bytes 1000000) with
     |true=>zqg elem 1 s.length (ziK s) x T O K
     |false=>False
    |none=>False
   |none=>False
  |_=>False
 |_=>False
theorem zdt{R:RO}{e:DEnv}{a b:List CV}{n k sz:Nat}{ea eb:Nat->List SV}(ha:a.length=n*sz)(hb:b.length=k*sz)(h1:∀i,i<n->RepL R e (ea i) (seg a (i*sz) sz))(h2:∀i,i<k->RepL R e (eb i) (seg b (i*sz) sz)):
  ∀i,i<n+k->RepL R e (zcd n ea eb i) (seg (a++b) (i*sz) sz):=by
 intro i hi;unfold zcd seg;split
 ·rename_i hq;have:=h1 i hq;have hm:=zcC (sz:=sz) hq;rw[List.drop_append_of_le_length (by omega),List.take_append_of_le_length (by rw[List.length_drop];omega)];exact this
 ·rename_i hq;have:=h2 (i - n) (by omega);rw[List.drop_append,show i*sz - a.length=(i - n)*sz by rw[ha,Nat.sub_mul],List.drop_eq_nil_of_le (by rw[ha];exact yd2 _ (by omega)),List.nil_append];exact this
section
variable{P:Program}{X:Ext}{G:Ctx}{R:RO}{e:DEnv}{m:Mem}{t:Tmps}{K:DK}{T:List SV}{O:List SObj}
theorem zmr{tt off:Nat}{ty:TypeId}{cs vs:List CV}(hg:m.get tt=some (.cells ty cs))(h1:vs.all one=true)(h2:off+vs.length<=cs.length):wr m tt off vs=some (m.put tt (.cells ty (zaA cs off vs))):=by
 unfold wr;rw[h1];simp only[hg,yb1 h2]
theorem zor{tt off sz:Nat}{ty:TypeId}{cs vs:List CV}(hg:m.get tt=some (.opn ty sz cs))(h1:vs.all one=true)(h2:off+vs.length<=cs.length):wr m tt off vs=some (m.put tt (.opn ty sz (zaA cs off vs))):=by
 unfold wr;rw[h1];simp only[hg,yb1 h2]
theorem zcY:∀(us cs:List CV) (off:Nat),off+us.length<=cs.length->zaA cs off us=cs.take off++us++cs.drop (off+us.length)
 |[],cs,off,h=>by simp[zaA]
 |u::us,cs,off,h=>by
  simp only[ya7]at h;rw[zaA,zcY us _ (off+1) (by simp;omega)];have h1:(cs.set off u).take (off+1)=cs.take off++[u]:=by
   rw[List.take_add_one,List.getElem?_set_self (by omega)];simp only[Option.toList,List.append_cancel_right_eq];rw[List.take_set_of_le (Nat.le_refl off)]
  rw[h1,List.drop_set_of_lt (by omega),show off+1+us.length=off+(us.length+1)by omega];simp only[yc1,List.singleton_append,ya7,List.cons_append,List.nil_append]
theorem Chg.put'{a:Nat}{o:CO}{m':Mem}(h:Put m a o m')(hl:a<m.nxt):Chg m (some a) (some a) m':=
 ⟨by rw[h.nxt];exact Nat.le_refl _,fun t h1 _=>by rw[h.get,if_neg (fun hq=>h1 (by rw[hq]))],fun t ht=>.inl ht,fun w=>h.wf hl w⟩
theorem Chg.new'{o:CO}{m':Mem}{a:Option Nat}(h:New m m.nxt o m')(ha:∀t,a=some t->t<m.nxt):Chg m a (some m.nxt) m':=
 ⟨by rw[h.nxt];omega,fun t _ h2=>by rw[h.get,if_neg (fun hq=>h2 (by rw[hq]))],fun t ht=>.inr (by cases ht;exact Nat.le_refl _),fun w=>h.wf w⟩
theorem Chg.killNew{o:CO}{a:Nat}(hr:∀o',m.get a=some o'->zcG o'=false):Chg m (some a) (some m.nxt) ((m.kill a).newAt m.nxt o):=by
 have hk:=Kill.mk' m a hr;have hn:New (m.kill a) m.nxt o ((m.kill a).newAt m.nxt o):=New.at (m.kill a) o;exact⟨by rw[hn.nxt];show m.nxt<=m.nxt+1;omega,fun t h1 h2=>by rw[hn.get,if_neg (fun hq=>h2 (by rw[hq])),hk.get,if_neg (fun hq=>h1 (by rw[hq]))],fun t ht=>.inr (by cases ht;exact Nat.le_refl _),fun w=>hn.wf (hk.wf w)⟩
theorem zh4{m':Mem}{o:Nat}{x y:CV}{so:SObj}{v:SV}(hM:MSat G R e O m)(hT:TSat R e T t)(hx:e o=some x)(hnp:∀u:PM,x≠PM.c u)(hc:Chg m (tg x) (tg y) m')(hne:so≠.dead)(hor:OR R noE m' y so)(hso:∀e',OR R noE m' y so->OR R e' m' y so)
  (hv:∀e',e' o=some y->Rep R e' v y) (hk:K v (T.map (sb o .junk zal)) ((O.map (sbO o .junk)).set o so)):Gone G R e t K y m':=by
 have h1:=hM.chg hx hc hne (hso _ hor);have he:∀i z,i≠o->e i=some z->e.put o (some y) i=some z:=fun i z hi hz=>by rw[DEnv.put_ne _ _ hi];exact hz
 refine⟨R,_,v,_,_,RO.le.refl R,fun i u hi=>?_,hv _ (DEnv.put_self ..),hT.sb (RO.le.refl R) he (fun _ _=>.junk),h1,hk⟩;by_cases hq:i=o
 ·subst hq;rw[hx]at hi;cases hi;exact absurd rfl (hnp u)
 ·exact he i _ hq hi
theorem Chg.refl'{a:Option Nat}:Chg m a a m:=⟨Nat.le_refl _,fun _ _ _=>rfl,fun _ ht=>.inl ht,id⟩
theorem OR.mkE{e:DEnv}{x:CV}{ty:TypeId}{sz:Nat}{el:Nat->List SV}(h:zu4 x=true\/∃t off o cs,x=.slc t off 0 0/\R t=some o/\zkM o=some cs/\off<=cs.length/\cs.all one=true):OR R e m x (.list ty sz 0 el):=Or.inl ⟨h,rfl⟩
theorem OR.mkS{e:DEnv}{t c n:Nat}{xs:List CV}{ty:TypeId}{sz:Nat}{el:Nat->List SV}(h0:0<c)(h1:n<=c)(h2:m.get t=some (.cells ty xs))(h3:c*sz=xs.length)(h4:xs.all one=true)(h5:∀i,i<n->RepL R noE (el i) (seg xs (i*sz) sz)):OR R e m (.slc t 0 n c) (.list ty sz n el):=Or.inr (Or.inl ⟨t,c,xs,rfl,h0,h1,h2,h3,h4,h5⟩)
theorem OR.mkO{e:DEnv}{t n:Nat}{xs:List CV}{ty:TypeId}{sz:Nat}{el:Nat->List SV}(h2:m.get t=some (.opn ty sz xs))(h3:n*sz<=xs.length)(h4:xs.all one=true)(h5:∀i,i<n->RepL R noE (el i) (seg xs (i*sz) sz)):OR R e m (.opn t 0 n) (.list ty sz n el):=Or.inr (Or.inr ⟨t,xs,rfl,h2,h3,h4,h5⟩)
noncomputable def zvI(T:Nat)(m:Mem)(elem:TypeId)(sz:Nat)(ly lx:List CV)(x:CV):Nat->COut
 |0=>ap0 x
 |k+1=>zAj T m elem sz (k+1) ly lx x
theorem zoy{ty elem:TypeId}{inf:TypeInfo}{z ly lx:List CV}{n nx:Nat}{x y:CV}(hu:P.underlying ty=some (.slice elem))(hi:P.info? elem=some inf)(hz:zfj P elem=some z)(hb0:Nat.blt 0 inf.size=true)(hb1:Nat.beq z.length inf.size=true)(hb2:Nat.ble inf.bytes 1000000=true)
  (hy:elems m inf.size y=some (nx,ly)) (hx:elems m inf.size x=some (n,lx)) (hn:n+nx<=1000000):zd7 P m.nxt m ty ty x y=zvI m.nxt m elem inf.size ly lx x nx:=by
 have hf:zw2 inf.bytes (n+nx)=true:=by unfold zw2;rw[yb1 hn,hb2];rfl
 unfold zd7;simp only[show Nat.beq ty ty=true from Nat.beq_refl ty,hu,hi,hz,hb0,hb1,Bool.and_self,hy,hx,hf];cases nx<;>rfl
theorem zhS{ty:TypeId}{sz:Nat}{el:Nat->List SV}{x:CV}(hM:MSat G R e O m)(hT:TSat R e T t)(hx:zu4 x=true\/∃t off o cs,x=.slc t off 0 0/\R t=some o/\zkM o=some cs/\off<=cs.length/\cs.all one=true)(hk:K (.lst O.length) T (O++[.list ty sz 0 el])):Gone G R e t K x m:=by
 have hle:=DEnv.le_put (hM.free (Nat.le_refl _)) (some x);have htg:tg x=none:=by
  rcases hx with hx |⟨_,_,_,_,rfl,_⟩
  ·exact zs5 hx
  ·rfl
 have hrep:∀e',e' O.length=some x->Rep R e' (.lst O.length) x:=fun e' he=>by
  rcases hx with hx |⟨_,_,_,_,rfl,_⟩
  ·rcases zd4 hx with rfl |⟨a,rfl⟩
   ·exact .lstN he
   ·exact .lstV he
  ·exact .lstE he
 refine⟨R,e.put O.length (some x),_,T,_,RO.le.refl R,fun o u ho=>hle _ _ ho,hrep _ (DEnv.put_self ..),hT.mono (RO.le.refl R) hle,?_,hk⟩;refine⟨hM.fr,hM.sk,hM.le,hM.rn,fun o y t hy ht=>?_,fun o o' y y' t hy hy' ht ht'=>?_,fun o so ho=>?_,fun o y hy=>?_⟩
 ·unfold DEnv.put at hy;split at hy
  ·cases hy;rw[htg]at ht;cases ht
  ·exact hM.own o y t hy ht
 ·unfold DEnv.put at hy hy';split at hy<;>split at hy'
  ·omega
  ·cases hy;rw[htg]at ht;cases ht
  ·cases hy';rw[htg]at ht';cases ht'
  ·exact hM.inj o o' y y' t hy hy' ht ht'
 ·rcases Nat.lt_trichotomy o O.length with hq |hq |hq
  ·rw[yb8 hq]at ho;rcases hM.ob o so ho with h1 |⟨y,h1,h2⟩
   ·exact .inl h1
   ·exact .inr ⟨y,by rw[DEnv.put_ne _ _ (by omega)];exact h1,h2.mono (RO.le.refl R) hle fun _ _=>rfl⟩
  ·subst hq;simp at ho;subst ho;exact .inr ⟨x,DEnv.put_self ..,OR.mkE hx⟩
  ·rw[List.getElem?_eq_none (by simp;omega)]at ho;cases ho
 ·unfold DEnv.put at hy;split at hy
  ·rename_i hq;subst hq;exact⟨_,by simp;rfl,by simp⟩
  ·obtain⟨so',h1,h2⟩:=hM.dom o y hy;exact⟨so',by rw[yb8 (List.getElem?_eq_some_iff.1 h1).1];exact h1,h2⟩
theorem zms{elem:TypeId}{sz0 nx:Nat}{new:Nat->List SV}{ly:List CV}{v:SV}{x:CV}{out:COut}(hM:MSat G R e O m)(hT:TSat R e T t)(hv:Rep R e v x)
  (sel:∀{n lx},elems m sz0 x=some (n,lx)->n+nx<=1000000->out=zvI m.nxt m elem sz0 ly lx x nx) (hlen:ly.length=nx*sz0) (hall:ly.all one=true)
  (hel:∀i,i<nx->RepL R noE (new i) (seg ly (i*sz0) sz0)) (h:zqg elem sz0 nx new v T O K):
  ∃z m',(out=.mem z m'\/(out=.val z/\m'=m))/\Gone G R e t K z m':=by
 unfold zqg at h;have fresh:(zrR O (.list elem sz0 nx new) fun o O=>K (.lst o) T O)->Gone G R e t K (.opn m.nxt 0 nx) (m.newAt m.nxt (.opn elem sz0 ly)):=by
  intro hk;rw[zbO]at hk;have hn:=New.at m (CO.opn elem sz0 ly);exact zgt hM hT hn rfl rfl (by simp) (fun e' _=>OR.mkO hn.self (by rw[hlen];exact Nat.le_refl _) hall hel) (fun e' he=>.lstO he) (fun _ _ _=>trivial) hk
 have nil:zu4 x=true->(nx<=1000000/\zrR O (.list elem sz0 nx new) fun o O=>K (.lst o) T O)->∃z m',(out=.mem z m'\/(out=.val z/\m'=m))/\Gone G R e t K z m':=by
  rintro hx ⟨hn,hk⟩;rcases zd4 hx with rfl |⟨a,rfl⟩
  ·have hs:=sel (n:=0) (lx:=[]) rfl (by omega);cases nx with
   |zero=>rw[zbO]at hk;exact⟨_,m,.inr ⟨hs,rfl⟩,zhS hM hT (.inl rfl) hk⟩
   |succ k=>exact⟨_,_,.inl hs,fresh hk⟩
  ·have hs:=sel (n:=0) (lx:=[]) rfl (by omega);cases nx with
   |zero=>rw[zbO]at hk;exact⟨_,m,.inr ⟨hs,rfl⟩,zhS hM hT (.inl rfl) hk⟩
   |succ k=>exact⟨_,_,.inl hs,fresh hk⟩
 have emp:∀{tt off:Nat},x=.slc tt off 0 0->(∃o cs,R tt=some o/\zkM o=some cs/\off<=cs.length/\cs.all one=true)->(nx<=1000000/\zrR O (.list elem sz0 nx new) fun o O=>K (.lst o) T O)->∃z m',(out=.mem z m'\/(out=.val z/\m'=m))/\Gone G R e t K z m':=by
  rintro tt off rfl ⟨o,cs,h1,h2,h3,h4⟩ ⟨hn,hk⟩;have hx0:elems m sz0 (.slc tt off 0 0)=some (0,seg cs off (0*sz0)):=zdu (hM.sk.ro _ _ h1) h2 (by simpa using h3);have hs:=sel hx0 (by omega);cases nx with
  |zero=>rw[zbO]at hk;exact⟨_,m,.inr ⟨hs,rfl⟩,zhS hM hT (.inr ⟨tt,off,o,cs,rfl,h1,h2,h3,h4⟩) hk⟩
  |succ k=>
   refine⟨_,_,.inl (hs.trans ?_),fresh hk⟩;show zjy m.nxt m elem sz0 (k+1) ly (seg cs off (0*sz0)) tt off 0 0=_;unfold zjy;simp[seg];rfl
 split at h
 ·cases hv;exact nil rfl h
 ·cases hv with
  |empN=>exact nil rfl h
  |empV=>exact nil rfl h
  |empS hh=>exact emp rfl hh h
 ·rename_i o;split at h
  ·rename_i ty' sz n el ho;split at h
   ·rename_i hbb;simp only[ya2,zeY,decide_eq_true_eq]at hbb;obtain⟨rfl,rfl⟩:=hbb;obtain⟨hn,hk⟩:=h;rw[zgc,zaz]at hk;have hox:e o=some x:=by cases hv<;>assumption
    rcases hM.ob o _ (zaB ho (by simp))with h0 |⟨x',hx',hor⟩
    ·cases h0
    rw[hox]at hx';cases hx';have grow:∀{m':Mem} {y':CV},(∀u:PM,x≠PM.c u)->Chg m (tg x) (tg y') m'->OR R noE m' y' (.list ty' sz (n+nx) (zcd n el new))->(∀e',e' o=some y'->Rep R e' (.lst o) y')->Gone G R e t K y' m':=fun h1 h2 h3 h4=>zh4 hM hT hox h1 h2 (by simp) h3 (fun e' h=>h) h4 hk
    have opnew:∀{lx:List CV} (hl:lx.length=n*sz) (ha:lx.all one=true) (hx:∀i,i<n->RepL R noE (el i) (seg lx (i*sz) sz)) {m':Mem},m'.get m.nxt=some (.opn ty' sz (lx++ly))->OR R noE m' (.opn m.nxt 0 (n+nx)) (.list ty' sz (n+nx) (zcd n el new)):=fun{lx} hl ha hx {m'} hg=>
     OR.mkO hg (by rw[ya1,hl,hlen,Nat.add_mul];exact Nat.le_refl _) (by rw[List.all_append,ha,hall];rfl) (zdt hl hlen hx hel)
    rcases hor with⟨hq |⟨tt,off,oo,cs,hq,h1,h2,h3,h4⟩,rfl⟩ |⟨tt,c,xs,rfl,hc0,hc,hg,hcl,ha,hes⟩ |⟨tt,xs,rfl,hg,hcl,ha,hes⟩
    ·rcases zd4 hq with hq |⟨a0,hq⟩
     ·subst hq;have hs:=sel (n:=0) (lx:=[]) rfl (by omega);cases nx with
      |zero=>
       refine⟨_,m,.inr ⟨hs,rfl⟩,grow (fun u=>by cases u<;>simp) Chg.refl' (OR.mkE (.inl rfl)) fun e' he=>.lstN he⟩
      |succ k=>
       have hnw:=New.at m (CO.opn ty' sz ly);refine⟨_,_,.inl hs,?_⟩;have:=grow (m':=m.newAt m.nxt (.opn ty' sz ly)) (y':=.opn m.nxt 0 (0+(k+1))) (fun u=>by cases u<;>simp) (Chg.new' hnw (by intro t ht;cases ht)) (opnew (lx:=[]) (by simp) rfl (fun i hi=>by omega) hnw.self) fun e' he=>.lstO he
       rw[Nat.zero_add]at this;exact this
     ·subst hq;have hs:=sel (n:=0) (lx:=[]) rfl (by omega);cases nx with
      |zero=>
       refine⟨_,m,.inr ⟨hs,rfl⟩,grow (fun u=>by cases u<;>simp) Chg.refl' (OR.mkE (.inl rfl)) fun e' he=>.lstV he⟩
      |succ k=>
       have hnw:=New.at m (CO.opn ty' sz ly);refine⟨_,_,.inl hs,?_⟩;have:=grow (m':=m.newAt m.nxt (.opn ty' sz ly)) (y':=.opn m.nxt 0 (0+(k+1))) (fun u=>by cases u<;>simp) (Chg.new' hnw (by intro t ht;cases ht)) (opnew (lx:=[]) (by simp) rfl (fun i hi=>by omega) hnw.self) fun e' he=>.lstO he
       rw[Nat.zero_add]at this;exact this
    ·subst hq;have hx0:elems m sz (.slc tt off 0 0)=some (0,seg cs off (0*sz)):=zdu (hM.sk.ro _ _ h1) h2 (by simpa using h3);have hs:=sel hx0 (by omega);cases nx with
     |zero=>
      refine⟨_,m,.inr ⟨hs,rfl⟩,grow (fun u=>by cases u<;>simp) Chg.refl' (OR.mkE (.inr ⟨tt,off,oo,cs,rfl,h1,h2,h3,h4⟩)) fun e' he=>.lstE he⟩
     |succ k=>
      have hnw:=New.at m (CO.opn ty' sz ly);refine⟨.opn m.nxt 0 (0+(k+1)),m.newAt m.nxt (.opn ty' sz ly),.inl (hs.trans ?_),?_⟩
      ·show zjy m.nxt m ty' sz (k+1) ly (seg cs off (0*sz)) tt off 0 0=_;unfold zjy;simp[seg];rfl
      ·exact grow (fun u=>by cases u<;>simp) (Chg.new' hnw (by intro t ht;cases ht)) (opnew (lx:=[]) (by simp) rfl (fun i hi=>by omega) hnw.self) fun e' he=>.lstO he
    ·have hlt:=hM.sk.wf.lt hg;have hl:0+n*sz<=xs.length:=by rw[<- hcl];have:=yd2 sz hc;omega
     have hx0:elems m sz (.slc tt 0 n c)=some (n,seg xs 0 (n*sz)):=zdu hg rfl hl;have hs:=sel hx0 hn;have hes':∀i,i<n->RepL R noE (el i) (seg (seg xs 0 (n*sz)) (i*sz) sz):=fun i hi=>by
      rw[zdO (zcC hi),Nat.zero_add];exact hes i hi
     cases nx with
     |zero=>
      have hs':out=.val (.slc tt 0 n c):=by
       rw[hs];simp only[zvI,ap0,yb1 hc]
      refine⟨_,m,.inr ⟨hs',rfl⟩,grow (fun u=>by cases u<;>simp) Chg.refl' (OR.mkS hc0 hc hg hcl ha fun i hi=>?_) fun e' he=>.lstS he⟩;unfold zcd;rw[if_pos (show i<n from hi)];exact hes i hi
     |succ k=>
      have hs':out=zjy m.nxt m ty' sz (k+1) ly (seg xs 0 (n*sz)) tt 0 n c:=hs;by_cases hroom:n+(k+1)<=c
      ·have hsz:(n+(k+1))*sz<=xs.length:=by rw[<- hcl];exact yd2 _ hroom
       rw[Nat.add_mul]at hsz;have hw':=zmr (m:=m) (off:=0+n*sz) (vs:=ly) hg hall (by rw[hlen];omega);have hput:=Put.mk' m tt (.cells ty' (zaA xs (0+n*sz) ly)) (fun o' ho'=>by rw[hg]at ho';cases ho';rfl);refine⟨.slc tt 0 (n+(k+1)) c,m.put tt (.cells ty' (zaA xs (0+n*sz) ly)),.inl (hs'.trans ?_),grow (fun u=>by cases u<;>simp) ?_ (OR.mkS hc0 hroom hput.self (by rw[zaN];exact hcl) (zgb ha hall) ?_) fun e' he=>.lstS he⟩
       ·unfold zjy;simp only[yb1 hroom,hw']
       ·rw[zcV hc0,zcV hc0];exact Chg.put' hput hlt
       ·rw[zcY _ _ _ (by rw[hlen];omega),Nat.zero_add];have:=zdt (R:=R) (e:=noE) (a:=xs.take (n*sz)) (b:=ly) (n:=n) (k:=k+1) (sz:=sz) (ea:=el) (eb:=new) (by rw[List.length_take];omega) hlen (fun i hi=>by
         have:=hes' i hi;unfold seg at this ⊢;simpa using this) hel
        intro i hi;have h5:=this i hi;have hm:=zcC (sz:=sz) hi;unfold seg at h5 ⊢;have hlen2:(xs.take (n*sz)++ly).length=(n+(k+1))*sz:=by rw[ya1,List.length_take,hlen,Nat.min_eq_left (by omega),<- Nat.add_mul]
        rw[List.drop_append_of_le_length (by rw[hlen2];omega),List.take_append_of_le_length (by rw[List.length_drop,hlen2];omega)];exact h5
      ·have hnw:=New.at m (CO.opn ty' sz (seg xs 0 (n*sz)++ly));refine⟨.opn m.nxt 0 (n+(k+1)),_,.inl (hs'.trans ?_),grow (fun u=>by cases u<;>simp) ?_ (opnew (zbh hl) (zgI ha _ _) hes' hnw.self) fun e' he=>.lstO he⟩
       ·unfold zjy;rw[show Nat.ble (n+(k+1)) c=false by rw[Bool.eq_false_iff];intro hq;exact hroom (ya9 hq)]
       ·rw[zcV hc0];exact Chg.new' hnw fun t ht=>by cases ht;exact hlt
    ·have hlt:=hM.sk.wf.lt hg;have hl:(0+n)*sz<=xs.length:=by rw[Nat.zero_add];exact hcl
     have hx0:elems m sz (.opn tt 0 n)=some (n,seg xs (0*sz) (n*sz)):=zjg hg hl;have hs:=sel hx0 hn;have hes':∀i,i<n->RepL R noE (el i) (seg (seg xs (0*sz) (n*sz)) (i*sz) sz):=fun i hi=>by
      rw[zdO (zcC hi),Nat.zero_mul,Nat.zero_add];exact hes i hi
     cases nx with
     |zero=>
      refine⟨_,m,.inr ⟨hs,rfl⟩,grow (fun u=>by cases u<;>simp) Chg.refl' (OR.mkO hg hcl ha fun i hi=>?_) fun e' he=>.lstO he⟩;unfold zcd;rw[if_pos (show i<n from hi)];exact hes i hi
     |succ k=>
      have hs':out=zqU m.nxt m ty' sz (k+1) ly (seg xs (0*sz) (n*sz)) tt 0 n:=hs;by_cases hroom:(0+n+(k+1))*sz<=xs.length
      ·have hsz:=hroom;rw[Nat.zero_add,Nat.add_mul]at hsz;have hw':=zor (m:=m) (off:=(0+n)*sz) (vs:=ly) hg hall (by rw[hlen,Nat.zero_add];omega);have hput:=Put.mk' m tt (.opn ty' sz (zaA xs ((0+n)*sz) ly)) (fun o' ho'=>by rw[hg]at ho';cases ho';rfl);refine⟨.opn tt 0 (n+(k+1)),m.put tt (.opn ty' sz (zaA xs ((0+n)*sz) ly)),.inl (hs'.trans ?_),grow (fun u=>by cases u<;>simp) (Chg.put' hput hlt) (OR.mkO hput.self (by rw[zaN,Nat.add_mul];omega) (zgb ha hall) ?_) fun e' he=>.lstO he⟩
       ·unfold zqU;simp only[hg,show Nat.beq ty' ty'=true from Nat.beq_refl ty',yb1 hroom,hw']
       ·rw[zcY _ _ _ (by rw[hlen,Nat.zero_add];omega),Nat.zero_add];have:=zdt (R:=R) (e:=noE) (a:=xs.take (n*sz)) (b:=ly) (n:=n) (k:=k+1) (sz:=sz) (ea:=el) (eb:=new) (by rw[List.length_take];omega) hlen (fun i hi=>by
         have:=hes' i hi;unfold seg at this ⊢;simpa using this) hel
        intro i hi;have h5:=this i hi;have hm:=zcC (sz:=sz) hi;unfold seg at h5 ⊢;have hlen2:(xs.take (n*sz)++ly).length=(n+(k+1))*sz:=by rw[ya1,List.length_take,hlen,Nat.min_eq_left (by omega),<- Nat.add_mul]
        rw[List.drop_append_of_le_length (by rw[hlen2];omega),List.take_append_of_le_length (by rw[List.length_drop,hlen2];omega)];exact h5
      ·refine⟨.opn m.nxt 0 (n+(k+1)),(m.kill tt).newAt m.nxt (.opn ty' sz (seg xs (0*sz) (n*sz)++ly)),.inl (hs'.trans ?_),grow (fun u=>by cases u<;>simp) (Chg.killNew fun o' ho'=>by rw[hg]at ho';cases ho';rfl) (opnew (zbh (by rw[Nat.zero_mul,Nat.zero_add];exact hcl)) (zgI ha _ _) hes' ?_) fun e' he=>.lstO he⟩
       ·unfold zqU;simp only[hg,show Nat.beq ty' ty'=true from Nat.beq_refl ty'];rw[show Nat.ble ((0+n+(k+1))*sz) xs.length=false by rw[Bool.eq_false_iff];intro hq;exact hroom (ya9 hq)]
       ·have hnw:=New.at (m.kill tt) (CO.opn ty' sz (seg xs (0*sz) (n*sz)++ly));exact hnw.self
   ·exact h.elim
  ·exact h.elim
 ·exact h.elim
theorem zxy{T sz:Nat}{ty ty2:TypeId}{x y:CV}{q:Nat×List CV}(h:elems m sz y=some q):ap2 P T m ty ty2 x y=zd7 P T m ty ty2 x y:=by
 cases y<;>first |rfl |cases h
theorem zrP{ty:TypeId}{v w:SV}{x y:CV}(hM:MSat G R e O m)(hT:TSat R e T t)(hv:Rep R e v x)(hw:Rep R e w y)(h:zof P ty v w T O K):
  ∃z m',(ap2 P m.nxt m ty ty x y=.mem z m'\/(ap2 P m.nxt m ty ty x y=.val z/\m'=m))/\Gone G R e t K z m':=by
 unfold zof at h;split at h
 ·rename_i elem hu;split at h
  ·rename_i inf hi;split at h
   ·rename_i z hz;split at h
    ·rename_i hb;simp only[ya2]at hb;obtain⟨hb0,hb1,hb2⟩:=hb;split at h
     ·rename_i nx new hy;obtain⟨ly,hly,hlen,hall,hel⟩:=zw8 hM hw hy;exact zms hM hT hv (fun hx hn=>(zxy hly).trans (zoy hu hi hz hb0 hb1 hb2 hly hx hn)) hlen hall hel h
     ·exact h.elim
    ·exact h.elim
   ·exact h.elim
  ·exact h.elim
 ·exact h.elim
theorem zml{ty ty2 elem:TypeId}{inf:TypeInfo}{z lx:List CV}{n:Nat}{x:CV}{s:List Nat}(hu:P.underlying ty=some (.slice elem))(hu2:P.underlying ty2=some .string)(hi:P.info? elem=some inf)(hz:zfj P elem=some z)(hb0:Nat.beq inf.size 1=true)(hb1:Nat.beq z.length 1=true)(hb2:Nat.ble inf.bytes 1000000=true)
  (hx:elems m 1 x=some (n,lx)) (hn:n+s.length<=1000000):zd5 P m.nxt m ty ty2 x s=zvI m.nxt m elem 1 (s.map fun b=>.int .u8 (.ofNat (b%256))) lx x s.length:=by
 have hf:zw2 inf.bytes (n+s.length)=true:=by unfold zw2;rw[yb1 hn,hb2];rfl
 unfold zd5;simp only[hu,hu2,hi,hz,hb0,hb1,Bool.and_self,hx,hf];cases s<;>rfl
theorem zrB{R:RO}{s:List Nat}{i:Nat}(hi:i<s.length):RepL R noE (ziK s i) (seg (s.map fun b=>CV.int .u8 (.ofNat (b%256))) (i*1) 1):=by
 rw[Nat.mul_one];unfold seg ziK;rw[List.drop_eq_getElem_cons (by simpa using hi)];simp only[List.getElem_map,List.take_succ_cons,List.take_zero,ya8,yb5 hi,Option.getD_some];exact .cons (.cv rfl) .nil
theorem zoD{ty ty2:TypeId}{v:SV}{x:CV}{s:List Nat}(hM:MSat G R e O m)(hT:TSat R e T t)(hv:Rep R e v x)(h:zk0 P ty ty2 v s T O K):
  ∃z m',(zd5 P m.nxt m ty ty2 x s=.mem z m'\/(zd5 P m.nxt m ty ty2 x s=.val z/\m'=m))/\Gone G R e t K z m':=by
 unfold zk0 at h;split at h
 ·rename_i elem hu;split at h
  ·rename_i hu2;split at h
   ·rename_i inf hi;split at h
    ·rename_i z hz;split at h
     ·rename_i hb;simp only[ya2]at hb;obtain⟨hb0,hb1,hb2⟩:=hb;exact zms hM hT hv (fun hx hn=>zml hu hu2 hi hz hb0 hb1 hb2 hx hn) (by simp) (zh8 s) (fun i hi=>zrB hi) h
     ·exact h.elim
    ·exact h.elim
   ·exact h.elim
  ·exact h.elim
 ·exact h.elim
end
end Go.Cx
namespace Go.Cx
open Go
theorem zpJ{P:Program}{ty:TypeId}{xs:List CV}{a n off:Nat}{x:CV}(hl:a+n<=xs.length)(h:part P ty (seg xs a n) off=some x):part P ty xs (a+off)=some x:=by
 have hn:∀{i:Nat} {y:CV},nth (seg xs a n) i=some y->nth xs (a+i)=some y:=fun{i y} h=>by
  rw[zbV]at h ⊢;unfold seg at h;rw[List.getElem?_take]at h;split at h
  ·rw[List.getElem?_drop]at h;exact h
  ·cases h
 unfold part at h ⊢;split at h
 ·exact hn h
 ·rename_i k ha;split at h
  ·rename_i l ht;obtain⟨h1,rfl⟩:=zbZ ht;unfold seg at h1;rw[List.length_take,List.length_drop]at h1;have h3:zep xs (a+off) k=some (seg xs (a+off) k):=by
    unfold zep;by_cases hk:a+off+k<=xs.length
    ·rw[yb1 hk];rfl
    ·exfalso;omega
   simp only[h3];rw[<- h];congr 2;show seg xs (a+off) k=seg (seg xs a n) off k;rw[zdO (by omega)]
  ·cases h
 ·cases h
noncomputable def ztF(P:Program)(ty:TypeId)(O:List SObj)(p:SV)(K:SV->Prop):Prop:=match p with
 |.ptr o off=>match zbG O o with
  |.cells _ cs=>zme P ty cs off K
  |_=>False
 |.ept o sz i off=>match zbG O o with
  |.list _ sz' n el=>match Nat.beq sz sz' with
   |true=>i<n/\zme P ty (el i) off K
   |false=>False
  |_=>False
 |.ipt cs off=>zme P ty cs off K
 |_=>False
def zmX(i:Nat)(cs:List SV)(el:Nat->List SV):Nat->List SV:=fun j=>if j=i then cs else el j
noncomputable def zmt(P:Program)(ty:TypeId)(T:List SV)(O:List SObj)(p v:SV)(K:List SV->List SObj->Prop):Prop:=match P.info? ty with
 |some inf=>match zjc v with
  |some vs=>match Nat.beq (zcb vs) inf.size&&ziO vs with
   |true=>match p with
    |.ptr o off=>match zbG O o with
     |.cells ty' cs=>match Nat.ble (off+zcb vs) (zcb cs) with
      |true=>zy4 cs off vs fun cs=>zcW O o (.cells ty' cs) fun O=>K T O
      |false=>False
     |_=>False
    |.ept o sz i off=>znh 9 (.ept o sz i off::vs) T O fun l T O=>match l with
     |.ept o sz i off::vs=>match zbG O o with
      |.list ty' sz' n el=>match Nat.beq sz sz'&&(vs.all (zeM zal)&&ziO vs) with
       |true=>(i<n/\off+zcb vs<=sz)/\zy4 (el i) off vs fun cs=>zcW O o (.list ty' sz' n (zmX i cs el)) fun O=>K T O
       |false=>False
      |_=>False
     |_=>False
    |_=>False
   |false=>False
  |none=>False
 |none=>False
noncomputable def zeV(P:Program)(ty:TypeId)(O:List SObj)(x:SV)(i:SV)(K:SV->Prop):Prop:=match i with
 |.cv (.int _ k)=>match P.underlying ty with
  |some (.slice elem)=>match P.info? elem with
   |some inf=>match x with
    |.isl sz n el=>match Nat.beq sz inf.size with
     |true=>(0<=k/\k<n)/\K (.ipt (el k.toNat) 0)
     |false=>False
    |.islx sz n el=>match Nat.beq sz inf.size with
     |true=>(0<=k/\k<n)/\K (.ipt (el k.toNat) 0)
     |false=>False
    |.lst o=>match zbG O o with
     |.list _ sz n _=>match Nat.beq sz inf.size with
      |true=>(0<=k/\k<n)/\K (.ept o sz k.toNat 0)
      |false=>False
     |_=>False
    |.sub o off n _=>(0<=k/\k<n)/\K (.ptr o (off+k.toNat*inf.size))
    |_=>False
   |none=>False
  |some (.array len elem)=>match P.info? elem with
   |some inf=>match x with
    |.ptr o off=>(0<=k/\k<len)/\K (.ptr o (off+k.toNat*inf.size))
    |.ipt cs off=>(0<=k/\k<len)/\K (.ipt cs (off+k.toNat*inf.size))
    |.ept o sz i off=>(0<=k/\k<len)/\K (.ept o sz i (off+k.toNat*inf.size))
    |_=>False
   |none=>False
  |_=>False
 |_=>False
noncomputable def zeK(P:Program)(s:TypeId)(x:SV)(f:Nat)(K:SV->Prop):Prop:=
 match P.underlying s with
 |some (.struct fs)=>match nth fs.toList f with
  |some fd=>match P.info? fd.type with
   |some i=>match i.size with
    |0=>False
    |_+1=>match x with
     |.ptr o off=>K (.ptr o (off+fd.offset))
     |.ipt cs off=>K (.ipt cs (off+fd.offset))
     |.ept o sz i off=>K (.ept o sz i (off+fd.offset))
     |_=>False
   |none=>False
  |none=>False
 |_=>False
noncomputable def zpy(P:Program)(t:TypeId)(x:SV)(f:Nat)(K:SV->Prop):Prop:=
 match P.underlying t with
 |some (.struct fs)=>match x with
  |.agg cs=>match nth fs.toList f with
   |some fd=>zme P fd.type cs fd.offset K
   |none=>False
  |_=>False
 |_=>False
noncomputable def zpG(P:Program)(t:TypeId)(ps:List (Nat×SV))(K:SV->Prop):Prop:=
 match zfj P t with
 |none=>False
 |some z=>match P.underlying t with
  |some (.struct fs)=>match zis P fs.toList with
   |true=>zbC fz1 (svL z) fun z=>zrn (zdK P fs) z ps fun cs=>K (.agg cs)
   |false=>False
  |some (.array _ elem)=>match P.info? elem with
   |some i=>zbC fz1 (svL z) fun z=>zrn (fun k=>some (k*i.size,i.size)) z ps fun cs=>K (.agg cs)
   |none=>False
  |_=>False
def zc9(sz:Nat)(cs:List SV):Nat->List SV:=fun i=>(cs.drop (i*sz)).take sz
def zko:SV->Option (IntKind×Int)
 |.cv x=>match x with
  |.int k n=>some (k,n)
  |_=>none
 |_=>none
noncomputable def zxX(k:IntKind):Option (IntKind×Int)->Option (List Int)->Option (List Int)
 |some p,l=>match p with
  |(k',n)=>match kEq k k' with
   |true=>match l with
    |some l=>some (n::l)
    |none=>none
   |false=>none
 |none,_=>none
noncomputable def zzM(k:IntKind):List (Option (IntKind×Int))->Option (List Int)
 |[]=>some []
 |v::r=>zxX k v (zzM k r)
noncomputable def zos(k:IntKind)(cs:List SV):Option (List Int):=zzM k (cs.map zko)
noncomputable def zr8(cs:List SV):Option (IntKind×List Int):=match cs with
 |[]=>none
 |v::_=>match zko v with
  |some p=>match p with
   |(k,_)=>match zos k cs with
    |some l=>some (k,l)
    |none=>none
  |none=>none
def zwU(k:IntKind)(xs:List Int):Nat->List SV:=fun i=>[.cv (.int k (xs.getD i 0))]
noncomputable def zoH(w:Bool)(sz:Nat)(cs:List SV)(K:(Nat->List SV)->Prop):Prop:=match w&&Nat.beq sz 1 with
 |true=>match zr8 cs with
  |some (k,xs)=>K (zwU k xs)
  |none=>K (zc9 sz cs)
 |false=>K (zc9 sz cs)
theorem zuc{v:SV}{k:IntKind}{n:Int}(h:zko v=some (k,n)):v=.cv (.int k n):=by
 unfold zko at h;split at h
 ·split at h
  ·cases h;rfl
  ·cases h
 ·cases h
theorem zjS{k:IntKind}:∀{cs:List SV} {xs:List Int},zos k cs=some xs->cs=xs.map fun x=>SV.cv (.int k x)
 |[],_,h=>by cases h;rfl
 |v::r,xs,h=>by
  have h:zxX k (zko v) (zos k r)=some xs:=h;have ih:=@zjS k r;cases hp:zko v with
  |none=>rw[hp]at h;cases h
  |some p=>
   obtain⟨k',n⟩:=p;rw[hp]at h;unfold zxX at h;simp only at h;split at h
   ·rename_i hk;have hk:=zbl hk;subst hk;split at h
    ·rename_i l' hq;cases h;rw[zuc hp,ih hq];rfl
    ·cases h
   ·cases h
theorem zr7{cs:List SV}{k:IntKind}{xs:List Int}(h:zr8 cs=some (k,xs)):cs=xs.map fun x=>SV.cv (.int k x):=by
 unfold zr8 at h;split at h
 ·cases h
 ·split at h
  ·split at h;rename_i k0 n0 hp;split at h
   ·rename_i hq;cases h;exact zjS hq
   ·cases h
  ·cases h
theorem zjP{w:Bool}{sz:Nat}{cs:List SV}{K:(Nat->List SV)->Prop}(h:zoH w sz cs K):∃el,K el/\∀j n,j<n->n*sz=cs.length->el j=(cs.drop (j*sz)).take sz:=by
 unfold zoH at h;split at h
 ·rename_i hw;split at h
  ·rename_i k xs hq;refine⟨_,h,fun j n hj hn=>?_⟩;have hs:sz=1:=by
    simp only[ya2]at hw;have:=hw.2;simpa using this
   subst hs;rw[zr7 hq]at hn ⊢;have hj:j<xs.length:=by rw[yb7]at hn;omega
   rw[Nat.mul_one,List.drop_eq_getElem_cons (by simpa using hj)];simp[zwU,yb5 hj]
  ·exact⟨_,h,fun j n hj hn=>rfl⟩
 ·exact⟨_,h,fun j n hj hn=>rfl⟩
noncomputable def zc6(P:Program)(ws:List TypeId)(t:TypeId)(len:Nat)(ps:List (Nat×SV))(T:List SV)(O:List SObj)(K:DK):Prop:=
 match P.underlying t with
 |some (.slice elem)=>match P.info? elem with
  |some i=>match zfj P elem with
   |some z=>match Nat.blt 0 i.size&&(Nat.ble (len*i.size) 100000&&Nat.beq z.length i.size) with
    |true=>zbC fz1 (svL (rep z len)) fun z=>zrn (fun k=>some (k*i.size,i.size)) z ps fun cs=>znh 9 cs T O fun cs T O=>match ziO cs&&cs.all (zeM zal) with
     |true=>zoH (ws.any (Nat.beq t)) i.size cs fun el=>zrR O (.list elem i.size len el) fun o O=>K (.lst o) T O
     |false=>False
    |false=>False
   |none=>False
  |none=>False
 |_=>False
noncomputable def zyZ(ty:TypeId)(v:SV)(T:List SV)(O:List SObj)(K:DK):Prop:=match zjc v with
 |some cs=>match ziO cs with
  |true=>zrR O (.cells ty cs) fun o O=>K (.ptr o 0) T O
  |false=>False
 |none=>False
noncomputable def zdy(P:Program)(t:TypeId)(l c:SV)(T:List SV)(O:List SObj)(K:DK):Prop:=
 match P.underlying t with
 |some (.slice elem)=>match P.info? elem with
  |some i=>match zfj P elem with
   |some z=>match l,c with
    |.cv (.int .i64 l),.cv (.int .i64 c)=>match Nat.blt 0 i.size&&(Nat.beq z.length i.size&&z.all one) with
     |true=>(0<=l/\l<=c/\0<c/\c<=100000/\c.toNat*i.bytes<=1000000000)/\zbC fz1 (svL z) fun z=>zrR O (.list elem i.size l.toNat (fun _=>z)) fun o O=>K (.lst o) T O
     |false=>False
    |_,_=>False
   |none=>False
  |none=>False
 |_=>False
def znt(x:Option SV)(d:Int):Option Int:=
 match x with
 |none=>some d
 |some (.cv (.int _ n))=>some n
 |some _=>none
def zsR(a:Nat)(el:Nat->List SV):Nat->List SV:=fun i=>el (a+i)
noncomputable def zuI(P:Program)(ty:TypeId)(x:SV)(lo hi mx:Option SV)(T:List SV)(O:List SObj)(K:DK):Prop:=
 match mx with
 |some (.cv (.int _ (.ofNat 0)))=>match P.underlying ty with
  |some (.slice elem)=>match P.info? elem with
   |some inf=>match znt lo 0,hi with
    |some (.ofNat 0),some (.cv (.int _ (.ofNat 0)))=>match x with
     |.cv .nils=>K .emp T O
     |.isl sz _ _=>match Nat.beq sz inf.size&&Nat.blt 0 sz with
      |true=>K .emp T O
      |false=>False
     |_=>False
    |_,_=>False
   |none=>False
  |_=>False
 |some _=>False
 |none=>match P.underlying ty with
  |some .string=>match x with
   |.cv (.str s)=>match znt lo 0,znt hi s.length with
    |some a,some b=>(0<=a/\a<=b/\b<=s.length)/\K (.cv (.str (zAJ s a b))) T O
    |_,_=>False
   |_=>False
  |some (.slice elem)=>match P.info? elem with
   |some inf=>match Nat.blt 0 inf.size with
    |true=>match x with
     |.isl sz n el=>match Nat.beq sz inf.size with
      |true=>match znt lo 0,znt hi n with
       |some a,some b=>(0<=a/\a<=b/\b<=n)/\K (.islx sz (b.toNat - a.toNat) (zsR a.toNat el)) T O
       |_,_=>False
      |false=>False
     |.lst o=>match lo with
      |none=>match zbG O o with
       |.list ty' sz n el=>match Nat.beq sz inf.size with
        |true=>match znt hi n with
         |some b=>(0<=b/\b<=n)/\zq8 o .junk T O fun T O=>zcW O o (.list ty' sz b.toNat el) fun O=>K (.lst o) T O
         |none=>False
        |false=>False
       |_=>False
      |some _=>False
     |_=>False
    |false=>False
   |none=>False
  |some (.array n elem)=>match P.info? elem with
   |some inf=>match x with
    |.ptr o off=>match znt lo 0,znt hi n with
     |some (.ofNat 0),some b=>(b=n/\0<n)/\K (.sub o off n n) T O
     |_,_=>False
    |.ipt cs off=>match znt lo 0,znt hi n with
     |some (.ofNat 0),some b=>(b=n/\0<n/\off=0/\n*inf.size=zcb cs)/\K (.isl inf.size n (zc9 inf.size cs)) T O
     |_,_=>False
    |_=>False
   |none=>False
  |_=>False
noncomputable def zAG(P:Program)(ty:TypeId)(O:List SObj)(x:SV)(K:SV->Prop):Prop:=
 match P.underlying ty with
 |some .string=>match x with
  |.cv (.str s)=>K (.cv (.int .i64 s.length))
  |_=>False
 |some (.slice _)=>match x with
  |.cv .nils=>K (.cv (.int .i64 (0:Nat)))
  |.emp=>K (.cv (.int .i64 (0:Nat)))
  |.isl _ n _=>K (.cv (.int .i64 n))
  |.islx _ n _=>K (.cv (.int .i64 n))
  |.lst o=>match zbG O o with
   |.list _ _ n _=>K (.cv (.int .i64 n))
   |_=>False
  |.sub _ _ n _=>K (.cv (.int .i64 n))
  |_=>False
 |some (.array n _)=>K (.cv (.int .i64 n))
 |_=>False
noncomputable def zpp(P:Program)(ty:TypeId)(x i:SV)(K:SV->Prop):Prop:=
 match i with
 |.cv (.int _ k)=>match P.underlying ty with
  |some .string=>match x with
   |.cv (.str s)=>(0<=k/\k<s.length)/\K (.cv (.int .u8 (gbN s k)))
   |_=>False
  |some (.array len elem)=>match x with
   |.agg cs=>match P.info? elem with
    |some inf=>(0<=k/\k<len)/\zme P elem cs (k.toNat*inf.size) K
    |none=>False
   |_=>False
  |_=>False
 |_=>False
noncomputable def zs7(P:Program)(c:DCfg)(src dst:TypeId)(x:SV)(T:List SV)(O:List SObj)(K:DK):Prop:=
 match P.underlying src with
 |none=>False
 |some (.slice el)=>match P.underlying dst with
  |some .string=>match P.underlying el with
   |some (.int .u8)=>match zhG 1 O x with
    |some (n,e)=>∃s:List Nat,(s.length=n/\∀i,i<n->s.getD i 0<256/\e i=[.cv (.int .u8 ((s.getD i 0:Nat):Int))])/\K (.cv (.str s)) T O
    |none=>False
   |_=>False
  |_=>False
 |some sd=>match P.underlying dst with
  |some (.int k)=>match x with
   |.cv (.int _ n)=>match c.wrap with
    |true=>K (.cv (.int k (k.wrap n))) T O
    |false=>inK k n/\K (.cv (.int k n)) T O
   |_=>False
  |some .string=>match x with
   |.cv (.str s)=>match sd with
    |.string=>K (.cv (.str s)) T O
    |_=>False
   |.cv (.int _ n)=>match sd with
    |.int _=>(0<=n/\n<128)/\K (.cv (.str [n.toNat])) T O
    |_=>False
   |_=>False
  |some (.slice el)=>match P.underlying el with
   |some (.int .u8)=>match sd with
    |.string=>match x with
     |.cv (.str s)=>s.length<=1000000/\zrR O (.list el 1 s.length (ziK s)) fun o O=>K (.lst o) T O
     |_=>False
    |_=>False
   |_=>False
  |some .unsafePointer=>match sd with
   |.pointer el=>match x with
    |.ptr o off=>match zbG O o with
     |.cells _ cs=>match P.info? el with
      |some i=>match Nat.blt 0 i.size&&Nat.blt off (zcb cs) with
       |true=>K (.ptr o off) T O
       |false=>False
      |none=>False
     |_=>False
    |_=>False
   |_=>False
  |some (.pointer u)=>match sd with
   |.unsafePointer=>match x with
    |.ptr o off=>match zbG O o with
     |.cells ty cs=>match P.info? u with
      |some _=>zzp (zcb cs) fun n=>ClosedB (liesAt P P.depth ty (n / P.cellsOf ty) off u 1)/\K (.ptr o off) T O
      |none=>False
     |_=>False
    |_=>False
   |_=>False
  |_=>False
def zeZ(O:List SObj)(x:SV)(K:SV->Prop):Prop:=match x with
 |.lst o=>match zbG O o with
  |.list _ sz n _=>match Nat.blt 0 sz with
   |true=>0<n/\K (.ept o sz 0 0)
   |false=>False
  |_=>False
 |_=>False
noncomputable def zgF(P:Program)(pt:TypeId)(x n:SV)(T:List SV)(O:List SObj)(K:DK):Prop:=match x with
 |.ept o sz i off=>match n with
  |.cv (.int .i64 k)=>match P.underlying pt with
   |some (.pointer el)=>match zbG O o with
    |.list ty sz' len e=>match Nat.beq (P.cellsOf el) 1&&(Nat.beq ty el&&(Nat.beq sz 1&&(Nat.beq sz' 1&&(Nat.beq i 0&&Nat.beq off 0)))) with
     |true=>(k=len/\0<len/\len<=1000000)/\∃s:List Nat,(s.length=len/\∀j,j<len->s.getD j 0<256/\e j=[.cv (.int .u8 ((s.getD j 0:Nat):Int))]) /\
       zq8 o .junk T O fun T O=>zcW O o (.list ty 1 0 e) fun O=>K (.cv (.str s)) T O
     |false=>False
    |_=>False
   |_=>False
  |_=>False
 |_=>False
noncomputable def zgV(mx:Bool)(l:List SV)(K:SV->Prop):Prop:=match l with
 |[.cv a,.cv b]=>zoM mx [a,b] fun v=>cvK v K
 |_=>False
def zAs(x:SV)(K:SV->Prop):Prop:=match x with
 |.ptr o off=>K (.ptr o off)
 |.ept o s i off=>K (.ept o s i off)
 |.ipt cs off=>K (.ipt cs off)
 |.fn f a b=>K (.fn f a b)
 |.cv (.yld l)=>K (.cv (.yld l))
 |_=>False
def zhZ(i:Nat)(x:SV)(K:SV->Prop):Prop:=match x with
 |.tup vs=>knK (zer vs i) K
 |_=>False
noncomputable def zqJ(P:Program)(ty:TypeId)(x:SV)(K:SV->Prop):Prop:=match P.underlying ty with
 |some (.interface _)=>False
 |some _=>K (.ifc ty x)
 |none=>False
noncomputable def zlK(P:Program)(v:SV)(a:TypeId)(ok:Bool)(K:SV->Prop):Prop:=match v with
 |.ifc t x=>match zil P a with
  |some z=>match Nat.beq t a with
   |true=>match ok with
    |true=>K (.tup [x,.cv (.bool true)])
    |false=>K x
   |false=>match ok with
    |true=>K (.tup [zuR z,.cv (.bool false)])
    |false=>False
  |none=>False
 |_=>False
noncomputable def zkI(P:Program)(v:SV)(a:TypeId)(ok:Bool)(K:SV->Prop):Prop:=match P.underlying a with
 |some u=>match u with
  |.interface _=>False
  |_=>zlK P v a ok K
 |none=>False
theorem zoG{P:Program}{R:RO}{e:DEnv}{v:SV}{x:CV}{a:TypeId}{ok:Bool}{K:SV->Prop}{u:TypeDesc}(hu:P.underlying a=some u)(hne:∀n,u≠.interface n)(hv:Rep R e v x)(h:zlK P v a ok K):∃u z,zaK P x a ok=.val z/\Rep R e u z/\K u:=by
 unfold zlK at h;cases hv<;>try (exact h.elim)
 rename_i t y w hy;cases hz:zil P a with
 |none=>rw[hz]at h;exact h.elim
 |some z=>
  simp only[hz]at h;cases hb:Nat.beq t a with
  |true=>
   simp only[hb]at h;cases ok with
   |true=>exact⟨_,.tup [w,.bool true],by unfold zaK;simp only[hu,hz,hb],.tup (.cons hy (.cons (.cv (x:=.bool true) rfl) .nil)),h⟩
   |false=>exact⟨_,w,by unfold zaK;simp only[hu,hz,hb],hy,h⟩
  |false=>
   simp only[hb]at h;cases ok with
   |true=>exact⟨_,.tup [z,.bool false],by unfold zaK;simp only[hu,hz,hb],.tup (.cons (zdT z) (.cons (.cv (x:=.bool false) rfl) .nil)),h⟩
   |false=>exact h.elim
theorem zku{P:Program}{R:RO}{e:DEnv}{v:SV}{x:CV}{a:TypeId}{ok:Bool}{K:SV->Prop}(hv:Rep R e v x)(h:zkI P v a ok K):∃u z,zaK P x a ok=.val z/\Rep R e u z/\K u:=by
 unfold zkI at h;cases hu:P.underlying a with
 |none=>rw[hu]at h;exact h.elim
 |some u=>
  rw[hu]at h;cases u<;>first |exact h.elim |exact zoG hu (fun n hh=>by cases hh) hv h
end Go.Cx
namespace Go.Cx
open Go
def zaL:Nat->SV->List Nat
 |_,.ptr o _=>[o]
 |_,.ept o _ _ _=>[o]
 |_,.lst o=>[o]
 |_,.sub o _ _ _=>[o]
 |_,.map o=>[o]
 |d+1,.agg cs=>cs.flatMap (zaL d)
 |d+1,.tup cs=>cs.flatMap (zaL d)
 |d+1,.fn _ a b=>a.flatMap (zaL d)++b.flatMap (zaL d)
 |d+1,.ifc _ v=>zaL d v
 |_,_=>[]
def zBN:SObj->List Nat
 |.cells _ cs=>cs.flatMap (zaL zal)
 |_=>[]
def zaM(n:Nat):List Nat->Bool
 |[]=>false
 |x::xs=>match Nat.beq x n with
  |true=>true
  |false=>zaM n xs
def zdh:Nat->List SObj->List Nat->List Nat->(List Nat->Prop)->Prop
 |0,_,_,seen,k=>k seen
 |_+1,_,[],seen,k=>k seen
 |f+1,O,o::r,seen,k=>match zaM o seen with
  |true=>zdh f O r seen k
  |false=>zdh f O (zBN (zbG O o)++r) (o::seen) k
theorem zfY:∀(f:Nat) (O:List SObj) (r seen:List Nat) (k:List Nat->Prop),∃l,zdh f O r seen k=k l
 |0,_,_,seen,_=>⟨seen,rfl⟩
 |_+1,_,[],seen,_=>⟨seen,rfl⟩
 |f+1,O,o::r,seen,k=>by
  unfold zdh;split
  ·exact zfY f O r seen k
  ·exact zfY f O _ _ k
def rsLeaf(L:List Nat):SV->SV
 |.lst i=>match zaM i L with
  |true=>.lst i
  |false=>.junk
 |.ept i sz k off=>match zaM i L with
  |true=>.ept i sz k off
  |false=>.junk
 |.ptr i off=>match zaM i L with
  |true=>.ptr i off
  |false=>.junk
 |.sub i off n c=>match zaM i L with
  |true=>.sub i off n c
  |false=>.junk
 |.map i=>match zaM i L with
  |true=>.map i
  |false=>.junk
 |.agg _=>.junk
 |.tup _=>.junk
 |.fn _ _ _=>.junk
 |.ifc _ _=>.junk
 |v=>v
def rs(L:List Nat):Nat->SV->SV
 |0,v=>rsLeaf L v
 |d+1,.agg cs=>.agg (cs.map (rs L d))
 |d+1,.tup cs=>.tup (cs.map (rs L d))
 |d+1,.fn f a b=>.fn f (a.map (rs L d)) (b.map (rs L d))
 |d+1,.ifc ty v=>.ifc ty (rs L d v)
 |_+1,v=>rsLeaf L v
def zly(L:List Nat)(v:SV)(k:SV->Prop):Prop:=match v with
 |.lst i=>match zaM i L with
  |true=>k (.lst i)
  |false=>k .junk
 |.ept i sz j off=>match zaM i L with
  |true=>k (.ept i sz j off)
  |false=>k .junk
 |.ptr i off=>match zaM i L with
  |true=>k (.ptr i off)
  |false=>k .junk
 |.sub i off n c=>match zaM i L with
  |true=>k (.sub i off n c)
  |false=>k .junk
 |.map i=>match zaM i L with
  |true=>k (.map i)
  |false=>k .junk
 |.agg _=>k .junk
 |.tup _=>k .junk
 |.fn _ _ _=>k .junk
 |.ifc _ _=>k .junk
 |v=>k v
def rsK(L:List Nat):Nat->SV->(SV->Prop)->Prop
 |0,v,k=>zly L v k
 |d+1,.agg cs,k=>zbC (rsK L d) cs fun cs=>k (.agg cs)
 |d+1,.tup cs,k=>zbC (rsK L d) cs fun cs=>k (.tup cs)
 |d+1,.fn f a b,k=>zbC (rsK L d) a fun a=>zbC (rsK L d) b fun b=>k (.fn f a b)
 |d+1,.ifc ty v,k=>rsK L d v fun v=>k (.ifc ty v)
 |_+1,v,k=>zly L v k
theorem zj5(L:List Nat)(v:SV)(k:SV->Prop):zly L v k=k (rsLeaf L v):=by
 cases v<;>simp only[zly,rsLeaf]<;>split<;>rfl
theorem zfb(L:List Nat):∀(d:Nat) (v:SV) (k:SV->Prop),rsK L d v k=k (rs L d v)
 |0,v,k=>by unfold rsK rs;exact zj5 L v k
 |d+1,v,k=>by
  cases v<;>simp only[rsK,rs]<;>first
   |exact zj5 L _ k
   |(rw[zai (zfb L d),zai (zfb L d)])
   |(rw[zai (zfb L d)])
   |(rw[zfb L d])
def zmn(L:List Nat):Nat->List SObj->List SObj
 |_,[]=>[]
 |i,so::r=>(match zaM i L with
  |true=>(match so with
   |.cells ty cs=>.cells ty (cs.map (rs L zal))
   |so=>so)
  |false=>.dead)::zmn L (i+1) r
def zvR(so:SObj)(l:List SObj):List SObj:=match so,l with
 |.dead,[]=>[]
 |so,l=>so::l
def zkL(L:List Nat):Nat->List SObj->List SObj
 |_,[]=>[]
 |i,so::r=>zvR (match zaM i L with
  |true=>(match so with
   |.cells ty cs=>.cells ty (cs.map (rs L zal))
   |so=>so)
  |false=>.dead) (zkL L (i+1) r)
def zqp(so:SObj)(l:List SObj)(k:List SObj->Prop):Prop:=match so with
 |.dead=>match l with
  |[]=>k []
  |l=>k (.dead::l)
 |so=>k (so::l)
theorem zei(so:SObj)(l:List SObj)(k:List SObj->Prop):zqp so l k=k (zvR so l):=by
 cases so<;>cases l<;>rfl
def zfJ(L:List Nat):Nat->List SObj->(List SObj->Prop)->Prop
 |_,[],k=>k []
 |i,so::r,k=>match zaM i L with
  |true=>match so with
   |.cells ty cs=>zbC (rsK L zal) cs fun cs=>zfJ L (Nat.succ i) r fun r=>zqp (.cells ty cs) r k
   |so=>zfJ L (Nat.succ i) r fun r=>zqp so r k
  |false=>zfJ L (Nat.succ i) r fun r=>zqp .dead r k
theorem zb7(L:List Nat):∀(i:Nat) (O:List SObj) (k:List SObj->Prop),zfJ L i O k=k (zkL L i O)
 |_,[],_=>rfl
 |i,so::r,k=>by
  unfold zfJ zkL;cases zaM i L with
  |false=>simp only;rw[zb7 L (i+1),zei]
  |true=>
   cases so<;>simp only
   ·rw[zb7 L (i+1),zei]
   ·rw[zai (zfb L zal),zb7 L (i+1),zei]
   ·rw[zb7 L (i+1),zei]
   ·rw[zb7 L (i+1),zei]
section
variable{R:RO}{e e':DEnv}{L:List Nat}
theorem Rep.rsLeaf(he:∀i x,zaM i L=true->e i=some x->e' i=some x){v:SV}{x:CV}(h:Rep R e v x):Rep R e' (rsLeaf L v) x:=by
 cases h with
 |junk=>exact .junk
 |cv h=>exact .cv h
 |agg h=>exact .junk
 |tup h=>exact .junk
 |fn ha hb=>exact .junk
 |ifc h=>exact .junk
 |ptr h=>simp only[Go.Cx.rsLeaf];split<;>first |exact .junk |(rename_i hq;exact .ptr (he _ _ hq h))
 |eptS h=>simp only[Go.Cx.rsLeaf];split<;>first |exact .junk |(rename_i hq;exact .eptS (he _ _ hq h))
 |eptO h=>simp only[Go.Cx.rsLeaf];split<;>first |exact .junk |(rename_i hq;exact .eptO (he _ _ hq h))
 |lstN h=>simp only[Go.Cx.rsLeaf];split<;>first |exact .junk |(rename_i hq;exact .lstN (he _ _ hq h))
 |lstV h=>simp only[Go.Cx.rsLeaf];split<;>first |exact .junk |(rename_i hq;exact .lstV (he _ _ hq h))
 |lstS h=>simp only[Go.Cx.rsLeaf];split<;>first |exact .junk |(rename_i hq;exact .lstS (he _ _ hq h))
 |lstE h=>simp only[Go.Cx.rsLeaf];split<;>first |exact .junk |(rename_i hq;exact .lstE (he _ _ hq h))
 |lstO h=>simp only[Go.Cx.rsLeaf];split<;>first |exact .junk |(rename_i hq;exact .lstO (he _ _ hq h))
 |sub h=>simp only[Go.Cx.rsLeaf];split<;>first |exact .junk |(rename_i hq;exact .sub (he _ _ hq h))
 |map h=>simp only[Go.Cx.rsLeaf];split<;>first |exact .junk |(rename_i hq;exact .map (he _ _ hq h))
 |islN=>exact .islN
 |islV=>exact .islV
 |islE=>exact .islE
 |islx h=>
  show Rep R e' (.islx _ _ _) x;cases h with
  |islN=>exact .islx .islN
  |islV=>exact .islx .islV
  |islS h1 h2 h3 h4 h0 h5=>exact .islx (.islS h1 h2 h3 h4 h0 h5)
  |islO h1 h2 h0 h3=>exact .islx (.islO h1 h2 h0 h3)
 |islS h1 h2 h3 h4 h0 h5=>exact .islS h1 h2 h3 h4 h0 h5
 |islO h1 h2 h0 h3=>exact .islO h1 h2 h0 h3
 |ipt h1 h2 h3 h0 h4=>exact .ipt h1 h2 h3 h0 h4
 |empN=>exact .empN
 |empV=>exact .empV
 |empS h=>exact .empS h
theorem Rep.rs(he:∀i x,zaM i L=true->e i=some x->e' i=some x):∀(d:Nat) {v:SV} {x:CV},Rep R e v x->Rep R e' (rs L d v) x
 |0,_,_,h=>h.rsLeaf he
 |d+1,v,x,h=>by
  have hl:∀{vs:List SV} {xs:List CV},RepL R e vs xs->RepL R e' (vs.map (Go.Cx.rs L d)) xs:=by
   intro vs
   induction vs with
   |nil=>intro xs h;cases h;exact .nil
   |cons v vs ih=>intro xs h;cases h with |cons hv hs=>exact .cons (Rep.rs he d hv) (ih hs)
  cases h with
  |agg h=>exact .agg (hl h)
  |tup h=>exact .tup (hl h)
  |fn ha hb=>exact .fn (hl ha) (hl hb)
  |ifc h=>exact .ifc (Rep.rs he d h)
  |junk=>exact Rep.rsLeaf he .junk
  |cv h=>exact Rep.rsLeaf he (.cv h)
  |ptr h=>exact Rep.rsLeaf he (.ptr h)
  |eptS h=>exact Rep.rsLeaf he (.eptS h)
  |eptO h=>exact Rep.rsLeaf he (.eptO h)
  |lstN h=>exact Rep.rsLeaf he (.lstN h)
  |lstV h=>exact Rep.rsLeaf he (.lstV h)
  |lstS h=>exact Rep.rsLeaf he (.lstS h)
  |lstE h=>exact Rep.rsLeaf he (.lstE h)
  |lstO h=>exact Rep.rsLeaf he (.lstO h)
  |sub h=>exact Rep.rsLeaf he (.sub h)
  |map h=>exact Rep.rsLeaf he (.map h)
  |islN=>exact Rep.rsLeaf he .islN
  |islV=>exact Rep.rsLeaf he .islV
  |islE=>exact Rep.rsLeaf he .islE
  |islx h=>exact Rep.rsLeaf he (.islx h)
  |islS h1 h2 h3 h4 h0 h5=>exact Rep.rsLeaf he (.islS h1 h2 h3 h4 h0 h5)
  |islO h1 h2 h0 h3=>exact Rep.rsLeaf he (.islO h1 h2 h0 h3)
  |ipt h1 h2 h3 h0 h4=>exact Rep.rsLeaf he (.ipt h1 h2 h3 h0 h4)
  |empN=>exact Rep.rsLeaf he .empN
  |empV=>exact Rep.rsLeaf he .empV
  |empS h=>exact Rep.rsLeaf he (.empS h)
theorem RepL.rs(he:∀i x,zaM i L=true->e i=some x->e' i=some x)(d:Nat):∀{vs:List SV} {xs:List CV},RepL R e vs xs->RepL R e' (vs.map (Go.Cx.rs L d)) xs
 |_,_,.nil=>.nil
 |_,_,.cons hv hs=>.cons (hv.rs he d) (RepL.rs he d hs)
theorem TSat.rs(he:∀i x,zaM i L=true->e i=some x->e' i=some x){T:List SV}{t:Tmps}(h:TSat R e T t):TSat R e' (T.map (Go.Cx.rs L zal)) t:=by
 refine⟨by rw[h.sz,yb7],fun i v hv=>?_⟩;rw[yb9]at hv;cases hT:T[i]? with
 |none=>rw[hT]at hv;cases hv
 |some u=>
  rw[hT]at hv;cases hv;rcases h.get i u hT with rfl |⟨x,h1,h2⟩
  ·exact .inl rfl
  ·exact .inr ⟨x,h1,h2.rs he zal⟩
def DEnv.only(e:DEnv)(L:List Nat):DEnv:=fun i=>match zaM i L with
 |true=>e i
 |false=>none
theorem DEnv.only_some{i:Nat}{x:CV}(h:e.only L i=some x):zaM i L=true/\e i=some x:=by
 unfold DEnv.only at h;split at h
 ·rename_i hq;exact⟨hq,h⟩
 ·cases h
theorem DEnv.only_of{i:Nat}{x:CV}(h1:zaM i L=true)(h2:e i=some x):e.only L i=some x:=by
 unfold DEnv.only;rw[h1];exact h2
def ze9(L:List Nat)(i:Nat)(so:SObj):SObj:=match zaM i L with
 |true=>(match so with
  |.cells ty cs=>.cells ty (cs.map (Go.Cx.rs L zal))
  |so=>so)
 |false=>.dead
theorem zmU(so:SObj)(l:List SObj)(i:Nat):((zvR so l)[i]?).getD .dead=((so::l)[i]?).getD .dead:=by
 cases so<;>cases l<;>cases i<;>simp[zvR]
theorem zjd:∀(O:List SObj) (k i:Nat),((zkL L k O)[i]?).getD .dead=((O[i]?).map (ze9 L (k+i))).getD .dead
 |[],_,_=>by simp[zkL]
 |so::r,k,0=>by
  unfold zkL;rw[zmU];simp[ze9]
 |so::r,k,i+1=>by
  unfold zkL;rw[zmU,yc6,zjd r (k+1) i,yc6,show k+1+i=k+(i+1)by omega]
theorem MSat.only{G:Ctx}{O:List SObj}{m:Mem}(h:MSat G R e O m)(L:List Nat):MSat G R (e.only L) (zkL L 0 O) m:=by
 have he:∀i x,zaM i L=true->e i=some x->e.only L i=some x:=fun i x=>DEnv.only_of
 refine⟨h.fr,h.sk,h.le,h.rn,fun i z t hz ht=>h.own i z t (DEnv.only_some hz).2 ht,fun i j z w t hz hw hzt hwt=>h.inj i j z w t (DEnv.only_some hz).2 (DEnv.only_some hw).2 hzt hwt,fun i so hi=>?_,fun i z hz=>?_⟩
 ·have h0:=zjd (L:=L) O 0 i;rw[hi,Option.getD_some,Nat.zero_add]at h0;cases hO:O[i]? with
  |none=>rw[hO]at h0;exact .inl h0
  |some s0=>
   rw[hO,yc5,Option.getD_some]at h0;subst h0;unfold ze9;split
   ·rename_i hm;rcases h.ob i s0 hO with rfl |⟨z,h1,h2⟩
    ·exact .inl rfl
    ·refine .inr ⟨z,he i z hm h1,?_⟩;cases s0 with
     |dead=>exact h2
     |cells ty cs=>
      obtain⟨t,xs,rfl,h3,h4⟩:=h2;exact⟨t,xs,rfl,h3,h4.rs he zal⟩
     |list ty sz n el=>exact h2
     |map c f st=>exact h2
   ·exact .inl rfl
 ·obtain⟨h1,h2⟩:=DEnv.only_some hz;obtain⟨so,h3,h4⟩:=h.dom i z h2;have h0:=zjd (L:=L) O 0 i;rw[h3,yc5,Option.getD_some,Nat.zero_add]at h0;have hne:ze9 L i so≠.dead:=by
   unfold ze9;rw[h1];cases so<;>simp at h4 ⊢
  cases hk:(zkL L 0 O)[i]? with
  |none=>rw[hk]at h0;exact absurd h0.symm hne
  |some s1=>rw[hk,Option.getD_some]at h0;exact⟨s1,rfl,by rw[h0];exact hne⟩
end
end Go.Cx
namespace Go.Cx
open Go
section
variable{P:Program}{X:Ext}{G:Ctx}{R:RO}{e:DEnv}{m:Mem}{t:Tmps}{K:DK}{T:List SV}{O:List SObj}
theorem MSat.list(h:MSat G R e O m){o:Nat}{ty:TypeId}{sz n:Nat}{el:Nat->List SV}(ho:zbG O o=.list ty sz n el):∃x,e o=some x/\OR R e m x (.list ty sz n el):=by
 rcases h.ob o _ (zaB ho (by simp))with h1 |h1
 ·cases h1
 ·exact h1
theorem zjO{x:CV}{ty:TypeId}{sz n:Nat}{el:Nat->List SV}{i:Nat}(h:OR R e m x (.list ty sz n el))(hi:i<n):∃t co xs,tg x=some t/\(x=.opn t 0 n\/∃c,x=.slc t 0 n c)/\m.get t=some co/\zkM co=some xs/\zcG co=false/\i*sz+sz<=xs.length/\xs.all one=true/\RepL R noE (el i) (seg xs (i*sz) sz):=by
 rcases h with⟨_,rfl⟩ |⟨t,c,xs,rfl,h0,h1,h2,h3,ha,h4⟩ |⟨t,xs,rfl,h2,h3,ha,h4⟩
 ·omega
 ·refine⟨t,_,xs,zcV h0,.inr ⟨c,rfl⟩,h2,rfl,rfl,?_,ha,h4 i hi⟩;have:=zcC (sz:=sz) hi;have:=yd2 sz h1;omega
 ·refine⟨t,_,xs,rfl,.inl rfl,h2,rfl,rfl,?_,ha,h4 i hi⟩;have:=zcC (sz:=sz) hi;omega
theorem zlW{ty:TypeId}{p:SV}{x:CV}{K:SV->Prop}(hM:MSat G R e O m)(hp:Rep R e p x)(h:ztF P ty O p K):∃v y,zd9 P m ty x=.val y/\Rep R e v y/\K v:=by
 unfold ztF at h;split at h
 ·rename_i o off;split at h
  ·rename_i ty' cs ho;obtain⟨t',xs,h1,h2,h3⟩:=hM.cells (zaB ho (by simp));cases hp with
   |ptr h4=>
    rw[h1]at h4;cases h4;obtain⟨v,y,h5,h6,h7⟩:=zdZ h3 h;refine⟨v,y,?_,h6,h7⟩;unfold zd9;simp only[zg8 h2 rfl,h5]
  ·exact h.elim
 ·rename_i o sz i off;split at h
  ·rename_i ty' sz' n el ho;split at h
   ·rename_i hq;rw[zeY]at hq;simp at hq;subst hq;obtain⟨hi,h⟩:=h;obtain⟨z,hz,hor⟩:=hM.list ho;obtain⟨tt,co,xs,g1,g2,g3,g4,g5,g6,g7,g8⟩:=zjO hor hi;obtain⟨v,y,h5,h6,h7⟩:=zdZ g8 h;have hx:x=.ptr tt (i*sz+off):=by
     cases hp with
     |eptS h8=>rw[hz]at h8;rcases g2 with g2 |⟨c,g2⟩<;>(subst g2;cases h8);rfl
     |eptO h8=>rw[hz]at h8;rcases g2 with g2 |⟨c,g2⟩<;>(subst g2;cases h8);rfl
    subst hx;refine⟨v,y,?_,h6.mono (RO.le.refl R) (fun o x hh=>by cases hh),h7⟩;unfold zd9;simp only[zg8 g3 g4,zpJ g6 h5]
   ·exact h.elim
  ·exact h.elim
 ·rename_i cs off;cases hp with
  |ipt h1 h2 h3 h0 h4=>
   obtain⟨v,y,h5,h6,h7⟩:=zdZ h4 h;refine⟨v,y,?_,h6.mono (RO.le.refl R) (fun o x hh=>by cases hh),h7⟩;unfold zd9;simp only[zg8 (hM.sk.ro _ _ h1) h2,zpJ h3 h5]
 ·exact h.elim
theorem zwV{xs ys:List CV}{a n off:Nat}(h1:off+ys.length<=n)(h2:a+n<=xs.length):seg (zaA xs (a+off) ys) a n=zaA (seg xs a n) off ys:=by
 apply List.ext_getElem?;intro i;have key:∀(us cs:List CV) (k j:Nat),k+us.length<=cs.length->(zaA cs k us)[j]? = if k<=j/\j<k+us.length then us[j - k]? else cs[j]? := by
  intro us cs k j hk;rw[zcY us cs k hk];by_cases hj:j<k
  ·rw[if_neg (by omega),yc1,yb8 (by rw[List.length_take];omega),List.getElem?_take,if_pos hj]
  ·by_cases hj2:j<k+us.length
   ·rw[if_pos (by omega),yb8 (by rw[ya1,List.length_take];omega),yd0 (by rw[List.length_take];omega),List.length_take,Nat.min_eq_left (by omega)]
   ·rw[if_neg (by omega),yd0 (by rw[ya1,List.length_take];omega),ya1,List.length_take,Nat.min_eq_left (by omega),List.getElem?_drop];congr 1;omega
 rw[key _ _ _ _ (by rw[zbh h2];exact h1)];unfold seg;rw[List.getElem?_take,List.getElem?_take,List.getElem?_drop,List.getElem?_drop,key _ _ _ _ (by omega)];by_cases hi:i<n
 ·simp only[if_pos hi];by_cases hq:off<=i/\i<off+ys.length
  ·rw[if_pos (by omega),if_pos hq];congr 1;omega
  ·rw[if_neg (by omega),if_neg hq]
 ·simp only[if_neg hi];rw[if_neg (by omega)]
theorem zkt{xs ys:List CV}{a n b:Nat}(h:b+ys.length<=xs.length)(hd:a+n<=b\/b+ys.length<=a):seg (zaA xs b ys) a n=seg xs a n:=by
 apply List.ext_getElem?;intro i;rw[zcY _ _ _ h];unfold seg;rw[List.getElem?_take,List.getElem?_take];by_cases hi:i<n
 ·rw[if_pos hi,if_pos hi,List.getElem?_drop,List.getElem?_drop];rcases hd with hd |hd
  ·rw[yc1,yb8 (by rw[List.length_take];omega),List.getElem?_take,if_pos (by omega)]
  ·rw[yd0 (by rw[ya1,List.length_take];omega),ya1,List.length_take,Nat.min_eq_left (by omega),List.getElem?_drop];congr 1;omega
 ·rw[if_neg hi,if_neg hi]
theorem zuj{i j sz:Nat}(h:i≠j):i*sz+sz<=j*sz\/j*sz+sz<=i*sz:=by
 rcases Nat.lt_or_gt_of_ne h with h |h
 ·exact .inl (by have:=yd2 sz (show i+1<=j by omega);rw[Nat.add_mul,Nat.one_mul]at this;exact this)
 ·exact .inr (by have:=yd2 sz (show j+1<=i by omega);rw[Nat.add_mul,Nat.one_mul]at this;exact this)
theorem zuq{ty:TypeId}{p v:SV}{x y:CV}(hM:MSat G R e O m)(hT:TSat R e T t)(hp:Rep R e p x)(hv:Rep R e v y)(h:zmt P ty T O p v fun T O=>K (.tup []) T O):∃m',zaO P m ty x y=.mem zaq m'/\Gone G R e t K zaq m':=by
 unfold zmt at h;split at h
 ·rename_i inf hi;split at h
  ·rename_i vs hvs;split at h
   ·rename_i hb;simp only[ya2]at hb;obtain⟨hb1,hb2⟩:=hb;obtain⟨ys,hy1,hy2⟩:=hv.cells hvs;rw[zaw,hy2.length]at hb1;have hall:=hy2.all hb2;split at h
    ·rename_i o off;split at h
     ·rename_i ty' cs ho;split at h
      ·rename_i hl;rw[zgY,zaz]at h;obtain⟨t',xs,h1,h2,h3⟩:=hM.cells (zaB ho (by simp));have hl':=ya9 hl;rw[zaw,zaw,hy2.length,h3.length]at hl';cases hp with
       |ptr h4=>
        rw[h1]at h4;cases h4;have hput:=Put.mk' m t' (.cells ty' (zaA xs off ys)) (fun o' ho'=>by rw[h2]at ho';cases ho';rfl);refine⟨_,?_,R,e,_,T,_,RO.le.refl R,fun _ _ h=>h,.tup .nil,hT,hM.put h1 hput (h3.wr hy2),h⟩;unfold zaO;simp only[hi,hy1,hb1,zmr h2 hall hl']
      ·exact h.elim
     ·exact h.elim
    ·obtain⟨R1,e1,l,T1,O1,q1,q2,q3,q4,q5,h⟩:=zch 9 (RepL.cons hp hy2) hT hM h;split at h
     ·rename_i o sz i off vs';split at h
      ·rename_i ty' sz' n el ho;split at h
       ·rename_i hbb;simp only[ya2,zeY,decide_eq_true_eq]at hbb;obtain⟨rfl,himm,_⟩:=hbb;obtain⟨⟨hin,hoff⟩,h⟩:=h;rw[zgY,zaz]at h;cases q3 with
        |cons hp1 hvs1=>
         obtain⟨z,hz,hor⟩:=q5.list ho;obtain⟨tt,co,xs,g1,g2,g3,g4,g5,g6,g7,g8⟩:=zjO hor hin;have hx:x=.ptr tt (i*sz+off):=by
          cases hp1 with
          |eptS h8=>rw[hz]at h8;rcases g2 with g2 |⟨c,g2⟩<;>(subst g2;cases h8);rfl
          |eptO h8=>rw[hz]at h8;rcases g2 with g2 |⟨c,g2⟩<;>(subst g2;cases h8);rfl
         subst hx;rw[zaw,hvs1.length]at hoff;have hrep:∀j,j<n->RepL R1 noE (zmX i (wrS (el i) off vs') el j) (seg (zaA xs (i*sz+off) ys) (j*sz) sz):=by
          intro j hj;unfold zmX;split
          ·rename_i hji;subst hji;rw[zwV hoff g6];exact g8.wr (hvs1.imm himm)
          ·rename_i hji;have hfar:=zuj (sz:=sz) hji;rw[zkt (by omega) (by omega)];obtain⟨_,_,xs',_,_,g3',g4',_,_,_,g8'⟩:=zjO hor hj;rename_i tt' co' g1' _ _ _ _;rw[g1]at g1';cases g1';rw[g3]at g3';cases g3';rw[g4]at g4';cases g4';exact g8'
         have hlen:i*sz+off+ys.length<=xs.length:=by omega
         rcases hor with⟨_,rfl⟩ |⟨t',c,xs',rfl,h0,h1,h2,h3,ha,h4⟩ |⟨t',xs',rfl,h2,h3,ha,h4⟩
         ·omega
         ·obtain⟨rfl,_⟩:=zfx g1;rw[h2]at g3;cases g3;cases g4;have hput:=Put.mk' m tt (.cells ty' (zaA xs (i*sz+off) ys)) (fun o' ho'=>by rw[h2]at ho';cases ho';rfl);refine⟨_,?_,R1,e1,_,T1,_,q1,q2,.tup .nil,q4,q5.putL hz (zcV h0) hput (by simp) (OR.mkS h0 h1 hput.self (by rw[zaN];exact h3) (zgb ha hall) hrep),h⟩;unfold zaO;simp only[hi,hy1,hb1,zmr h2 hall hlen]
         ·cases g1;rw[h2]at g3;cases g3;cases g4;have hput:=Put.mk' m tt (.opn ty' sz (zaA xs (i*sz+off) ys)) (fun o' ho'=>by rw[h2]at ho';cases ho';rfl);refine⟨_,?_,R1,e1,_,T1,_,q1,q2,.tup .nil,q4,q5.putL hz rfl hput (by simp) (OR.mkO hput.self (by rw[zaN];exact h3) (zgb ha hall) hrep),h⟩;unfold zaO;simp only[hi,hy1,hb1,zor h2 hall hlen]
       ·exact h.elim
      ·exact h.elim
     ·exact h.elim
    ·exact h.elim
   ·exact h.elim
  ·exact h.elim
 ·exact h.elim
end
end Go.Cx
namespace Go.Cx
open Go
section
variable{P:Program}{X:Ext}{G:Ctx}{R:RO}{e:DEnv}{m:Mem}{t:Tmps}{K:DK}{T:List SV}{O:List SObj}{c:DCfg}
theorem zbk{k:Int}(h:0<=k):∃n:Nat,k=.ofNat n/\k.toNat=n:=by
 obtain⟨n,rfl⟩:=Int.eq_ofNat_of_zero_le h;exact⟨n,rfl,rfl⟩
theorem zjX{a b:Nat}(h:a<b):Nat.blt a b=true:=yb1 h
theorem zdY{elem:TypeId}{inf:TypeInfo}{tag off n j:Nat}{ik:IntKind}(hi:P.info? elem=some inf)(h:j<n):zrb P elem tag off n (.int ik (.ofNat j))=.val (.ptr tag (off+j*inf.size)):=by
 unfold zrb;simp only[hi,zjX h];rfl
theorem zqa{elem ty:TypeId}{inf:TypeInfo}{tag k n j:Nat}{cs:List CV}{ik:IntKind}(hi:P.info? elem=some inf)(hg:m.get tag=some (.opn ty inf.size cs))(h:j<n):zrQ P elem m tag k n (.int ik (.ofNat j))=.val (.ptr tag ((k+j)*inf.size)):=by
 unfold zrQ;simp only[hi,hg,zjX h,show Nat.beq inf.size inf.size=true from Nat.beq_refl _];rfl
theorem ziI{ty elem:TypeId}{x i:CV}(hu:P.underlying ty=some (.slice elem)):zam P m ty x i=ziw P elem m i x:=by
 unfold zam;rw[hu]
theorem zk9{ty elem:TypeId}{len:Nat}{x i:CV}(hu:P.underlying ty=some (.array len elem)):zam P m ty x i=zyA P elem len i x:=by
 unfold zam;rw[hu]
theorem zpE{ty elem:TypeId}{inf:TypeInfo}{sz n:Nat}{el:Nat->List SV}{x:CV}{ik:IntKind}{k:Int}(hM:MSat G R e O m)(hu:P.underlying ty=some (.slice elem))(hi:P.info? elem=some inf)(hs:sz=inf.size)(hx:Rep R e (.isl sz n el) x)(h0:0<=k)(h1:k<n):∃y,zam P m ty x (.int ik k)=.val y/\Rep R e (.ipt (el k.toNat) 0) y:=by
 obtain⟨j,rfl,hj⟩:=zbk h0;rw[hj];have hjn:j<n:=by have:(j:Int)<n:=h1;omega
 subst hs;cases hx with
 |islN=>omega
 |islV=>omega
 | @islS _ _ _ _ _ off' _ _ _ g1 g2 g3 g4 g0 g5=>
  refine⟨_,(ziI hu).trans (zdY (ik:=ik) hi hjn),?_⟩;have hm:=zcC (sz:=inf.size) hjn;have hl:=(g5 j hjn).length;rw[zbh (by omega)]at hl;exact .ipt (off:=0) (b:=off'+j*inf.size) g1 g2 (by rw[hl];omega) g0 (by rw[hl];exact g5 j hjn)
 | @islO _ _ _ _ _ k' _ _ g1 g2 g0 g3=>
  refine⟨_,(ziI hu).trans (zqa (ik:=ik) hi (hM.sk.ro _ _ g1) hjn),?_⟩;have hm:=zcC (sz:=inf.size) hjn;rw[Nat.add_mul]at g2;have hkj:(k'+j)*inf.size=k'*inf.size+j*inf.size:=Nat.add_mul ..;have hl:=(g3 j hjn).length;rw[zbh (by omega)]at hl;exact .ipt (off:=0) (b:=(k'+j)*inf.size) g1 rfl (by rw[hl];omega) g0 (by rw[hl];exact g3 j hjn)
theorem zgl{ty:TypeId}{v w:SV}{x y:CV}{K:SV->Prop}(hM:MSat G R e O m)(hv:Rep R e v x)(hw:Rep R e w y)(h:zeV P ty O v w K):∃u z,zam P m ty x y=.val z/\Rep R e u z/\K u:=by
 unfold zeV at h;split at h
 ·rename_i ik k;cases hw;split at h
  ·rename_i elem hu;split at h
   ·rename_i inf hi;split at h
    ·split at h
     ·rename_i hq;rw[zeY]at hq;simp at hq;obtain⟨⟨h0,h1⟩,h2⟩:=h;obtain⟨z,h3,h4⟩:=zpE (ik:=ik) hM hu hi hq hv h0 h1;exact⟨_,z,h3,h4,h2⟩
     ·exact h.elim
    ·split at h
     ·rename_i hq;rw[zeY]at hq;simp at hq;obtain⟨⟨h0,h1⟩,h2⟩:=h;cases hv with
      |islE=>omega
      |islx hv=>
       obtain⟨z,h3,h4⟩:=zpE (ik:=ik) hM hu hi hq hv h0 h1;exact⟨_,z,h3,h4,h2⟩
     ·exact h.elim
    ·rename_i o;split at h
     ·rename_i ty' sz n el ho;split at h
      ·rename_i hq;rw[zeY]at hq;simp at hq;subst hq;obtain⟨⟨h0,h1⟩,h2⟩:=h;obtain⟨j,rfl,hj⟩:=zbk h0;rw[hj]at h2;have hjn:j<n:=by have:(j:Int)<n:=h1;omega
       obtain⟨z,hz,hor⟩:=hM.list ho;obtain⟨tt,co,xs,g1,g2,g3,g4,g5,g6,g7,g8⟩:=zjO hor hjn;have hxz:x=z:=by cases hv<;>(rename_i hh;rw[hz]at hh;cases hh;rfl)
       subst hxz;rcases hor with⟨_,rfl⟩ |⟨t',c',xs',rfl,k0,k1,k2,k3,ka,k4⟩ |⟨t',xs',rfl,k2,k3,ka,k4⟩
       ·omega
       ·refine⟨_,_,(ziI hu).trans (zdY (ik:=ik) hi hjn),?_,h2⟩;rw[show 0+j*inf.size=j*inf.size+0 by omega];exact .eptS hz
       ·refine⟨_,_,(ziI hu).trans (zqa (ik:=ik) hi k2 hjn),?_,h2⟩;rw[show(0+j)*inf.size=j*inf.size+0 by rw[Nat.zero_add];rfl];exact .eptO hz
      ·exact h.elim
     ·exact h.elim
    ·rename_i o off n cc;obtain⟨⟨h0,h1⟩,h2⟩:=h;obtain⟨j,rfl,hj⟩:=zbk h0;rw[hj]at h2;have hjn:j<n:=by have:(j:Int)<n:=h1;omega
     cases hv with
     |sub hh=>exact⟨_,_,(ziI hu).trans (zdY (ik:=ik) hi hjn),.ptr hh,h2⟩
    ·exact h.elim
   ·exact h.elim
  ·rename_i len elem hu;split at h
   ·rename_i inf hi;split at h
    ·obtain⟨⟨h0,h1⟩,h2⟩:=h;obtain⟨j,rfl,hj⟩:=zbk h0;rw[hj]at h2;have hjn:j<len:=by have:(j:Int)<len:=h1;omega
     cases hv with
     |ptr hh=>exact⟨_,_,(zk9 hu).trans (zdY (ik:=ik) hi hjn),.ptr hh,h2⟩
    ·obtain⟨⟨h0,h1⟩,h2⟩:=h;obtain⟨j,rfl,hj⟩:=zbk h0;rw[hj]at h2;have hjn:j<len:=by have:(j:Int)<len:=h1;omega
     cases hv with
     |ipt g1 g2 g3 g0 g4=>
      refine⟨_,_,(zk9 hu).trans (zdY (ik:=ik) hi hjn),?_,h2⟩;rw[Nat.add_assoc];exact .ipt g1 g2 g3 g0 g4
    ·rename_i o sz i off;obtain⟨⟨h0,h1⟩,h2⟩:=h;obtain⟨j,rfl,hj⟩:=zbk h0;rw[hj]at h2;have hjn:j<len:=by have:(j:Int)<len:=h1;omega
     cases hv with
     |eptS hh=>
      refine⟨_,_,(zk9 hu).trans (zdY (ik:=ik) hi hjn),?_,h2⟩;rw[Nat.add_assoc];exact .eptS hh
     |eptO hh=>
      refine⟨_,_,(zk9 hu).trans (zdY (ik:=ik) hi hjn),?_,h2⟩;rw[Nat.add_assoc];exact .eptO hh
    ·exact h.elim
   ·exact h.elim
  ·exact h.elim
 ·exact h.elim
theorem zgp{s:TypeId}{v:SV}{x:CV}{f:Nat}{K:SV->Prop}(hv:Rep R e v x)(h:zeK P s v f K):∃u z,zbg P s x f=.val z/\Rep R e u z/\K u:=by
 unfold zeK at h;split at h
 ·rename_i fs hu;split at h
  ·rename_i fd hf;split at h
   ·rename_i i hi;split at h
    ·exact h.elim
    ·rename_i n hn;have key:∀t off,zbg P s (.ptr t off) f=.val (.ptr t (off+fd.offset)):=fun t off=>by
      unfold zbg;simp only[hu,hf,hi,hn];rfl
     split at h
     ·cases hv with
      |ptr hh=>exact⟨_,_,key _ _,.ptr hh,h⟩
     ·cases hv with
      |ipt g1 g2 g3 g0 g4=>
       refine⟨_,_,key _ _,?_,h⟩;rw[Nat.add_assoc];exact .ipt g1 g2 g3 g0 g4
     ·cases hv with
      |eptS hh=>refine⟨_,_,key _ _,?_,h⟩;rw[Nat.add_assoc];exact .eptS hh
      |eptO hh=>refine⟨_,_,key _ _,?_,h⟩;rw[Nat.add_assoc];exact .eptO hh
     ·exact h.elim
   ·exact h.elim
  ·exact h.elim
 ·exact h.elim
theorem znb{ty:TypeId}{v:SV}{x:CV}{f:Nat}{K:SV->Prop}(hv:Rep R e v x)(h:zpy P ty v f K):∃u z,zfR P ty x f=.val z/\Rep R e u z/\K u:=by
 unfold zpy at h;split at h
 ·rename_i fs hu;split at h
  ·cases hv with
   |agg hv=>
    split at h
    ·rename_i fd hf;obtain⟨u,z,h1,h2,h3⟩:=zdZ hv h;refine⟨u,z,?_,h2,h3⟩;unfold zfR;simp only[hu,hf,h1]
    ·exact h.elim
  ·exact h.elim
 ·exact h.elim
theorem zno{ty:TypeId}{ps:List (Nat×SV)}{qs:List (Nat×CV)}{K:SV->Prop}(hp:RepPs R e ps qs)(h:zpG P ty ps K):∃u z,zkr P ty qs=.val z/\Rep R e u z/\K u:=by
 unfold zpG at h;split at h
 ·exact h.elim
 ·rename_i z hz;split at h
  ·rename_i fs hu;split at h
   ·rename_i hf;rw[zfo zhs]at h;obtain⟨vs,xs,h1,h2,h3⟩:=zfX (zdV z) hp h;refine⟨_,.agg xs,?_,.agg h2,h3⟩;unfold zkr;simp only[hz,hu,hf,h1]
   ·exact h.elim
  ·rename_i n elem hu;split at h
   ·rename_i i hi;rw[zfo zhs]at h;obtain⟨vs,xs,h1,h2,h3⟩:=zfX (zdV z) hp h;refine⟨_,.agg xs,?_,.agg h2,h3⟩;unfold zkr;simp only[hz,hu,hi,h1]
   ·exact h.elim
  ·exact h.elim
theorem ztJ{ty:TypeId}{v:SV}{x:CV}(hM:MSat G R e O m)(hT:TSat R e T t)(hv:Rep R e v x)(h:zyZ ty v T O K):∃z m',zjs m.nxt m ty x=.mem z m'/\Gone G R e t K z m':=by
 unfold zyZ at h;split at h
 ·rename_i cs hc;split at h
  ·rename_i ha;rw[zbO]at h;obtain⟨ys,h1,h2⟩:=hv.cells hc;have hn:=New.at m (CO.cells ty ys);refine⟨.ptr m.nxt 0,_,?_,zgt (so:=.cells ty cs) (x:=.ptr m.nxt 0) hM hT hn rfl rfl (by simp) (fun e' he=>⟨_,_,rfl,hn.self,h2.mono (RO.le.refl R) he⟩) (fun e' he=>.ptr he) (fun _ _ _=>trivial) h⟩;unfold zjs;simp only[h1,h2.all ha]
  ·exact h.elim
 ·exact h.elim
theorem zqq{elem:TypeId}{sz n:Nat}{el:Nat->List SV}{ys:List CV}{c:Nat}(hM:MSat G R e O m)(hT:TSat R e T t)(hn:n<=c)(hl:c*sz=ys.length)(ha:ys.all one=true)(hel:∀i,i<n->RepL R noE (el i) (seg ys (i*sz) sz))(h:K (.lst O.length) T (O++[.list elem sz n el])):Gone G R e t K (.slc m.nxt 0 n c) (m.newAt m.nxt (.cells elem ys)):=by
 have hnw:=New.at m (CO.cells elem ys);rcases Nat.eq_zero_or_pos c with hc |hc
 ·subst hc;obtain rfl:n=0:=by omega
  have hR:=hM.sk.none (Nat.le_refl m.nxt);have hle:=RO.le_add (o:=CO.cells elem ys) hR;have hM':MSat G (R.add m.nxt (.cells elem ys)) e O (m.newAt m.nxt (.cells elem ys)):=by
   refine⟨hM.fr.new hnw,(hM.sk.new hnw).add hnw.self,hM.le.trans hle,fun t o hh=>?_,fun o x t hx ht=>?_,hM.inj,fun o so ho=>?_,hM.dom⟩
   ·unfold RO.add at hh;split at hh
    ·rename_i hq;subst hq;exact .inr (.inl hM.fr.nxt)
    ·exact hM.rn t o hh
   ·obtain⟨h1,h2⟩:=hM.own o x t hx ht;obtain⟨_,_,_,hlt⟩:=hM.lt hx ht;exact⟨h1,by rw[RO.add_ne (by omega)];exact h2⟩
   ·rcases hM.ob o so ho with h1 |⟨x,h1,h2⟩
    ·exact .inl h1
    ·exact .inr ⟨x,h1,h2.mono hle (DEnv.le.refl _) fun t ht=>by
      obtain⟨_,_,_,hlt⟩:=hM.lt h1 ht;rw[hnw.get,if_neg (by omega)]⟩
  obtain⟨R',e',v,T',O',q1,q2,q3,q4,q5,q6⟩:=(zhS (K:=K) (ty:=elem) (sz:=sz) (el:=el) hM' (hT.mono hle (DEnv.le.refl _)) (.inr ⟨m.nxt,0,_,ys,rfl,RO.add_self,rfl,Nat.zero_le _,ha⟩) h).ex;exact⟨R',e',v,T',O',hle.trans q1,q2,q3,q4,q5,q6⟩
 ·exact zgt hM hT hnw (zcV hc) rfl (by simp) (fun e' _=>OR.mkS hc hn hnw.self hl ha hel) (fun e' he=>.lstS he) (fun _ _ _=>trivial) h
theorem zi8(z:List CV):∀n,(rep z n).length=n*z.length
 |0=>by simp[rep]
 |n+1=>by rw[rep,ya1,zi8 z n,Nat.add_mul,Nat.one_mul,Nat.add_comm]
theorem ziA{place:Nat->Option (Nat×Nat)}:∀{qs:List (Nat×CV)} {xs ys:List CV},zhy place xs qs=some ys->ys.length=xs.length
 |[],xs,ys,h=>by simp[zhy]at h;rw[h]
 |(i,v)::r,xs,ys,h=>by
  unfold zhy at h;split at h
  ·split at h
   ·rw[ziA h,zaN]
   ·cases h
  ·cases h
theorem zf8{R0:RO}{e0:DEnv}{K:DK}{x:CV}{m':Mem}(hR:R0.le R)(he:∀o u,e0 o=some (PM.c u)->e o=some (PM.c u))(h:Gone G R e t K x m'):Gone G R0 e0 t K x m':=by
 obtain⟨R',e',v,T',O',q1,q2,q3⟩:=h.ex;exact⟨R',e',v,T',O',hR.trans q1,fun o u hh=>q2 o u (he o u hh),q3⟩
theorem zjE{ws:List TypeId}{ty:TypeId}{n:Nat}{ps:List (Nat×SV)}{qs:List (Nat×CV)}(hM:MSat G R e O m)(hT:TSat R e T t)(hp:RepPs R e ps qs)(h:zc6 P ws ty n ps T O K):∃z m',zba P m.nxt m ty n qs=.mem z m'/\Gone G R e t K z m':=by
 unfold zc6 at h;split at h
 ·rename_i elem hu;split at h
  ·rename_i i hi;split at h
   ·rename_i z hz;split at h
    ·rename_i hb;have hb':=hb;simp only[ya2]at hb';rw[zfo zhs]at h;obtain⟨vs,xs,h1,h2,h3⟩:=zfX (zdV (rep z n)) hp h;obtain⟨R1,e1,vs1,T1,O1,q1,q2,q3,q4,q5,h4⟩:=zch 9 h2 hT hM h3;split at h4
     ·rename_i ha;simp only[ya2]at ha;obtain⟨el,h4,hel⟩:=zjP h4;rw[zbO]at h4;have hall:=q3.all ha.1;have himm:=q3.imm ha.2;have hlen:xs.length=n*i.size:=by
       rw[ziA h1,zi8];have:=hb'.2.2;rw[zeY]at this;simp at this;rw[this]
      refine⟨.slc m.nxt 0 n n,_,?_,zf8 q1 q2 (zqq q5 q4 (Nat.le_refl n) hlen.symm hall (fun j hj=>?_) h4)⟩
      ·unfold zba;simp only[hu,hi,hz,hb,h1,hall]
      ·rw[hel j n hj (by rw[q3.length,hlen])];exact himm.seg (j*i.size) i.size
     ·exact h4.elim
    ·exact h.elim
   ·exact h.elim
  ·exact h.elim
 ·exact h.elim
theorem zox{z:List CV}:∀{n i:Nat},i<n->seg (rep z n) (i*z.length) z.length=z
 |0,i,h=>by omega
 |n+1,0,h=>by unfold seg;simp[rep]
 |n+1,i+1,h=>by
  have:=zox (z:=z) (n:=n) (i:=i) (by omega);unfold seg at this ⊢;rw[rep,List.drop_append,show(i+1)*z.length - z.length=i*z.length by rw[Nat.add_mul];omega,List.drop_eq_nil_of_le (by rw[Nat.add_mul];omega),List.nil_append];exact this
theorem zn6{z:List CV}(h:z.all one=true):∀n,(rep z n).all one=true
 |0=>rfl
 |n+1=>by rw[rep,List.all_append,h,zn6 h n];rfl
theorem zlM{ty:TypeId}{v w:SV}{x y:CV}(hM:MSat G R e O m)(hT:TSat R e T t)(hv:Rep R e v x)(hw:Rep R e w y)(h:zdy P ty v w T O K):∃z m',zar P m.nxt m ty x y=.mem z m'/\Gone G R e t K z m':=by
 unfold zdy at h;split at h
 ·rename_i elem hu;split at h
  ·rename_i i hi;split at h
   ·rename_i z hz;split at h
    ·rename_i l c';cases hv;cases hw;split at h
     ·rename_i hb;simp only[ya2]at hb;obtain⟨⟨h0,h1,h2,h3,h4⟩,h5⟩:=h;rw[zfo zhs,zbO]at h5;obtain⟨a,rfl,ha⟩:=zbk h0;obtain⟨b,rfl,hb'⟩:=zbk (show(0:Int)<=c' by omega);rw[ha]at h5;rw[hb']at h4;have hab:a<=b:=by have:(a:Int)<=b:=h1;omega
      have hb3:b<=100000:=by have:(b:Int)<=100000:=h3;omega
      have hzl:z.length=i.size:=by have:=hb.2.1;rw[zeY]at this;simpa using this
      refine⟨.slc m.nxt 0 a b,_,?_,zqq (ys:=rep z b) hM hT hab (by rw[zi8,hzl]) (zn6 hb.2.2 b) (fun j hj=>?_) h5⟩
      ·unfold zar;simp only[hu,hi,hz,hb.1,hb.2.1,hb.2.2,yb1 hab,yb1 hb3,yb1 h4,Bool.and_self]
      ·have hs:=zox (z:=z) (n:=b) (i:=j) (by omega);rw[hzl]at hs;rw[hs];exact zdV z
     ·exact h.elim
    ·exact h.elim
   ·exact h.elim
  ·exact h.elim
 ·exact h.elim
theorem ztn{ty:TypeId}{v:SV}{x:CV}{K:SV->Prop}(hM:MSat G R e O m)(hv:Rep R e v x)(h:zAG P ty O v K):∃u z,zvl P m ty x=.val z/\Rep R e u z/\K u:=by
 have ci:∀n:Nat,Rep R e (.cv (.int .i64 (n:Int))) (.int .i64 (.ofNat n)):=fun n=>.cv rfl
 unfold zAG at h;unfold zvl;split at h
 ·rename_i hu;split at h
  ·cases hv;exact⟨_,_,by simp only[hu,ztX],ci _,h⟩
  ·exact h.elim
 ·rename_i el hu;simp only[hu];split at h
  ·cases hv;exact⟨_,_,rfl,ci 0,h⟩
  ·cases hv with
   |empN=>exact⟨_,_,rfl,ci 0,h⟩
   |empV=>exact⟨_,_,rfl,ci 0,h⟩
   |empS _=>exact⟨_,_,rfl,ci 0,h⟩
  ·cases hv with
   |islN=>exact⟨_,_,rfl,ci 0,h⟩
   |islV=>exact⟨_,_,rfl,ci 0,h⟩
   |islS _ _ _ _ _ _=>exact⟨_,_,rfl,ci _,h⟩
   |islO _ _ _ _=>exact⟨_,_,rfl,ci _,h⟩
  ·cases hv with
   |islE=>exact⟨_,_,rfl,ci 0,h⟩
   |islx hv=>
    cases hv with
    |islN=>exact⟨_,_,rfl,ci 0,h⟩
    |islV=>exact⟨_,_,rfl,ci 0,h⟩
    |islS _ _ _ _ _ _=>exact⟨_,_,rfl,ci _,h⟩
    |islO _ _ _ _=>exact⟨_,_,rfl,ci _,h⟩
  ·split at h
   ·rename_i ty' sz n el' ho;obtain⟨z,hz,hor⟩:=hM.list ho;have hxz:x=z:=by cases hv<;>(rename_i hh;rw[hz]at hh;cases hh;rfl)
    subst hxz;rcases hor with⟨hq |⟨_,_,_,_,hq,_⟩,rfl⟩ |⟨_,_,_,rfl,_⟩ |⟨_,_,rfl,_⟩
    ·rcases zd4 hq with rfl |⟨a,rfl⟩<;>exact⟨_,_,rfl,ci 0,h⟩
    ·subst hq;exact⟨_,_,rfl,ci 0,h⟩
    ·exact⟨_,_,rfl,ci _,h⟩
    ·exact⟨_,_,rfl,ci _,h⟩
   ·exact h.elim
  ·cases hv with
   |sub _=>exact⟨_,_,rfl,ci _,h⟩
  ·exact h.elim
 ·rename_i n el hu;exact⟨_,_,by simp only[hu],ci _,h⟩
 ·exact h.elim
theorem znl{ty:TypeId}{v w:SV}{x y:CV}{K:SV->Prop}(hv:Rep R e v x)(hw:Rep R e w y)(h:zpp P ty v w K):∃u z,zem P ty x y=.val z/\Rep R e u z/\K u:=by
 unfold zpp at h;split at h
 ·rename_i ik k;cases hw;split at h
  ·rename_i hu;split at h
   ·rename_i s;cases hv;obtain⟨⟨h0,h1⟩,hk⟩:=h;obtain⟨j,rfl,_⟩:=zbk h0;refine⟨_,.int .u8 (gbN s (.ofNat j)),?_,.cv rfl,hk⟩;have hj:j<s.length:=by have:(j:Int)<s.length:=h1;omega
    have:nth s j=some s[j]:=by rw[zbV];simp[hj]
    unfold zem;simp only[hu,zxR,this,gbN,Int.ofNat_eq_natCast,Int.toNat_natCast,ya8,yb5 hj,Option.getD_some]
   ·exact h.elim
  ·rename_i len elem hu;split at h
   ·cases hv with
    |agg hv=>
     split at h
     ·rename_i inf hi;obtain⟨⟨h0,h1⟩,hk⟩:=h;obtain⟨j,rfl,hj⟩:=zbk h0;rw[hj]at hk;have hjn:j<len:=by have:(j:Int)<len:=h1;omega
      obtain⟨u,z,h2,h3,h4⟩:=zdZ hv hk;refine⟨u,z,?_,h3,h4⟩;unfold zem;simp only[hu,zyf,hi,zjX hjn,h2]
     ·exact h.elim
   ·exact h.elim
  ·exact h.elim
 ·exact h.elim
theorem zeR{mx:Bool}{vs:List SV}{xs:List CV}{K:SV->Prop}(hv:RepL R e vs xs)(h:zgV mx vs K):∃u z,zes mx xs=.val z/\Rep R e u z/\K u:=by
 unfold zgV at h;split at h
 ·cases hv with
  |cons h1 hs=>cases hs with
   |cons h2 hs=>cases hs with
    |nil=>
     cases h1;cases h2;obtain⟨z,h3,h4⟩:=zrt h;obtain⟨h5,h6⟩:=zqE (R:=R) (e:=e) h4;exact⟨_,z,h3,h5,h6⟩
 ·exact h.elim
theorem zuL{v:SV}{x:CV}{K:SV->Prop}(hv:Rep R e v x)(h:zAs v K):∃u,zyT m x=.val x/\Rep R e u x/\K u:=by
 unfold zAs at h;split at h
 ·cases hv with
  |ptr hh=>exact⟨_,rfl,.ptr hh,h⟩
 ·cases hv with
  |eptS hh=>exact⟨_,rfl,.eptS hh,h⟩
  |eptO hh=>exact⟨_,rfl,.eptO hh,h⟩
 ·cases hv with
  |ipt g1 g2 g3 g0 g4=>exact⟨_,rfl,.ipt g1 g2 g3 g0 g4,h⟩
 ·cases hv with
  |fn ha hb=>exact⟨_,rfl,.fn ha hb,h⟩
 ·cases hv;exact⟨_,rfl,.cv rfl,h⟩
 ·exact h.elim
theorem ziB{i:Nat}{v:SV}{x:CV}{K:SV->Prop}(hv:Rep R e v x)(h:zhZ i v K):∃u z,ze3 i m x=.val z/\Rep R e u z/\K u:=by
 unfold zhZ at h;split at h
 ·cases hv with
  |tup hv=>
   obtain⟨h1,h2⟩:=zdk h;obtain⟨z,h3,h4⟩:=hv.nth h1;exact⟨_,z,by show(match nth _ i with |some v=>COut.val v |none=>.no "extract")=_;rw[h3],h4,h2⟩
 ·exact h.elim
theorem znN{ty:TypeId}{v:SV}{x:CV}{K:SV->Prop}(hv:Rep R e v x)(h:zqJ P ty v K):∃u z,zjf P ty m x=.val z/\Rep R e u z/\K u:=by
 unfold zqJ at h;split at h
 ·exact h.elim
 ·rename_i d hn hu;refine⟨_,.ifc ty x,?_,.ifc hv,h⟩;unfold zjf;split
  ·rename_i ms hq;rw[hu]at hq;cases hq;exact absurd rfl (hn _)
  ·rfl
  ·rename_i hq;rw[hu]at hq;cases hq
 ·exact h.elim
end
end Go.Cx
namespace Go.Cx
open Go
section
variable{P:Program}{X:Ext}{G:Ctx}{R:RO}{e:DEnv}{m:Mem}{t:Tmps}{K:DK}{T:List SV}{O:List SObj}{c:DCfg}
theorem zdj{v:Option SV}{x:Option CV}{d:Nat}{a:Int}(hv:RepOp R e v x)(h:znt v d=some a)(h0:0<=a):bound x d=some a.toNat:=by
 cases hv with
 |none=>simp[znt]at h;subst h;simp[bound]
 |some hv=>
  unfold znt at h;split at h
  ·rename_i hh;cases hh
  ·rename_i k n hh;cases hh;cases h;cases hv;obtain⟨j,rfl,hj⟩:=zbk h0;rw[hj];rfl
  ·cases h
theorem zaI{v:SV}{x:CV}(hM:MSat G R e O m)(hT:TSat R e T t)(hv:Rep R e v x)(hk:K v T O):Gone G R e t K x m:=⟨R,e,v,T,O,RO.le.refl R,fun _ _ h=>h,hv,hT,hM,hk⟩
theorem zr6{ty elem:TypeId}{inf:TypeInfo}{lo hi:Option CV}{tt off n c a b:Nat}(hu:P.underlying ty=some (.slice elem))(hi':P.info? elem=some inf)(h1:bound lo 0=some a)(h2:bound hi n=some b)(hab:a<=b)(hbc:b<=c):
  zbj P m ty (.slc tt off n c) lo hi none=.val (.slc tt (match Nat.beq c a with |true=>off |false=>off+a*inf.size) (b - a) (c - a)):=by
 unfold zbj;simp only[hu,hi',zcT,zoW,h1,h2,yb1 hab,yb1 hbc,Bool.and_self];rfl
theorem zwQ{ty elem ty':TypeId}{inf:TypeInfo}{lo hi:Option CV}{tt k n a b:Nat}{cs:List CV}(hu:P.underlying ty=some (.slice elem))(hi':P.info? elem=some inf)(h1:bound lo 0=some a)(h2:bound hi n=some b)(hab:a<=b)(hg:m.get tt=some (.opn ty' inf.size cs))(hl:(k+b)*inf.size<=cs.length)(hp:0<inf.size):
  zbj P m ty (.opn tt k n) lo hi none=(match Nat.beq a 0||Nat.blt ((k+a)*inf.size) cs.length with |true=>.val (.opn tt (k+a) (b - a)) |false=>.val (.emp tt k a)):=by
 unfold zbj;simp only[hu,hi',zcT,hg,zx8,h1,h2,yb1 hab,yb1 hl,show Nat.beq inf.size inf.size=true from Nat.beq_refl _,zjX hp,Bool.and_self];rfl
theorem znV{ty elem:TypeId}{inf:TypeInfo}{lo hi:Option CV}{n a b:Nat}{el:Nat->List SV}{x:CV}(hM:MSat G R e O m)(hu:P.underlying ty=some (.slice elem))(hi':P.info? elem=some inf)(hp:0<inf.size)(h1:bound lo 0=some a)(h2:bound hi n=some b)(hab:a<=b)(hbn:b<=n)(hx:Rep R e (.isl inf.size n el) x):
  ∃y,zbj P m ty x lo hi none=.val y/\Rep R e (.islx inf.size (b - a) (zsR a el)) y:=by
 cases hx with
 |islN=>
  obtain rfl:b=0:=by omega
  obtain rfl:a=0:=by omega
  refine⟨.nils,?_,.islx .islN⟩;unfold zbj;simp only[hu,hi',zcT,zvF,h1,h2]
 | @islV _ _ _ a0=>
  obtain rfl:b=0:=by omega
  obtain rfl:a=0:=by omega
  refine⟨.void a0,?_,.islx .islV⟩;unfold zbj;simp only[hu,hi',zcT,zqi,h1,h2]
 | @islS _ _ _ _ tt off c o cs g1 g2 g3 g4 g0 g5=>
  refine⟨_,zr6 hu hi' h1 h2 hab (Nat.le_trans hbn g4),.islx ?_⟩;have hmul:b*inf.size<=n*inf.size:=yd2 _ hbn;have hba:(b - a)*inf.size+a*inf.size=b*inf.size:=by rw[<- Nat.add_mul];congr 1;omega
  split
  ·rename_i hq;rw[zeY]at hq;simp at hq;have h0:b - a=0:=by omega
   rw[h0];exact .islS g1 g2 (by omega) (by omega) g0 fun i hi=>by omega
  ·refine .islS g1 g2 (by omega) (by omega) g0 fun i hi=>?_
   have:=g5 (a+i) (by omega);rw[Nat.add_mul,<- Nat.add_assoc]at this;exact this
 | @islO _ _ _ _ tt k ty' cs g1 g2 g0 g3=>
  have hl:(k+b)*inf.size<=cs.length:=Nat.le_trans (yd2 _ (by omega)) g2;have hs:=zwQ hu hi' h1 h2 hab (hM.sk.ro _ _ g1) hl hp;cases hb:Nat.beq a 0||Nat.blt ((k+a)*inf.size) cs.length with
  |true=>
   rw[hb]at hs;refine⟨_,hs,?_⟩;refine .islx (.islO g1 ?_ g0 fun i hi=>?_)
   ·rw[show k+a+(b - a)=k+b by omega];exact hl
   ·have:=g3 (a+i) (by omega);rw[show k+a+i=k+(a+i)by omega];exact this
  |false=>
   rw[hb]at hs;refine⟨_,hs,?_⟩;simp only[Bool.or_eq_false_iff]at hb;have h3:¬(k+a)*inf.size<cs.length:=fun hh=>by rw[zjX hh]at hb;cases hb.2
   have h4:b=a:=by
    rcases Nat.lt_or_ge a b with hlt |hge
    ·exfalso;have h5:=yd2 inf.size (show k+a+1<=k+b by omega);rw[Nat.add_mul (k+a),Nat.one_mul]at h5;omega
    ·omega
   rw[h4,Nat.sub_self];exact .islE
theorem ztu{ty:TypeId}{v:SV}{x:CV}{lo hi mx:Option SV}{lo' hi' mx':Option CV}(hM:MSat G R e O m)(hT:TSat R e T t)(hv:Rep R e v x)(hlo:RepOp R e lo lo')(hhi:RepOp R e hi hi')(hmx:RepOp R e mx mx')(h:zuI P ty v lo hi mx T O K):
  ∃z,zbj P m ty x lo' hi' mx'=.val z/\Gone G R e t K z m:=by
 unfold zuI at h;split at h
 ·rename_i km;cases hmx with
  |some hmx=>
   cases hmx;split at h
   ·rename_i elem hu;split at h
    ·rename_i inf hi0;split at h
     ·rename_i kb hl0;have hb0:=zdj (d:=0) hlo hl0 (Int.le_refl 0);cases hhi with
      |some hhi=>
       cases hhi;have hcs:∀x,zbj P m ty x lo' (some (.int kb (.ofNat 0))) (some (.int km (.ofNat 0)))=zhn inf m lo' 0 0 x:=fun x=>by
        unfold zbj;show zgD P m ty x lo' _ _=_;unfold zgD;simp only[hu,hi0]
       rw[hcs];split at h
       ·cases hv;refine⟨.nils,?_,zaI hM hT .empN h⟩;show zkC lo' 0 0=_;unfold zkC;simp only[hb0,Int.toNat,Int.ofNat_eq_natCast]
       ·rename_i sz n el;split at h
        ·rename_i hq;simp only[ya2,zeY,decide_eq_true_eq]at hq;obtain⟨rfl,hsz⟩:=hq;cases hv with
         |islN=>
          refine⟨.nils,?_,zaI hM hT .empN h⟩;show zkC lo' 0 0=_;unfold zkC;simp only[hb0,Int.toNat,Int.ofNat_eq_natCast]
         | @islV _ _ _ a0=>
          refine⟨.void a0,?_,zaI hM hT .empV h⟩;show zkR a0 lo' 0 0=_;unfold zkR;simp only[hb0,Int.toNat,Int.ofNat_eq_natCast]
         | @islS _ _ _ _ tt off c o cs g1 g2 g3 g4 g0 g5=>
          refine⟨.slc tt off 0 0,?_,zaI hM hT (.empS ⟨o,cs,g1,g2,by omega,g0⟩) h⟩;show zp9 inf lo' tt off c 0 0=_;unfold zp9;simp[hb0];rfl
         | @islO _ _ _ _ tt k ty' cs g1 g2 g0 g3=>
          have hk:k*inf.size<=cs.length:=Nat.le_trans (yd2 _ (by omega)) g2;refine⟨.slc tt (k*inf.size) 0 0,?_,zaI hM hT (.empS ⟨_,cs,g1,rfl,hk,g0⟩) h⟩;show zhn inf m lo' 0 0 (.opn tt k n)=_;unfold zhn;simp only[hM.sk.ro _ _ g1];unfold zu0;have hsz':Nat.blt 0 inf.size=true:=hsz;simp[hb0,hsz',yb1 hk]
        ·exact h.elim
       ·exact h.elim
     ·exact h.elim
    ·exact h.elim
   ·exact h.elim
 ·exact h.elim
 ·cases hmx;split at h
  ·rename_i hu;split at h
   ·rename_i s;cases hv;split at h
    ·rename_i a b ha hb;obtain⟨⟨h0,h1,h2⟩,hk⟩:=h;have e1:=zdj (d:=0) hlo ha h0;have e2:=zdj hhi hb (by omega);refine⟨.str (zAJ s a b),?_,zaI hM hT (.cv rfl) hk⟩;unfold zbj;simp only[hu,zws,e1,e2];rw[yb1 (by omega),yb1 (by omega)];rfl
    ·exact h.elim
   ·exact h.elim
  ·rename_i elem hu;split at h
   ·rename_i inf hi0;split at h
    ·rename_i hp;have hp':0<inf.size:=ya9 hp;split at h
     ·rename_i sz n el;split at h
      ·rename_i hq;rw[zeY]at hq;simp at hq;subst hq;split at h
       ·rename_i a b ha hb;obtain⟨⟨h0,h1,h2⟩,hk⟩:=h;have e1:=zdj (d:=0) hlo ha h0;have e2:=zdj hhi hb (by omega);obtain⟨y,h3,h4⟩:=znV hM hu hi0 hp' e1 e2 (by omega) (by omega) hv;exact⟨y,h3,zaI hM hT h4 hk⟩
       ·exact h.elim
      ·exact h.elim
     ·rename_i o;split at h
      ·cases hlo;split at h
       ·rename_i ty' sz n el ho;split at h
        ·rename_i hq;rw[zeY]at hq;simp at hq;subst hq;split at h
         ·rename_i b hb;obtain⟨⟨h0,h1⟩,hk⟩:=h;rw[zgc,zaz]at hk;have e2:=zdj hhi hb h0;have e1:bound (none:Option CV) 0=some 0:=rfl;obtain⟨z,hz,hor⟩:=hM.list ho;have hxz:x=z:=by cases hv<;>(rename_i hh;rw[hz]at hh;cases hh;rfl)
          subst hxz;have hnp:∀u:PM,x≠PM.c u:=fun u hh=>by cases u<;>(subst hh;cases hv)
          rcases hor with⟨hq,rfl⟩ |⟨tt,cc,xs,rfl,k0,k1,k2,k3,ka,k4⟩ |⟨tt,xs,rfl,k2,k3,ka,k4⟩
          ·have hb0:b.toNat=0:=by omega
           rw[hb0]at e2 hk;have hs:zbj P m ty x none hi' none=.val x:=by
            rcases hq with hq |⟨tt,off,o',cs,rfl,_⟩
            ·rcases zd4 hq with rfl |⟨a,rfl⟩
             ·unfold zbj;simp only[hu,hi0,zcT,zvF,e1,e2]
             ·unfold zbj;simp only[hu,hi0,zcT,zqi,e1,e2]
            ·rw[zr6 hu hi0 e1 e2 (Nat.le_refl 0) (Nat.le_refl 0)]
           refine⟨x,hs,zh4 hM hT hz hnp Chg.refl' (by simp) (OR.mkE hq) (fun e' h=>h) (fun e' he=>?_) hk⟩;rcases hq with hq |⟨_,_,_,_,rfl,_⟩
           ·rcases zd4 hq with rfl |⟨a,rfl⟩
            ·exact .lstN he
            ·exact .lstV he
           ·exact .lstE he
          ·have hbn:b.toNat<=n:=by omega
           refine⟨.slc tt 0 b.toNat cc,?_,zh4 hM hT hz hnp ?_ (by simp) (OR.mkS k0 (Nat.le_trans hbn k1) k2 k3 ka fun i hi=>k4 i (by omega)) (fun e' h=>h) (fun e' he=>.lstS he) hk⟩
           ·rw[zr6 hu hi0 e1 e2 (Nat.zero_le _) (Nat.le_trans hbn k1)];rw[zmh (show cc≠0 by omega)];simp
           ·rw[zcV k0,zcV k0];exact Chg.refl'
          ·have hbn:b.toNat<=n:=by omega
           have hl:(0+b.toNat)*inf.size<=xs.length:=by rw[Nat.zero_add];exact Nat.le_trans (yd2 _ hbn) k3
           refine⟨.opn tt 0 b.toNat,?_,zh4 hM hT hz hnp Chg.refl' (by simp) (OR.mkO k2 (by rw[Nat.zero_add]at hl;exact hl) ka fun i hi=>k4 i (by omega)) (fun e' h=>h) (fun e' he=>.lstO he) hk⟩;rw[zwQ hu hi0 e1 e2 (Nat.zero_le _) k2 hl hp'];rfl
         ·exact h.elim
        ·exact h.elim
       ·exact h.elim
      ·exact h.elim
     ·exact h.elim
    ·exact h.elim
   ·exact h.elim
  ·rename_i n elem hu;split at h
   ·rename_i inf hi0;split at h
    ·rename_i o off;split at h
     ·rename_i b ha hb;obtain⟨⟨rfl,hn⟩,hk⟩:=h;have e1:=zdj (d:=0) hlo ha (Int.le_refl 0);have e2:=zdj hhi hb (by omega);cases hv with
      | @ptr _ _ _ tt hh=>
       refine⟨.slc tt off n n,?_,zaI hM hT (.sub hh) hk⟩;unfold zbj;simp only[hu,hi0,zwg,zoW,e1,e2];simp[zmh (show n≠0 by omega)];rw[yb1 (Nat.zero_le n),yb1 (Nat.le_refl n)];rfl
     ·exact h.elim
    ·rename_i cs off;split at h
     ·rename_i b ha hb;obtain⟨⟨rfl,hn,rfl,hl⟩,hk⟩:=h;rw[zaw]at hl;have e1:=zdj (d:=0) hlo ha (Int.le_refl 0);have e2:=zdj hhi hb (by omega);cases hv with
      | @ipt _ _ _ tt bb oo xs g1 g2 g3 g0 g4=>
       refine⟨.slc tt (bb+0) n n,?_,zaI hM hT (.islS g1 g2 (by omega) (Nat.le_refl n) g0 fun i hi=>?_) hk⟩
       ·unfold zbj;simp only[hu,hi0,zwg,zoW,e1,e2];simp[zmh (show n≠0 by omega)];rw[yb1 (Nat.zero_le n),yb1 (Nat.le_refl n)];rfl
       ·have:=g4.seg (i*inf.size) inf.size;rw[show((seg xs bb cs.length).drop (i*inf.size)).take inf.size=seg (seg xs bb cs.length) (i*inf.size) inf.size from rfl,zdO (by have:=zcC (sz:=inf.size) hi;omega)]at this;exact this
     ·exact h.elim
    ·exact h.elim
   ·exact h.elim
  ·exact h.elim
theorem zqh{s:List Nat}:∀{n:Nat} {l:List CV} {el:Nat->List SV},l.length=n*1->s.length=n->(∀i,i<n->RepL R noE (el i) (seg l (i*1) 1))->(∀i,i<n->s.getD i 0<256/\el i=[.cv (.int .u8 ((s.getD i 0:Nat):Int))])->ze8 l=some s:=by
 induction s with
 |nil=>
  intro n l el hl hs _ _;simp at hs;subst hs;simp at hl;subst hl;rfl
 |cons b s ih=>
  intro n l el hl hs hr he;cases n with
  |zero=>simp at hs
  |succ n=>
   cases l with
   |nil=>simp at hl
   |cons x l=>
    have h0:=hr 0 (by omega);rw[(he 0 (by omega)).2]at h0;have hx:x=.int .u8 (.ofNat b):=by
     simp only[seg,Nat.zero_mul,List.drop_zero]at h0;cases h0 with
     |cons h1 _=>cases h1;rfl
    subst hx;have:=ih (n:=n) (l:=l) (el:=fun i=>el (i+1)) (by simp at hl ⊢;omega) (by simpa using hs) (fun i hi=>by
     have h1:=hr (i+1) (by omega);simpa[seg]using h1) fun i hi=>by
     have h1:=he (i+1) (by omega);simpa using h1
    unfold ze8;simp only[this]
theorem zvk{s d:TypeId}{v:SV}{x:CV}(hM:MSat G R e O m)(hT:TSat R e T t)(hv:Rep R e v x)(h:zs7 P c s d v T O K):∃z m',(zbe P m.nxt m s d x=.mem z m'\/(zbe P m.nxt m s d x=.val z/\m'=m))/\Gone G R e t K z m':=by
 unfold zs7 at h;split at h
 ·exact h.elim
 ·rename_i el hs;split at h
  ·rename_i hd;split at h
   ·rename_i he;split at h
    ·rename_i n ee hel;obtain⟨str,⟨h1,h2⟩,hk⟩:=h;obtain⟨l,h3,h4,h5,h6⟩:=zw8 hM hv hel;refine⟨.str str,m,.inr ⟨?_,rfl⟩,zaI hM hT (.cv rfl) hk⟩;rw[zsl hs hd he]
     ·unfold zl0;simp only[h3,zqh h4 h1 h6 h2]
     ·rintro s' rfl;simp[elems]at h3
    ·exact h.elim
   ·exact h.elim
  ·exact h.elim
 ·rename_i sd hn hs;split at h
  ·rename_i k hd;split at h
   ·rename_i k' n;cases hv;have hc:=zpr (P:=P) (m:=m) (T:=m.nxt) (k':=k') (n:=n) hs hd;rw[zbw]at hc;split at h
    ·exact⟨_,m,.inr ⟨hc,rfl⟩,zaI hM hT (.cv rfl) h⟩
    ·rw[zfs h.1]at hc;exact⟨_,m,.inr ⟨hc,rfl⟩,zaI hM hT (.cv rfl) h.2⟩
   ·exact h.elim
  ·rename_i hd;split at h
   ·cases hv;split at h
    ·exact⟨_,m,.inr ⟨zu9 hs hd,rfl⟩,zaI hM hT (.cv rfl) h⟩
    ·exact h.elim
   ·rename_i k' n;cases hv;split at h
    ·obtain⟨⟨h0,h1⟩,hk⟩:=h;obtain⟨j,rfl,hj⟩:=zbk h0;rw[hj]at hk;have hjn:j<128:=by have:(j:Int)<128:=h1;omega
     refine⟨.str [j],m,.inr ⟨?_,rfl⟩,zaI hM hT (.cv rfl) hk⟩;unfold zbe;rw[hs,hd];simp only[zjX hjn]
    ·exact h.elim
   ·exact h.elim
  ·rename_i el hd;split at h
   ·rename_i he;split at h
    ·split at h
     ·rename_i str;cases hv;obtain⟨h1,hk⟩:=h;rw[zbO]at hk;have hnw:=New.at m (CO.opn el 1 (str.map fun b=>.int .u8 (.ofNat (b%256))));refine⟨_,_,.inl (zkz hs hd he h1),zgt (so:=.list el 1 str.length (ziK str)) (x:=.opn m.nxt 0 str.length) hM hT hnw rfl rfl (by simp) (fun e' _=>OR.mkO hnw.self (by simp) (by simp[one]) fun i hi=>?_) (fun e' he=>.lstO he) (fun _ _ _=>trivial) hk⟩;have:seg (str.map fun b=>CV.int .u8 (.ofNat (b%256))) (i*1) 1=[.int .u8 (.ofNat (str.getD i 0%256))]:=by
       unfold seg;rw[Nat.mul_one,List.drop_eq_getElem_cons (by simpa using hi)];simp[ya8,yb5 hi]
      rw[this];exact .cons (.cv rfl) .nil
     ·exact h.elim
    ·exact h.elim
   ·exact h.elim
  ·rename_i hd;split at h
   ·rename_i el;split at h
    ·rename_i o off;split at h
     ·rename_i ty cs ho;split at h
      ·rename_i i hi;split at h
       ·rename_i hb;obtain⟨tt,xs,h1,h2,h3⟩:=hM.cells (zaB ho (by simp));cases hv with
        |ptr he=>
         rw[h1]at he;cases he;refine⟨_,m,.inr ⟨?_,rfl⟩,zaI hM hT (.ptr h1) h⟩;unfold zbe;simp only[hs,hd];unfold zhW;rw[zaw,h3.length]at hb;simp only[hi,h2,hb]
       ·exact h.elim
      ·exact h.elim
     ·exact h.elim
    ·exact h.elim
   ·exact h.elim
  ·rename_i u hd;split at h
   ·split at h
    ·rename_i o off;split at h
     ·rename_i ty cs ho;split at h
      ·rename_i i hi;rw[zoS]at h;obtain⟨hb,h⟩:=h;have hb:=hb.out;obtain⟨tt,xs,h1,h2,h3⟩:=hM.cells (zaB ho (by simp));cases hv with
       |ptr he=>
        rw[h1]at he;cases he;refine⟨_,m,.inr ⟨?_,rfl⟩,zaI hM hT (.ptr h1) h⟩;unfold zbe;simp only[hs,hd];unfold zeP;rw[zaw,h3.length]at hb;simp only[hi,h2,hb]
      ·exact h.elim
     ·exact h.elim
    ·exact h.elim
   ·exact h.elim
  ·exact h.elim
theorem zfP{v:SV}{x:CV}{K:SV->Prop}{tys:List TypeId}{T0:Nat}(hM:MSat G R e O m)(hv:Rep R e v x)(h:zeZ O v K):∃u z,zdn P T0 tys .unsafeSliceData m [x]=.val z/\Rep R e u z/\K u:=by
 show ∃u z,zcM m x=.val z/\Rep R e u z/\K u;unfold zeZ at h;split at h
 ·rename_i o;split at h
  ·rename_i ty sz n el ho;split at h
   ·rename_i hsz;have hsz:0<sz:=by simpa[Nat.blt_eq]using hsz
    obtain⟨hn,hk⟩:=h;rcases hM.ob o _ (zaB ho (by simp))with h0 |⟨x',hx',hor⟩
    ·cases h0
    have hox:e o=some x:=by cases hv<;>assumption
    rw[hox]at hx';cases hx';have h00:∀tt:Nat,CV.ptr tt 0=.ptr tt (0*sz+0):=fun tt=>by rw[Nat.zero_mul]
    rcases hor with⟨_,rfl⟩ |⟨tt,c,xs,rfl,hc0,hc,hg,hcl,ha,hes⟩ |⟨tt,xs,rfl,hg,hcl,ha,hes⟩
    ·omega
    ·refine⟨_,.ptr tt 0,?_,?_,hk⟩
     ·obtain⟨c,rfl⟩:∃k,c=k+1:=⟨c - 1,by omega⟩
      rfl
     ·rw[h00];exact .eptS hox
    ·refine⟨_,.ptr tt 0,?_,?_,hk⟩
     ·obtain⟨n,rfl⟩:∃k,n=k+1:=⟨n - 1,by omega⟩
      cases xs with
      |nil=>
       have:0<(n+1)*sz:=Nat.mul_pos (by omega) hsz;simp at hcl;omega
      |cons a b=>
       unfold zcM;simp only[hg]
     ·rw[h00];exact .eptO hox
   ·exact h.elim
  ·exact h.elim
 ·exact h.elim
theorem zAa{s:List Nat}{n:Nat}(hl:s.length=n)(h:∀j,j<n->s.getD j 0<256):(s.all fun b=>Nat.blt b 256)=true:=by
 rw[yd1];intro b hb;obtain⟨j,hj,rfl⟩:=List.mem_iff_getElem.1 hb;have:=h j (by omega);rw[ya8,yb5 hj]at this;simpa[Nat.blt_eq]using this
theorem zlh{pt it:TypeId}{v w:SV}{x y:CV}{T0:Nat}(hM:MSat G R e O m)(hT:TSat R e T t)(hv:Rep R e v x)(hw:Rep R e w y)(h:zgF P pt v w T O K):
  ∃z m',zdn P T0 [pt,it] .unsafeString m [x,y]=.mem z m'/\Gone G R e t K z m':=by
 show ∃z m',zcN P m pt x y=.mem z m'/\Gone G R e t K z m';unfold zgF at h;split at h
 ·rename_i o sz i off;split at h
  ·rename_i k;cases hw;split at h
   ·rename_i el hp;split at h
    ·rename_i ty sz' len ee ho;split at h
     ·rename_i hb;simp only[ya2,zeY,decide_eq_true_eq]at hb;obtain⟨hb1,rfl,rfl,rfl,rfl,rfl⟩:=hb;obtain⟨⟨rfl,h0,hlen⟩,s,⟨hs1,hs2⟩,hk⟩:=h;rw[zgc,zaz]at hk;rcases hM.ob o _ (zaB ho (by simp))with h0' |⟨x',hx',hor⟩
      ·cases h0'
      obtain⟨n,rfl⟩:∃k,len=k+1:=⟨len - 1,by omega⟩
      have hall:=zAa hs1 fun j hj=>(hs2 j hj).1
      have fin:∀(tt:Nat) (ob:CO) (xs:List CV),tg x'=some tt->(∀u:PM,x'≠PM.c u)->m.get tt=some ob->zcG ob=false->zrT m tt (n+1) ty (m.get tt)=.mem (.str s) (m.kill tt)->x=.ptr tt 0 ->
        ∃z m',zcN P m pt x (.int .i64 ((n+1:Nat):Int))=.mem z m'/\Gone G R e t K z m':=by
       intro tt ob xs h1 h2 h3 h4 h5 h6;subst h6;refine⟨.str s,m.kill tt,?_,?_⟩
       ·show(match P.underlying pt with
         |some (.pointer e)=>match Nat.beq (P.cellsOf e) 1&&Nat.ble n 1000000 with
          |true=>zrT m tt (n+1) e (m.get tt)
          |false=>.no _
         |_=>.no _)=_
        rw[hp];have hc:(Nat.beq (P.cellsOf ty) 1&&Nat.ble n 1000000)=true:=by rw[hb1,yb1 (by omega)];rfl
        simp only[hc];exact h5
       ·have hki:=Kill.mk' m tt (fun o' ho'=>by rw[h3]at ho';cases ho';exact h4);have hc:Chg m (tg x') (tg CV.nils) (m.kill tt):=⟨Nat.le_refl _,fun t' q1 q2=>(by rw[hki.get,if_neg (fun hq=>q1 (by rw[h1,hq]))]),fun t' ht=>(by cases ht),fun w=>hki.wf w⟩
        have hms:=hM.chg (y:=.nils) (so:=.list ty 1 0 ee) hx' hc (by simp) (OR.mkE (.inl rfl));have he:∀i z,i≠o->e i=some z->e.put o (some .nils) i=some z:=fun i z hi hz=>by rw[DEnv.put_ne _ _ hi];exact hz
        refine⟨R,_,.cv (.str s),_,_,RO.le.refl R,fun i u hi=>?_,.cv rfl,hT.sb (RO.le.refl R) he (fun _ _=>.junk),hms,hk⟩;by_cases hq:i=o
        ·subst hq;rw[hx']at hi;cases hi;exact absurd rfl (h2 u)
        ·exact he i _ hq hi
      have row:∀{xs:List CV},(n+1)*1<=xs.length->xs.all one=true->(∀i,i<n+1->RepL R noE (ee i) (seg xs (i*1) 1))->zep xs 0 (n+1)=some (seg xs 0 (n+1))/\ze8 (seg xs 0 (n+1))=some s:=by
       intro xs h1 h2 h3;refine⟨zi9 (by omega),?_⟩;exact zqh (n:=n+1) (el:=ee) (by rw[zbh (by omega),Nat.mul_one]) hs1 (fun i hi=>by
        rw[zdO (by omega),Nat.zero_add];exact h3 i hi) hs2
      have h00:∀{tt:Nat},CV.ptr tt (0*1+0)=.ptr tt 0:=rfl;rcases hor with⟨_,hq⟩ |⟨tt,c,xs,rfl,hc0,hc,hg,hcl,ha,hes⟩ |⟨tt,xs,rfl,hg,hcl,ha,hes⟩
      ·omega
      ·have hx:x=.ptr tt 0:=by
        cases hv with
        |eptS he=>rw[hx']at he;cases he;rfl
        |eptO he=>rw[hx']at he;cases he
       obtain⟨q1,q2⟩:=row (xs:=xs) (by omega) ha hes;refine fin tt _ xs (zcV hc0) (fun u=>by cases u<;>simp) hg rfl ?_ hx;rw[hg];unfold zrT;simp only[show Nat.beq ty ty=true from Nat.beq_refl ty,q1,q2,hall]
      ·have hx:x=.ptr tt 0:=by
        cases hv with
        |eptS he=>rw[hx']at he;cases he
        |eptO he=>rw[hx']at he;cases he;rfl
       obtain⟨q1,q2⟩:=row (xs:=xs) (by omega) ha hes;refine fin tt _ xs rfl (fun u=>by cases u<;>simp) hg rfl ?_ hx;rw[hg];unfold zrT;simp only[show Nat.beq ty ty=true from Nat.beq_refl ty,q1,q2,hall]
     ·exact h.elim
    ·exact h.elim
   ·exact h.elim
  ·exact h.elim
 ·exact h.elim
end
end Go.Cx
namespace Go.Cx
open Go
theorem zbK{c:KC}{a b:CV}(ha:c.has a=true)(hb:c.has b=true):zg0 a b=true↔nk a=nk b:=by
 cases c with
 |int k=>
  cases a<;>simp only[KC.has,Bool.false_eq_true]at ha;cases b<;>simp only[KC.has,Bool.false_eq_true]at hb;have h1:=zbl ha;have h2:=zbl hb;subst h1;subst h2;simp only[zg0,nk,zcp,beq_iff_eq,Sum.inl.injEq,CV.int.injEq,true_and]
 |str=>
  cases a<;>simp only[KC.has,Bool.false_eq_true]at ha;cases b<;>simp only[KC.has,Bool.false_eq_true]at hb;simp only[zg0,nk,zej,beq_iff_eq,Sum.inr.injEq]
 |wide ok=>
  cases a<;>simp only[KC.has,Bool.false_eq_true,ya2]at ha;cases b<;>simp only[KC.has,Bool.false_eq_true,ya2]at hb;simp only[zg0,nk,Sum.inl.injEq];constructor
  ·intro h;exact cvEq_eq h
  ·intro h;rw[h];exact hb.2
noncomputable def znH(P:Program)(kt:TypeId):Option KC:=match zcS P kt with
 |true=>some (.wide (zu5 P kt))
 |false=>match P.underlying kt with
  |some (.int k)=>some (.int k)
  |some .string=>some .str
  |_=>none
theorem zyC{P:Program}{kt:TypeId}{c:KC}(h:znH P kt=some c){a b:CV}(ha:c.has a=true)(hb:c.has b=true):zxh P kt a b=some (zg0 a b):=by
 unfold znH at h;unfold zxh;split at h
 ·rename_i hw;cases h;rw[hw];cases a<;>simp only[KC.has,Bool.false_eq_true,ya2]at ha;cases b<;>simp only[KC.has,Bool.false_eq_true,ya2]at hb;simp only[hb.1];rfl
 ·rename_i hw;rw[hw];split at h
  ·rename_i k hu;cases h;cases a<;>simp only[KC.has,Bool.false_eq_true]at ha;cases b<;>simp only[KC.has,Bool.false_eq_true]at hb;have h1:=zbl ha;have h2:=zbl hb;subst h1;subst h2;simp only[ceq,hu,znP,ha,zg0]
  ·rename_i hu;cases h;cases a<;>simp only[KC.has,Bool.false_eq_true]at ha;cases b<;>simp only[KC.has,Bool.false_eq_true]at hb;simp only[ceq,hu,zne,zg0]
  ·cases h
theorem zlb{P:Program}{kt:TypeId}{c:KC}(h:znH P kt=some c){a:CV}(ha:c.has a=true):zk4 P kt a=true:=by
 unfold znH at h;unfold zk4;split at h
 ·rename_i hw;cases h;rw[hw];cases a<;>simp only[KC.has,Bool.false_eq_true,ya2]at ha;exact ha.1
 ·rename_i hw;rw[hw];unfold zyW;split at h
  ·rename_i k hu;rw[hu]
  ·rename_i hu;rw[hu]
  ·cases h
theorem zh2{P:Program}{kt:TypeId}{c:KC}(h:znH P kt=some c){k:CV}(hk:c.has k=true):∀{es:List (CV×CV×Nat)} (i:Nat),(∀p∈es,c.has p.1=true) ->
  (zc8 k es=none->zgo P kt k es i=some none)/\∀b,zc8 k es=some b->∃j a s,zgo P kt k es i=some (some (i+j,b,s))/\es[j]? = some (a,b,s)/\zg0 k a=true
 |[],i,_=>⟨fun _=>rfl,fun b hb=>by cases hb⟩
 |(a,b,s)::es,i,hes=>by
  have ha:=hes _ (ya5 ..);have ih:=zh2 h hk (es:=es) (i+1) fun p hp=>hes p (ya4 _ hp)
  unfold zc8 zgo;rw[zyC h hk ha];cases hq:zg0 k a with
  |true=>exact⟨fun hh=>(by cases hh),fun b' hb=>by cases hb;exact⟨0,a,s,rfl,rfl,hq⟩⟩
  |false=>
   refine⟨ih.1,fun b' hb=>?_⟩;obtain⟨j,a',s',h1,h2,h3⟩:=ih.2 b' hb;exact⟨j+1,a',s',by rw[show i+(j+1)=i+1+j by omega];exact h1,h2,h3⟩
noncomputable def zpQ(k:CV)(v:SV)(f:CV->Option SV):CV->Option SV:=fun k'=>match zg0 k' k with
 |true=>some v
 |false=>f k'
theorem zyG{c:KC}{a b k:CV}(ha:c.has a=true)(hb:c.has b=true)(hk:c.has k=true)(h:nk a=nk b):zg0 k a=zg0 k b:=by
 have h1:=zbK hk ha;have h2:=zbK hk hb;rw[h]at h1;exact Bool.eq_iff_iff.2 (h1.trans h2.symm)
theorem znc{c:KC}{k k' a b v:CV}{s:Nat}(hk:c.has k=true)(hk':c.has k'=true)(hq:zg0 k a=true):∀{es:List (CV×CV×Nat)} {j:Nat},(∀p∈es,c.has p.1=true)->(es.map fun p=>nk p.1).Nodup->es[j]? = some (a,b,s) ->
  zc8 k' (es.set j (k,v,s))=match zg0 k' k with |true=>some v |false=>zc8 k' es
 |[],j,_,_,h=>by simp at h
 |(a',b',s')::es,0,hes,hn,h=>by
  simp only[List.getElem?_cons_zero,ya0,yc4]at h;obtain⟨rfl,rfl,rfl⟩:=h;have ha:=hes _ (ya5 ..);rw[List.set_cons_zero];unfold zc8;rw[zyG ha hk hk' ((zbK hk ha).1 hq).symm];cases zg0 k' k<;>rfl
 |(a',b',s')::es,j+1,hes,hn,h=>by
  rw[yc6]at h;have ha':=hes _ (ya5 ..);have hmem:=List.mem_of_getElem? h;have ha:=hes _ (ya4 _ hmem);simp only[List.map_cons,List.nodup_cons]at hn;have ih:=znc (v:=v) hk hk' hq (fun p hp=>hes p (ya4 _ hp)) hn.2 h;rw[List.set_cons_succ];unfold zc8;rw[ih];cases h1:zg0 k' a' with
  |false=>rfl
  |true=>
   have h2:zg0 k' k=false:=by
    cases h3:zg0 k' k with
    |false=>rfl
    |true=>
     exfalso;apply hn.1;rw[List.mem_map];refine⟨_,hmem,?_⟩;rw[<- (zbK hk ha).1 hq,<- (zbK hk' hk).1 h3,(zbK hk' ha').1 h1]
   rw[h2]
theorem zmO{c:KC}{k k' v:CV}{s:Nat}(hk:c.has k=true)(hk':c.has k'=true):∀{es:List (CV×CV×Nat)},(∀p∈es,c.has p.1=true)->zc8 k es=none ->
  zc8 k' (es++[(k,v,s)])=match zg0 k' k with |true=>some v |false=>zc8 k' es
 |[],_,_=>by
  simp only[List.nil_append,zc8]
  all_goals (cases zg0 k' k<;>rfl)
 |(a',b',s')::es,hes,h=>by
  have ha':=hes _ (ya5 ..);unfold zc8 at h;split at h
  ·cases h
  ·rename_i hq;have ih:=zmO (v:=v) (s:=s) hk hk' (fun p hp=>hes p (ya4 _ hp)) h;rw[List.cons_append];unfold zc8;rw[ih];cases h1:zg0 k' a' with
   |false=>rfl
   |true=>
    have h2:zg0 k' k=false:=by
     cases h3:zg0 k' k with
     |false=>rfl
     |true=>
      exfalso;have:=(zbK hk ha').2 (by rw[<- (zbK hk' hk).1 h3,(zbK hk' ha').1 h1]);rw[hq]at this;cases this
    rw[h2]
theorem zkm{c:KC}{k:CV}(hk:c.has k=true):∀{es:List (CV×CV×Nat)},(∀p∈es,c.has p.1=true)->zc8 k es=none->nk k∉es.map fun p=>nk p.1
 |[],_,_=>by simp
 |(a,b,s)::es,hes,h=>by
  unfold zc8 at h;split at h
  ·cases h
  ·rename_i hq;have ih:=zkm hk (fun p hp=>hes p (ya4 _ hp)) h;simp only[List.map_cons,List.mem_cons,not_or];refine⟨fun hh=>?_,ih⟩;have:=(zbK hk (hes _ (ya5 ..))).2 hh;rw[hq]at this;cases this
section
variable{R:RO}{c:KC}{f:CV->Option SV}{st:Option (CV×Nat)}{es:List (CV×CV×Nat)}{clock:Nat}
theorem zmy{A:Type}{l:List A}{i:Nat}{x:A}(h:l[i]? = some x):l.set i x=l:=by
 apply List.ext_getElem?;intro j;rw[yc8];split
 ·rename_i hq;subst hq;rw[h];simp[(List.getElem?_eq_some_iff.1 h).1]
 ·rfl
theorem MapRep.upd(h:MapRep R c f st es clock){k a b x:CV}{v:SV}{j s:Nat}(hk:c.has k=true)(hj:es[j]? = some (a,b,s))(hq:zg0 k a=true)(hv:Rep R noE v x):MapRep R c (zpQ k v f) (some (k,s)) (es.set j (k,x,s)) clock:=by
 have hmem:=List.mem_of_getElem? hj;have ha:=h.has _ hmem;refine⟨fun p hp=>?_,fun k' hk'=>?_,?_,?_,fun p hp=>?_,fun k' s' hh=>?_⟩
 ·rcases List.mem_or_eq_of_mem_set hp with h1 |h1
  ·exact h.has p h1
  ·rw[h1];exact hk
 ·rw[znc hk hk' hq h.has h.ne hj];unfold zpQ;cases zg0 k' k with
  |true=>exact .inr ⟨x,v,rfl,rfl,hv⟩
  |false=>exact h.get k' hk'
 ·rw[List.map_set,zmy (by rw[yb9,hj];simp only[yc5];rw[(zbK hk ha).1 hq])];exact h.ne
 ·rw[List.map_set,zmy (by rw[yb9,hj];rfl)];exact h.stp
 ·rcases List.mem_or_eq_of_mem_set hp with h1 |h1
  ·exact h.lt p h1
  ·rw[h1];exact h.lt (a,b,s) hmem
 ·cases hh;exact⟨hk,x,List.mem_iff_getElem?.2 ⟨j,by rw[yc8,if_pos rfl,if_pos (List.getElem?_eq_some_iff.1 hj).1]⟩⟩
theorem MapRep.add(h:MapRep R c f st es clock){k x:CV}{v:SV}(hk:c.has k=true)(hn:zc8 k es=none)(hv:Rep R noE v x):MapRep R c (zpQ k v f) (some (k,clock)) (es++[(k,x,clock)]) (clock+1):=by
 refine⟨fun p hp=>?_,fun k' hk'=>?_,?_,?_,fun p hp=>?_,fun k' s' hh=>?_⟩
 ·rcases List.mem_append.1 hp with h1 |h1
  ·exact h.has p h1
  ·rw[List.mem_singleton.1 h1];exact hk
 ·rw[zmO hk hk' h.has hn];unfold zpQ;cases zg0 k' k with
  |true=>exact .inr ⟨x,v,rfl,rfl,hv⟩
  |false=>exact h.get k' hk'
 ·rw[List.map_append,List.nodup_append];refine⟨h.ne,by simp,fun y hy z hz=>?_⟩;simp only[List.map_cons,List.map_nil,yc7]at hz;subst hz;rintro rfl;exact zkm hk h.has hn hy
 ·rw[List.map_append,List.nodup_append];refine⟨h.stp,by simp,fun y hy z hz=>?_⟩;simp only[List.map_cons,List.map_nil,yc7]at hz;subst hz;rintro rfl;obtain⟨p,hp,hpe⟩:=List.mem_map.1 hy;have:=h.lt p hp;omega
 ·rcases List.mem_append.1 hp with h1 |h1
  ·have:=h.lt p h1;omega
  ·rw[List.mem_singleton.1 h1];exact Nat.lt_succ_self _
 ·cases hh;exact⟨hk,x,by simp⟩
theorem MapRep.forget(h:MapRep R c f st es clock):MapRep R c f none es clock:=⟨h.has,h.get,h.ne,h.stp,h.lt,fun _ _ hh=>(by cases hh)⟩
theorem MapRep.nil:MapRep R c (fun _=>none) none [] 0:=⟨fun _ hp=>(by cases hp),fun k _=>.inl ⟨rfl,rfl⟩,by simp,by simp,fun _ hp=>(by cases hp),fun _ _ hh=>(by cases hh)⟩
theorem zqQ{s:Nat}:∀{es:List (CV×CV×Nat)} {k b:CV} (n:Nat),(k,b,s)∈es->(es.map fun p=>p.2.2).Nodup->∃j,zo5 s es n=some (n+j,k)/\es[j]? = some (k,b,s)
 |[],_,_,_,h,_=>by cases h
 |(a,b',s')::es,k,b,n,h,hn=>by
  simp only[List.map_cons,List.nodup_cons]at hn;unfold zo5;rw[zeY];rcases List.mem_cons.1 h with h1 |h1
  ·cases h1;simp only[decide_true];exact⟨0,rfl,rfl⟩
  ·have hne:s'≠s:=fun hh=>hn.1 (List.mem_map.2 ⟨_,h1,hh.symm⟩)
   simp only[hne,decide_false];obtain⟨j,h2,h3⟩:=zqQ (n+1) h1 hn.2;exact⟨j+1,by rw[h2,show n+(j+1)=n+1+j by omega],h3⟩
end
def zwC:List SV->(List CV->Prop)->Prop
 |[],k=>k []
 |v::r,k=>match v with
  |.cv x=>fzC x fun x=>zwC r fun l=>k (x::l)
  |_=>False
def zAb(v:SV)(k:CV->Prop):Prop:=match v with
 |.cv x=>fzC x k
 |.agg cs=>zwC cs fun l=>k (.agg l)
 |_=>False
theorem zp3{R:RO}{e:DEnv}:∀{vs:List SV} {xs:List CV} {k:List CV->Prop},RepL R e vs xs->zwC vs k->k xs
 |[],_,_,.nil,h=>h
 |v::vs,_,k,.cons hv hs,h=>by
  unfold zwC at h;split at h
  ·rename_i x;rw[zsw]at h;cases hv;exact zp3 (k:=fun l=>k (_::l)) hs h
  ·exact h.elim
theorem zoV{R:RO}{e:DEnv}{v:SV}{x:CV}{k:CV->Prop}(hv:Rep R e v x)(h:zAb v k):k x:=by
 unfold zAb at h;split at h
 ·rw[zsw]at h;cases hv;exact h
 ·cases hv with
  |agg hs=>exact zp3 (k:=fun l=>k (.agg l)) hs h
 ·exact h.elim
noncomputable def zzH(P:Program)(kt:TypeId)(c:KC)(K:Prop):Prop:=match zcS P kt with
 |true=>match c with
  |.wide ok=>ok=zu5 P kt/\K
  |_=>False
 |false=>match P.underlying kt with
  |some (.int k)=>match c with
   |.int k'=>match kEq k k' with
    |true=>K
    |false=>False
   |_=>False
  |some .string=>match c with
   |.str=>K
   |_=>False
  |_=>False
theorem zov{P:Program}{kt:TypeId}{c:KC}{K:Prop}(h:zzH P kt c K):znH P kt=some c/\K:=by
 unfold zzH at h;unfold znH;split at h
 ·rename_i hw;try rw[hw]
  split at h
  ·exact⟨by rw[h.1],h.2⟩
  ·exact h.elim
 ·rename_i hw;try rw[hw]
  split at h
  ·rename_i k hu;split at h
   ·split at h
    ·rename_i hk;exact⟨by rw[zbl hk],h⟩
    ·exact h.elim
   ·exact h.elim
  ·rename_i hu;split at h
   ·exact⟨rfl,h⟩
   ·exact h.elim
  ·exact h.elim
noncomputable def zz9(c:KC)(k:CV)(K:Prop):Prop:=match c with
 |.int q=>match k with
  |.int q' _=>match kEq q q' with
   |true=>K
   |false=>False
  |_=>False
 |.str=>match k with
  |.str _=>K
  |_=>False
 |.wide ok=>match k with
  |.agg cs=>(ok (.agg cs)&&cvEq (.agg cs) (.agg cs))=true/\K
  |_=>False
theorem zpe{c:KC}{k:CV}{K:Prop}(h:zz9 c k K):c.has k=true/\K:=by
 unfold zz9 at h;unfold KC.has;split at h
 ·split at h
  ·split at h
   ·rename_i hq;exact⟨hq,h⟩
   ·exact h.elim
  ·exact h.elim
 ·split at h
  ·exact⟨rfl,h⟩
  ·exact h.elim
 ·split at h
  ·exact h
  ·exact h.elim
def mapB(f:CV->Option SV)(k:CV):Bool:=match f k with
 |some (.cv (.bool b))=>b
 |_=>false
def zBr(f:CV->Option SV)(k:CV):Int:=match f k with
 |some (.cv (.int _ n))=>n
 |_=>0
def zA9(f:CV->Option SV)(k:CV):List Nat:=match f k with
 |some (.cv (.str s))=>s
 |_=>[]
def zgg(f:CV->Option SV)(k:CV):Bool:=(f k).isSome
def allB(f:CV->Option SV)(k:CV):Prop:=∀v,f k=some v->∃b,v=.cv (.bool b)
def zCc(q:IntKind)(f:CV->Option SV)(k:CV):Prop:=∀v,f k=some v->∃n,v=.cv (.int q n)
def zCg(f:CV->Option SV)(k:CV):Prop:=∀v,f k=some v->∃s,v=.cv (.str s)
noncomputable def zqc(P:Program)(et:TypeId)(f:CV->Option SV)(k:CV)(K:SV->Bool->Prop):Prop:=match zil P et with
 |some z=>match P.underlying et with
  |some .bool=>match z with
   |.bool b=>match b with
    |false=>allB f k/\K (.cv (.bool (mapB f k))) (zgg f k)
    |true=>False
   |_=>False
  |some (.int q)=>match z with
   |.int q' n=>match kEq q q'&&ieq n 0 with
    |true=>zCc q f k/\K (.cv (.int q (zBr f k))) (zgg f k)
    |false=>False
   |_=>False
  |some .string=>match z with
   |.str s=>match s with
    |[]=>zCg f k/\K (.cv (.str (zA9 f k))) (zgg f k)
    |_=>False
   |_=>False
  |_=>∃(b:Bool) (v:SV),f k=(bif b then some v else none)/\ziU b (knK v fun v=>K v true) (knK (zuR z) fun v=>K v false)
 |none=>False
theorem zs6{b:Bool}{A B:Prop}(h:ziU b A B):(b=true/\A)\/(b=false/\B):=by
 cases b with
 |true=>exact .inl ⟨rfl,h⟩
 |false=>exact .inr ⟨rfl,h⟩
section
variable{P:Program}{X:Ext}{G:Ctx}{R:RO}{e:DEnv}{m:Mem}{t:Tmps}{K:DK}{T:List SV}{O:List SObj}
theorem MSat.mapo(h:MSat G R e O m){o:Nat}{c:KC}{f:CV->Option SV}{st:Option (CV×Nat)}(ho:zbG O o=.map c f st):∃t es clock,e o=some (.map t)/\m.get t=some (.map es clock)/\MapRep R c f st es clock:=by
 rcases h.ob o _ (zaB ho (by simp))with h1 |⟨x,h1,t,es,clock,rfl,h2,h3⟩
 ·cases h1
 ·exact⟨t,es,clock,h1,h2,h3⟩
theorem zmL{c:KC}{f:CV->Option SV}{st:Option (CV×Nat)}{es:List (CV×CV×Nat)}{clock:Nat}{et:TypeId}{k:CV}{K:SV->Bool->Prop}(h:MapRep R c f st es clock)(hk:c.has k=true)(hK:zqc P et f k K):
  ∃z,zil P et=some z/\((zc8 k es=none/\∃v,Rep R noE v z/\K v false)\/∃b v,zc8 k es=some b/\Rep R noE v b/\K v true):=by
 unfold zqc at hK;split at hK
 ·rename_i z hz;refine⟨z,hz,?_⟩;have hg:=h.get k hk;split at hK
  ·split at hK
   ·split at hK
    ·obtain⟨ha,hK⟩:=hK;rcases hg with⟨h1,h2⟩ |⟨b,v,h1,h2,h3⟩
     ·refine .inl ⟨h1,_,.cv rfl,?_⟩;simpa only[mapB,zgg,h2,Option.isSome_none]using hK
     ·obtain⟨bb,rfl⟩:=ha v h2;refine .inr ⟨b,_,h1,h3,?_⟩;simpa only[mapB,zgg,h2,Option.isSome_some]using hK
    ·exact hK.elim
   ·exact hK.elim
  ·rename_i q hu;split at hK
   ·split at hK
    ·rename_i q' n hb;simp only[ya2,zcp,beq_iff_eq]at hb;obtain⟨hb1,rfl⟩:=hb;have:=zbl hb1;subst this;obtain⟨ha,hK⟩:=hK;rcases hg with⟨h1,h2⟩ |⟨b,v,h1,h2,h3⟩
     ·refine .inl ⟨h1,.cv (.int q 0),.cv rfl,?_⟩;simpa only[zBr,zgg,h2,Option.isSome_none]using hK
     ·obtain⟨bb,rfl⟩:=ha v h2;refine .inr ⟨b,_,h1,h3,?_⟩;simpa only[zBr,zgg,h2,Option.isSome_some]using hK
    ·exact hK.elim
   ·exact hK.elim
  ·split at hK
   ·split at hK
    ·obtain⟨ha,hK⟩:=hK;rcases hg with⟨h1,h2⟩ |⟨b,v,h1,h2,h3⟩
     ·refine .inl ⟨h1,.cv (.str []),.cv rfl,?_⟩;simpa only[zA9,zgg,h2,Option.isSome_none]using hK
     ·obtain⟨bb,rfl⟩:=ha v h2;refine .inr ⟨b,_,h1,h3,?_⟩;simpa only[zA9,zgg,h2,Option.isSome_some]using hK
    ·exact hK.elim
   ·exact hK.elim
  ·obtain⟨b,v,hf,hK⟩:=hK;rcases zs6 hK with⟨rfl,hK⟩ |⟨rfl,hK⟩
   ·rcases hg with⟨h1,h2⟩ |⟨y,w,h1,h2,h3⟩
    ·rw[h2]at hf;cases hf
    ·rw[h2]at hf;cases hf;exact .inr ⟨y,_,h1,h3,(zdk hK).2⟩
   ·rcases hg with⟨h1,h2⟩ |⟨y,w,h1,h2,h3⟩
    ·exact .inl ⟨h1,_,zdT z,(zdk hK).2⟩
    ·rw[h2]at hf;cases hf
 ·exact hK.elim
noncomputable def zgf(P:Program)(ty:TypeId)(r:Option Operand)(T:List SV)(O:List SObj)(K:DK):Prop:=match r with
 |some _=>False
 |none=>match P.underlying ty with
  |some (.map kt _)=>match znH P kt with
   |some c=>zrR O (.map c (fun _=>none) none) fun o O=>K (.map o) T O
   |none=>False
  |_=>False
theorem zoI{ty:TypeId}{r:Option Operand}(hM:MSat G R e O m)(hT:TSat R e T t)(h:zgf P ty r T O K):∃y m',zhD m.nxt r m t=.mem y m'/\Gone G R e t K y m':=by
 unfold zgf at h;split at h
 ·exact h.elim
 ·split at h
  ·split at h
   ·rename_i c hc;rw[zbO]at h;have hn:=New.at m (.map [] 0);exact⟨_,_,rfl,zgt (so:=.map c (fun _=>none) none) hM hT hn (x:=.map m.nxt) rfl rfl (by simp) (fun e' _=>⟨m.nxt,[],0,rfl,hn.self,MapRep.nil⟩) (fun e' he=>.map he) (fun _ _ _=>trivial) h⟩
   ·exact h.elim
  ·exact h.elim
noncomputable def zl4(P:Program)(ty:TypeId)(O:List SObj)(x k:SV)(ok:Bool)(K:SV->Prop):Prop:=match P.underlying ty with
 |some (.map kt et)=>zAb k fun k=>match x with
  |.map o=>match zbG O o with
   |.map c f st=>zzH P kt c (zz9 c k (zqc P et f k fun v b=>match ok with
    |true=>K (.tup [v,.cv (.bool b)])
    |false=>K v))
   |_=>False
  |_=>False
 |_=>False
theorem zjY{ty:TypeId}{x k:SV}{xv kv:CV}{ok:Bool}{K:SV->Prop}(hM:MSat G R e O m)(hx:Rep R e x xv)(hk:Rep R e k kv)(h:zl4 P ty O x k ok K):∃v y,zbS P m ty xv kv ok=.val y/\Rep R e v y/\K v:=by
 unfold zl4 at h;split at h
 ·rename_i kt et hu;have h:=zoV hk h;split at h
  ·rename_i o;split at h
   ·rename_i c f st ho;obtain⟨hc,h⟩:=zov h;obtain⟨hh,h⟩:=zpe h;obtain⟨tt,es,clock,h1,h2,h3⟩:=hM.mapo ho;cases hx with
    |map h4=>
     rw[h1]at h4;cases h4;have hf:=zh2 (k:=kv) hc hh (es:=es) 0 h3.has;have hes:zpk m (.map tt)=some es:=by unfold zpk;simp only[h2]
     have up:∀{v:SV} {y:CV},Rep R noE v y->Rep R e v y:=fun h=>h.mono (RO.le.refl R) fun _ _ hh=>(by cases hh)
     obtain⟨z,hz,hcase⟩:=zmL h3 hh h;unfold zbS;simp only[hu,zlb hc hh,hz,hes];rcases hcase with⟨g1,v,g2,g3⟩ |⟨b,v,g1,g2,g3⟩
     ·rw[hf.1 g1];cases ok with
      |true=>exact⟨_,_,rfl,.tup (.cons (up g2) (.cons (.cv rfl) .nil)),g3⟩
      |false=>exact⟨_,_,rfl,up g2,g3⟩
     ·obtain⟨j,a,s,g4,_,_⟩:=hf.2 b g1;rw[g4];cases ok with
      |true=>exact⟨_,_,rfl,.tup (.cons (up g2) (.cons (.cv rfl) .nil)),g3⟩
      |false=>exact⟨_,_,rfl,up g2,g3⟩
   ·exact h.elim
  ·exact h.elim
 ·exact h.elim
theorem zge{o tt:Nat}{c:KC}{f':CV->Option SV}{st':Option (CV×Nat)}{es es':List (CV×CV×Nat)}{clock clock':Nat}{v:SV}{x:CV}(hM:MSat G R e O m)(hT:TSat R e T t)(h1:e o=some (.map tt))(h2:m.get tt=some (.map es clock))(h3:MapRep R c f' st' es' clock')(hv:Rep R e v x)(hk:K v T (O.set o (.map c f' st'))):Gone G R e t K x (m.put tt (.map es' clock')):=by
 have hput:=Put.mk' m tt (.map es' clock') (fun o' ho'=>by rw[h2]at ho';cases ho';rfl);exact⟨R,e,v,T,_,RO.le.refl R,fun _ _ h=>h,hv,hT,hM.putL (so:=.map c f' st') h1 rfl hput (by simp) ⟨tt,es',clock',rfl,hput.self,h3⟩,hk⟩
noncomputable def ze0(P:Program)(ty:TypeId)(x k v:SV)(T:List SV)(O:List SObj)(K:DK):Prop:=match P.underlying ty with
 |some (.map kt _)=>zAb k fun k=>znh 9 [x,v] T O fun l T O=>match l with
  |[x,v]=>match x with
   |.map o=>match zbG O o with
    |.map c f st=>zzH P kt c (zz9 c k (match zeM zal v with
     |true=>zcW O o (.map c (zpQ k v f) none) fun O=>K (.tup []) T O
     |false=>False))
    |_=>False
   |_=>False
  |_=>False
 |_=>False
theorem zgr{ty:TypeId}{x k v:SV}{xv kv vv:CV}(hM:MSat G R e O m)(hT:TSat R e T t)(hx:Rep R e x xv)(hk:Rep R e k kv)(hv:Rep R e v vv)(h:ze0 P ty x k v T O K):∃m',zaQ P m ty xv kv vv=.mem zaq m'/\Gone G R e t K zaq m':=by
 unfold ze0 at h;split at h
 ·rename_i kt et hu;have h:=zoV hk h;obtain⟨R1,e1,l,T1,O1,q1,q2,q3,q4,q5,h⟩:=zch 9 (RepL.cons hx (RepL.cons hv .nil)) hT hM h;split at h
  ·rename_i x1 v1;cases q3 with
   |cons hx1 hs=>cases hs with
    |cons hv1 _=>
     split at h
     ·rename_i o;split at h
      ·rename_i c f st ho;obtain⟨hc,h⟩:=zov h;obtain⟨hh,h⟩:=zpe h;split at h
       ·rename_i him;rw[zaz]at h;obtain⟨tt,es,clock,h1,h2,h3⟩:=q5.mapo ho;cases hx1 with
        |map h4=>
         rw[h1]at h4;cases h4;have hf:=zh2 (k:=kv) hc hh (es:=es) 0 h3.has;have hvi:=hv1.imm zal him;unfold zaQ;simp only[hu,zlb hc hh,h2];cases hfk:zc8 kv es with
         |none=>
          rw[hf.1 hfk];exact⟨_,rfl,zf8 q1 q2 (zge q5 q4 h1 h2 (h3.add hh hfk hvi).forget (.tup .nil) h)⟩
         |some b=>
          obtain⟨j,a,s,g4,g5,g6⟩:=hf.2 b hfk;rw[g4,Nat.zero_add];exact⟨_,rfl,zf8 q1 q2 (zge q5 q4 h1 h2 (h3.upd hh g5 g6 hvi).forget (.tup .nil) h)⟩
       ·exact h.elim
      ·exact h.elim
     ·exact h.elim
  ·exact h.elim
 ·exact h.elim
noncomputable def ziF(P:Program)(ty:TypeId)(x k:SV)(T:List SV)(O:List SObj)(K:DK):Prop:=match P.underlying ty with
 |some (.map kt et)=>zAb k fun k=>match x with
  |.map o=>match zbG O o with
   |.map c f st=>zzH P kt c (zz9 c k (zqc P et f k fun v _=>∀s:Nat,zcW O o (.map c (zpQ k v f) (some (k,s))) fun O=>K (.tup [v,.cv (.int .i64 (.ofNat s))]) T O))
   |_=>False
  |_=>False
 |_=>False
theorem zm9{ty:TypeId}{x k:SV}{xv kv:CV}(hM:MSat G R e O m)(hT:TSat R e T t)(hx:Rep R e x xv)(hk:Rep R e k kv)(h:ziF P ty x k T O K):∃y m',zcr P m ty xv kv=.mem y m'/\Gone G R e t K y m':=by
 unfold ziF at h;split at h
 ·rename_i kt et hu;have h:=zoV hk h;split at h
  ·rename_i o;split at h
   ·rename_i c f st ho;obtain⟨hc,h⟩:=zov h;obtain⟨hh,h⟩:=zpe h;obtain⟨tt,es,clock,h1,h2,h3⟩:=hM.mapo ho;cases hx with
    |map h4=>
     rw[h1]at h4;cases h4;have hf:=zh2 (k:=kv) hc hh (es:=es) 0 h3.has;have up:∀{v:SV} {y:CV},Rep R noE v y->Rep R e v y:=fun h=>h.mono (RO.le.refl R) fun _ _ hh=>(by cases hh)
     obtain⟨z,hz,hcase⟩:=zmL h3 hh h;unfold zcr;simp only[hu,zlb hc hh,h2,hz];rcases hcase with⟨g1,v,g2,g3⟩ |⟨b,v,g1,g2,g3⟩
     ·rw[hf.1 g1];have g4:=g3 clock;rw[zaz]at g4;exact⟨_,_,rfl,zge hM hT h1 h2 (h3.add hh g1 g2) (.tup (.cons (up g2) (.cons (.cv rfl) .nil))) g4⟩
     ·obtain⟨j,a,s,g5,g6,g7⟩:=hf.2 b g1;rw[g5,Nat.zero_add];have g4:=g3 s;rw[zaz]at g4;exact⟨_,_,rfl,zge hM hT h1 h2 (h3.upd hh g6 g7 g2) (.tup (.cons (up g2) (.cons (.cv rfl) .nil))) g4⟩
   ·exact h.elim
  ·exact h.elim
 ·exact h.elim
noncomputable def zfh(x s v:SV)(T:List SV)(O:List SObj)(K:DK):Prop:=znh 9 [x,v] T O fun l T O=>match l with
 |[x,v]=>match x with
  |.map o=>match zbG O o with
   |.map c f st=>match st with
    |some (k,s')=>match s with
     |.cv (.int _ n)=>(n=.ofNat s')/\(match zeM zal v with
      |true=>zcW O o (.map c (zpQ k v f) (some (k,s'))) fun O=>K (.tup []) T O
      |false=>False)
     |_=>False
    |none=>False
   |_=>False
  |_=>False
 |_=>False
theorem zjA{x s v:SV}{xv sv vv:CV}(hM:MSat G R e O m)(hT:TSat R e T t)(hx:Rep R e x xv)(hs:Rep R e s sv)(hv:Rep R e v vv)(h:zfh x s v T O K):∃m',zbm m xv sv vv=.mem zaq m'/\Gone G R e t K zaq m':=by
 unfold zfh at h;obtain⟨R1,e1,l,T1,O1,q1,q2,q3,q4,q5,h⟩:=zch 9 (RepL.cons hx (RepL.cons hv .nil)) hT hM h;split at h
 ·rename_i x1 v1;cases q3 with
  |cons hx1 hss=>cases hss with
   |cons hv1 _=>
    split at h
    ·rename_i o;split at h
     ·rename_i c f st ho;split at h
      ·rename_i k s';split at h
       ·rename_i q n;obtain⟨rfl,h⟩:=h;split at h
        ·rename_i him;rw[zaz]at h;cases hs;obtain⟨tt,es,clock,h1,h2,h3⟩:=q5.mapo ho;cases hx1 with
         |map h4=>
          rw[h1]at h4;cases h4;have hvi:=hv1.imm zal him;obtain⟨hh,b,hb⟩:=h3.last k s' rfl;obtain⟨j,g1,g2⟩:=zqQ 0 hb h3.stp;unfold zbm;simp only[h2,g1,Nat.zero_add];exact⟨_,rfl,zf8 q1 q2 (zge q5 q4 h1 h2 (h3.upd hh g2 ((zbK hh hh).2 rfl) hvi) (.tup .nil) h)⟩
        ·exact h.elim
       ·exact h.elim
      ·exact h.elim
     ·exact h.elim
    ·exact h.elim
 ·exact h.elim
end
end Go.Cx
