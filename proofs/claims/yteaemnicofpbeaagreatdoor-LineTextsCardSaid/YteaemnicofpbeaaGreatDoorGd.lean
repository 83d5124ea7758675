import Derived.Test.YteaemnicofpbeaaGreatDoorGc
set_option linter.unusedSimpArgs false
set_option linter.unusedVariables false
namespace Go.Cx
open Go
def Evt(P:Program)(X:Ext)(p:(Task->Res)->Prop):Prop:=∃n,∀j,n<=j->p (zkP P X j)
section
variable{P:Program}{X:Ext}{p q:(Task->Res)->Prop}
theorem Evt.and(h:Evt P X p)(k:Evt P X q):Evt P X fun ih=>p ih/\q ih:=by
 obtain⟨a,ha⟩:=h;obtain⟨b,hb⟩:=k;exact⟨max a b,fun j hj=>⟨ha j (by omega),hb j (by omega)⟩⟩
theorem Evt.mono(h:Evt P X p)(k:∀ih,p ih->q ih):Evt P X q:=by
 obtain⟨a,ha⟩:=h;exact⟨a,fun j hj=>k _ (ha j hj)⟩
theorem Evt.all(h:∀ih,p ih):Evt P X p:=⟨0,fun j _=>h _⟩
end
def Ev(P:Program)(X:Ext)(k:Task)(R:Res):Prop:=Evt P X fun ih=>ih k=R
theorem Ev.step{P:Program}{X:Ext}{k:Task}{R:Res}(h:Evt P X fun ih=>zny P X ih k=R):Ev P X k R:=by
 obtain⟨a,ha⟩:=h;refine⟨a+1,fun j hj=>?_⟩;obtain⟨i,rfl⟩:∃i,j=i+1:=⟨j - 1,by omega⟩
 exact ha i (by omega)
def zcl:CO->Bool
 |.loop _ _ _ _ _ _ _=>true
 |.dfr _=>true
 |_=>false
def Wf(m:Mem):Prop:=∀t,m.nxt<=t->m.get t=none
structure Fr(S:List Nat)(m m':Mem):Prop where
 nxt:m.nxt<=m'.nxt
 get:∀t,t<m.nxt->t∉S->m'.get t=m.get t
 wf:Wf m->Wf m'
structure New(m:Mem)(a:Nat)(o:CO)(m':Mem):Prop where
 tag:a=m.nxt
 nxt:m'.nxt=m.nxt+1
 get:∀t,m'.get t=if t=a then some o else m.get t
structure Put(m:Mem)(a:Nat)(o:CO)(m':Mem):Prop where
 nxt:m'.nxt=m.nxt
 get:∀t,m'.get t=if t=a then some o else m.get t
 old:∀o',m.get a=some o'->zcl o'=false
structure Kill(m:Mem)(a:Nat)(m':Mem):Prop where
 nxt:m'.nxt=m.nxt
 get:∀t,m'.get t=if t=a then none else m.get t
 old:∀o',m.get a=some o'->zcl o'=false
theorem New.mk'(m:Mem)(o:CO):New m m.nxt o (m.new o):=⟨rfl,rfl,fun t=>Mem.get_new m o t⟩
theorem New.at(m:Mem)(o:CO):New m m.nxt o (m.newAt m.nxt o):=by rw[<- Mem.new_eq];exact .mk' m o
theorem Put.mk'(m:Mem)(a:Nat)(o:CO)(h:∀o',m.get a=some o'->zcl o'=false):Put m a o (m.put a o):=⟨rfl,fun t=>Mem.get_put m a o t,h⟩
theorem Put.at{m:Mem}{a:Nat}{o:CO}(ha:a<m.nxt)(h:∀o',m.get a=some o'->zcl o'=false):Put m a o (m.newAt a o):=by
 refine⟨?_,fun t=>Mem.get_newAt m a o t,h⟩;show Bool.rec (motive:=fun _=>Nat) (Nat.succ a) m.nxt (Nat.blt a m.nxt)=m.nxt;rw[show Nat.blt a m.nxt=true from yb1 ha]
theorem Kill.mk'(m:Mem)(a:Nat)(h:∀o',m.get a=some o'->zcl o'=false):Kill m a (m.kill a):=⟨rfl,fun t=>Mem.get_kill m a t,h⟩
section
variable{m m' m'':Mem}{a t:Nat}{o:CO}{r:Option CO}{S:List Nat}
theorem Wf.lt(h:Wf m){o:CO}(hg:m.get t=some o):t<m.nxt:=by
 rcases Nat.lt_or_ge t m.nxt with h1 |h1
 ·exact h1
 ·rw[h t h1]at hg;cases hg
theorem New.self(h:New m a o m'):m'.get a=some o:=by rw[h.get,if_pos rfl]
theorem New.ne(h:New m a o m')(ht:t≠a)(hg:m.get t=r):m'.get t=r:=by rw[h.get,if_neg ht,hg]
theorem Put.self(h:Put m a o m'):m'.get a=some o:=by rw[h.get,if_pos rfl]
theorem Put.ne(h:Put m a o m')(ht:t≠a)(hg:m.get t=r):m'.get t=r:=by rw[h.get,if_neg ht,hg]
theorem Kill.ne(h:Kill m a m')(ht:t≠a)(hg:m.get t=r):m'.get t=r:=by rw[h.get,if_neg ht,hg]
theorem Fr.ne(h:Fr S m m')(ht:t<m.nxt)(hS:t∉S)(hg:m.get t=r):m'.get t=r:=by rw[h.get t ht hS,hg]
theorem New.wf(h:New m a o m')(hw:Wf m):Wf m':=fun t ht=>by
 have:=h.nxt;have:=h.tag;rw[h.get,if_neg (by omega)];exact hw t (by omega)
theorem Put.wf(h:Put m a o m')(ha:a<m.nxt)(hw:Wf m):Wf m':=fun t ht=>by
 have:=h.nxt;rw[h.get,if_neg (by omega)];exact hw t (by omega)
theorem Kill.wf(h:Kill m a m')(hw:Wf m):Wf m':=fun t ht=>by
 have:=h.nxt;rw[h.get];split
 ·rfl
 ·exact hw t (by omega)
theorem Fr.refl(S:List Nat)(m:Mem):Fr S m m:=⟨Nat.le_refl _,fun _ _ _=>rfl,id⟩
theorem Fr.trans(h:Fr S m m')(k:Fr S m' m''):Fr S m m'':=
 ⟨Nat.le_trans h.nxt k.nxt,fun t ht hS=>by rw[k.get t (Nat.lt_of_lt_of_le ht h.nxt) hS,h.get t ht hS],fun w=>k.wf (h.wf w)⟩
theorem Fr.new(k:New m' a o m'')(h:Fr S m m'):Fr S m m'':=
 ⟨by have:=k.nxt;have:=h.nxt;omega,fun t ht hS=>by have:=k.tag;have:=h.nxt;rw[k.get,if_neg (by omega),h.get t ht hS],fun w=>k.wf (h.wf w)⟩
theorem Fr.put(k:Put m' a o m'')(hl:a<m'.nxt)(ha:m.nxt<=a\/a∈S)(h:Fr S m m'):Fr S m m'':=
 ⟨by have:=k.nxt;have:=h.nxt;omega,fun t ht hS=>by
  rw[k.get,if_neg (by rintro rfl;rcases ha with ha |ha;omega;exact hS ha),h.get t ht hS],fun w=>k.wf hl (h.wf w)⟩
theorem Fr.kill(k:Kill m' a m'')(ha:m.nxt<=a\/a∈S)(h:Fr S m m'):Fr S m m'':=
 ⟨by have:=k.nxt;have:=h.nxt;omega,fun t ht hS=>by
  rw[k.get,if_neg (by rintro rfl;rcases ha with ha |ha;omega;exact hS ha),h.get t ht hS],fun w=>k.wf (h.wf w)⟩
theorem Fr.call{S':List Nat}(k:Fr S' m' m'')(ha:∀a∈S',m.nxt<=a\/a∈S)(h:Fr S m m'):Fr S m m'':=
 ⟨Nat.le_trans h.nxt k.nxt,fun t ht hS=>by
  have:=h.nxt;rw[k.get t (by omega) (fun hS'=>by rcases ha t hS' with ha |ha;omega;exact hS ha),h.get t ht hS],fun w=>k.wf (h.wf w)⟩
end
abbrev RO:=Nat->Option CO
structure Mk(R:RO)(m:Mem):Prop where
 wf:Wf m
 ro:∀t o,R t=some o->m.get t=some o
def RO.le(R R':RO):Prop:=∀t o,R t=some o->R' t=some o
theorem RO.le.refl(R:RO):R.le R:=fun _ _ h=>h
theorem RO.le.trans{A B C:RO}(h:A.le B)(k:B.le C):A.le C:=fun t o x=>k t o (h t o x)
section
variable{R R':RO}{m m' m'':Mem}{a t:Nat}{o:CO}{S:List Nat}
theorem Mk.lt(h:Mk R m){o:CO}(hg:R t=some o):t<m.nxt:=h.wf.lt (h.ro t o hg)
theorem Mk.none(h:Mk R m)(ht:m.nxt<=t):R t=none:=by
 cases hr:R t with
 |none=>rfl
 |some o=>have:=h.lt hr;omega
theorem Mk.new(k:New m a o m')(h:Mk R m):Mk R m':=⟨k.wf h.wf,fun t x hx=>by
 have:=h.lt hx;have:=k.tag;rw[k.get,if_neg (by omega)];exact h.ro t x hx⟩
theorem Mk.put(k:Put m a o m')(hl:a<m.nxt)(ha:R a=.none)(h:Mk R m):Mk R m':=⟨k.wf hl h.wf,fun t x hx=>by
 rw[k.get,if_neg (by rintro rfl;rw[ha]at hx;cases hx)];exact h.ro t x hx⟩
theorem Mk.kill(k:Kill m a m')(ha:R a=.none)(h:Mk R m):Mk R m':=⟨k.wf h.wf,fun t x hx=>by
 rw[k.get,if_neg (by rintro rfl;rw[ha]at hx;cases hx)];exact h.ro t x hx⟩
theorem Mk.fr(k:Fr S m m')(ha:∀a∈S,R a=.none)(h:Mk R m):Mk R m':=⟨k.wf h.wf,fun t x hx=>by
 rw[k.get t (h.lt hx) (fun hs=>by rw[ha t hs]at hx;cases hx)];exact h.ro t x hx⟩
theorem Mk.sub(hR:R.le R')(h:Mk R' m):Mk R m:=⟨h.wf,fun t x hx=>h.ro t x (hR t x hx)⟩
def RO.add(R:RO)(a:Nat)(o:CO):RO:=fun t=>if t=a then some o else R t
theorem RO.le_add(h:R a=.none):R.le (R.add a o):=fun t x hx=>by
 unfold RO.add;split
 ·rename_i e;rw[e,h]at hx;cases hx
 ·exact hx
theorem RO.add_self:(R.add a o) a=some o:=if_pos rfl
theorem RO.add_ne(h:t≠a):(R.add a o) t=R t:=if_neg h
theorem Mk.add(h:Mk R m)(hg:m.get a=some o):Mk (R.add a o) m:=⟨h.wf,fun t x hx=>by
 unfold RO.add at hx;split at hx
 ·rename_i e;cases hx;rw[e];exact hg
 ·exact h.ro t x hx⟩
end
structure RFr(R:RO)(m m':Mem):Prop where
 nxt:m.nxt<=m'.nxt
 stay:Mk R m->Mk R m'
 recs:∀t o,m.get t=some o->zcl o=true->m'.get t=some o
structure YFr(R:RO)(l:Nat)(m m':Mem):Prop where
 nxt:m.nxt<=m'.nxt
 stay:Mk R m->Mk R m'
 recs:∀t o,m.get t=some o->zcl o=true->t≠l->m'.get t=some o
structure Still(k:Nat)(m m':Mem):Prop where
 nxt:m.nxt<=m'.nxt
 wf:Wf m->Wf m'
 data:∀t o,m.get t=some o->zcl o=false->m'.get t=some o
 old:∀t,t<k->m'.get t=m.get t
section
variable{R:RO}{m m' m'':Mem}{a l k k':Nat}{o:CO}{S:List Nat}
theorem RFr.refl(R:RO)(m:Mem):RFr R m m:=⟨Nat.le_refl _,id,fun _ _ h _=>h⟩
theorem RFr.trans(h:RFr R m m')(g:RFr R m' m''):RFr R m m'':=⟨Nat.le_trans h.nxt g.nxt,g.stay ∘ h.stay,fun t o x y=>g.recs t o (h.recs t o x y) y⟩
theorem YFr.refl(R:RO)(l:Nat)(m:Mem):YFr R l m m:=⟨Nat.le_refl _,id,fun _ _ h _ _=>h⟩
theorem YFr.trans(h:YFr R l m m')(g:YFr R l m' m''):YFr R l m m'':=⟨Nat.le_trans h.nxt g.nxt,g.stay ∘ h.stay,fun t o x y z=>g.recs t o (h.recs t o x y z) y z⟩
theorem Still.refl(k:Nat)(m:Mem):Still k m m:=⟨Nat.le_refl _,id,fun _ _ h _=>h,fun _ _=>rfl⟩
theorem Still.trans(h:Still k m m')(g:Still k m' m''):Still k m m'':=⟨Nat.le_trans h.nxt g.nxt,g.wf ∘ h.wf,fun t o x y=>g.data t o (h.data t o x y) y,fun t ht=>(g.old t ht).trans (h.old t ht)⟩
theorem Still.le(h:Still k m m')(hk:k'<=k):Still k' m m':=⟨h.nxt,h.wf,h.data,fun t ht=>h.old t (by omega)⟩
theorem Still.ne{r:Option CO}(h:Still k m m'){t:Nat}(ht:t<k)(hg:m.get t=r):m'.get t=r:=by rw[h.old t ht,hg]
theorem Mk.still(h:Still k m m')(hR:∀t o,R t=some o->zcl o=false)(g:Mk R m):Mk R m':=⟨h.wf g.wf,fun t o x=>h.data t o (g.ro t o x) (hR t o x)⟩
theorem New.recs(h:New m a o m')(hw:Wf m){t:Nat}{x:CO}(hg:m.get t=some x):m'.get t=some x:=h.ne (by have:=hw.lt hg;have:=h.tag;omega) hg
theorem Put.recs(h:Put m a o m'){t:Nat}{x:CO}(hg:m.get t=some x)(hx:zcl x=true):m'.get t=some x:=h.ne (by rintro rfl;rw[h.old x hg]at hx;cases hx) hg
theorem Kill.recs(h:Kill m a m'){t:Nat}{x:CO}(hg:m.get t=some x)(hx:zcl x=true):m'.get t=some x:=h.ne (by rintro rfl;rw[h.old x hg]at hx;cases hx) hg
end
abbrev ST:=List (Option CV)
def zv2:ST->Nat->Option CV
 |[],_=>none
 |x::_,0=>x
 |_::xs,n+1=>zv2 xs n
theorem znA:∀(S:ST) (n:Nat),zv2 S n=(S[n]?).join
 |[],_=>rfl
 |x::_,0=>rfl
 |_::xs,n+1=>by simp only[zv2,yc6];exact znA xs n
structure SSat(S:ST)(t:Tmps):Prop where
 sz:t.sz=S.length
 get:∀i v,zv2 S i=some v->t.get i=some v
theorem Tmps.get_set_self(t:Tmps){i:Nat}(v:CV)(h:i<t.sz):(t.set i v).get i=some v:=by
 obtain⟨sz,tr⟩:=t;show Bool.rec (motive:=fun _=>Option CV) none ((Tr.set (Nat.succ i) tr i (some v)).get i) (Nat.ble (Nat.succ i) sz)=some v;rw[show Nat.ble (Nat.succ i) sz=true from yb1 h,Tr.get_set _ _ _ _ _ (by omega),if_pos rfl]
theorem Tmps.get_set_ne(t:Tmps){i j:Nat}(v:CV)(h:j≠i):(t.set i v).get j=t.get j:=by
 obtain⟨sz,tr⟩:=t;show Bool.rec (motive:=fun _=>Option CV) none ((Tr.set (Nat.succ i) tr i (some v)).get j) (Nat.ble (Nat.succ j) sz)=Bool.rec (motive:=fun _=>Option CV) none (tr.get j) (Nat.ble (Nat.succ j) sz);rw[Tr.get_set _ _ _ _ _ (by omega),if_neg h]
theorem SSat.set{S:ST}{t:Tmps}(h:SSat S t){d:Nat}(v:CV)(hd:d<S.length):SSat (S.set d (some v)) (t.set d v):=by
 refine⟨by rw[Tmps.set_sz,h.sz,List.length_set],fun i u hi=>?_⟩;rw[znA,yc8]at hi;by_cases hq:d=i
 ·subst hq;rw[if_pos rfl,if_pos hd]at hi;simp only[Option.join_some,ya0]at hi;subst hi;exact Tmps.get_set_self t v (by rw[h.sz];exact hd)
 ·rw[if_neg hq,<- znA]at hi;rw[Tmps.get_set_ne t v (fun e=>hq e.symm)];exact h.get i u hi
def SLe(S S':ST):Prop:=S.length=S'.length/\∀i v,zv2 S i=some v->zv2 S' i=some v
theorem SSat.le{S S':ST}{t:Tmps}(h:SSat S' t)(k:SLe S S'):SSat S t:=⟨h.sz.trans k.1.symm,fun i v hi=>h.get i v (k.2 i v hi)⟩
theorem SLe.refl(S:ST):SLe S S:=⟨rfl,fun _ _ h=>h⟩
theorem SLe.trans{A B C:ST}(h:SLe A B)(k:SLe B C):SLe A C:=⟨h.1.trans k.1,fun i v x=>k.2 i v (h.2 i v x)⟩
end Go.Cx
namespace Go.Cx
open Go
structure ECfg where
 wrap:Bool:=false
 ann:List (Nat×List Nat):=[]
 cut:List (Nat×List Nat):=[]
@[irreducible] def ClosedB (b:Bool):Prop:=b=true
theorem zaI{b:Bool}(h:b=true):ClosedB b:=by unfold ClosedB;exact h
theorem ClosedB.out{b:Bool}(h:ClosedB b):b=true:=by unfold ClosedB at h;exact h
def inK:IntKind->Int->Prop
 |.i8,n => -128<=n/\n<=127
 |.i16,n => -32768<=n/\n<=32767
 |.i32,n => -2147483648<=n/\n<=2147483647
 |.i64,n => -9223372036854775808<=n/\n<=9223372036854775807
 |.u8,n=>0<=n/\n<=255
 |.u16,n=>0<=n/\n<=65535
 |.u32,n=>0<=n/\n<=4294967295
 |.u64,n=>0<=n/\n<=18446744073709551615
theorem zeC{k:IntKind}{n:Int}(h:inK k n):k.wrap n=n:=by
 cases k<;>simp only[inK]at h<;>simp[IntKind.wrap,IntKind.bits,IntKind.signed]<;>omega
def zhz(b:Bool)(A B:Prop):Prop:=match b with
 |true=>A
 |false=>B
theorem zae{b:Bool}{A B:Prop}(h1:b=true->A)(h2:b=false->B):zhz b A B:=by
 cases b
 ·exact h2 rfl
 ·exact h1 rfl
section
variable{S:ST}{t:Tmps}
end
def zyc(Q Qp:CV->Mem->Prop):Res->Prop
 |.ret v m=>Q v m
 |.pan v m=>Qp v m
 |_=>False
structure ECall(P:Program)(X:Ext)(f:FuncId)(args:List CV)(m:Mem)(Q Qp:CV->Mem->Prop):Prop where
 ex:∃R,Ev P X (.call f args m) R/\zyc Q Qp R
structure EYield(P:Program)(X:Ext)(l:Nat)(args:List CV)(m:Mem)(Q:CV->Mem->Prop):Prop where
 ex:∃v m',Evt P X (fun ih=>zbN ih l args m=.ret v m')/\Q v m'
structure EDCall(P:Program)(X:Ext)(f:FuncId)(args:List CV)(m:Mem)(Q:Mem->Prop):Prop where
 ex:∃v m',Ev P X (.dcall f args m) (.ret v m')/\Q m'
theorem ECall.mono{P:Program}{X:Ext}{f:FuncId}{args:List CV}{m:Mem}{Q Qp Q' Qp':CV->Mem->Prop}(h:ECall P X f args m Q Qp)(k:∀v m',Q v m'->Q' v m')(kp:∀v m',Qp v m'->Qp' v m'):ECall P X f args m Q' Qp':=by
 obtain⟨R,h1,h2⟩:=h.ex;refine⟨R,h1,?_⟩;cases R with
 |ret v m'=>exact k v m' h2
 |pan v m'=>exact kp v m' h2
 |no w=>exact h2
 |ex e t ds m'=>exact h2
theorem EYield.mono{P:Program}{X:Ext}{l:Nat}{args:List CV}{m:Mem}{Q Q':CV->Mem->Prop}(h:EYield P X l args m Q)(k:∀v m',Q v m'->Q' v m'):EYield P X l args m Q':=by
 obtain⟨v,m',h1,h2⟩:=h.ex;exact⟨v,m',h1,k v m' h2⟩
theorem EDCall.mono{P:Program}{X:Ext}{f:FuncId}{args:List CV}{m:Mem}{Q Q':Mem->Prop}(h:EDCall P X f args m Q)(k:∀m',Q m'->Q' m'):EDCall P X f args m Q':=by
 obtain⟨v,m',h1,h2⟩:=h.ex;exact⟨v,m',h1,k m' h2⟩
structure Ld(P:Program)(m:Mem)(ty:TypeId)(p v:CV):Prop where
 eq:zdC P m ty p=.val v
structure IxA(P:Program)(m:Mem)(ty:TypeId)(x i p:CV):Prop where
 eq:zai P m ty x i=.val p
structure Ix(P:Program)(ty:TypeId)(x i v:CV):Prop where
 eq:zdK P ty x i=.val v
structure Sl(P:Program)(m:Mem)(ty:TypeId)(x:CV)(lo hi:Option CV)(v:CV):Prop where
 eq:zba P m ty x lo hi none=.val v
structure Ln(P:Program)(m:Mem)(ty:TypeId)(x:CV)(n:Nat):Prop where
 eq:ztd P m ty x=.val (.int .i64 n)
structure Lk(P:Program)(m:Mem)(ty:TypeId)(x k:CV)(ok:Bool)(v:CV):Prop where
 eq:zbC P m ty x k ok=.val v
structure EqV(P:Program)(c neg:Bool)(ty:TypeId)(x y:CV)(b:Bool):Prop where
 eq:cEq P c neg ty x y=.val (.bool b)
structure BStr(m:Mem)(x:CV)(s:List Nat):Prop where
 eq:zj3 m x=.val (.str s)
structure StW(P:Program)(m:Mem)(ty:TypeId)(p v:CV)(Q:Mem->Prop):Prop where
 ex:∃m',zaL P m ty p v=.mem zam m'/\Q m'
structure ApW(P:Program)(m:Mem)(ty:TypeId)(s x:CV)(Q:CV->Mem->Prop):Prop where
 ex:∃v m',(zdm P m.nxt m ty ty s x=.mem v m'\/(zdm P m.nxt m ty ty s x=.val v/\m'=m))/\Q v m'
structure CpW(P:Program)(m:Mem)(t1 t2:TypeId)(d s:CV)(Q:CV->Mem->Prop):Prop where
 ex:∃v m',(zro P m t1 t2 d s=.mem v m'\/(zro P m t1 t2 d s=.val v/\m'=m))/\Q v m'
structure MuW(P:Program)(m:Mem)(ty:TypeId)(x k v:CV)(Q:Mem->Prop):Prop where
 ex:∃m',zaM P m ty x k v=.mem zam m'/\Q m'
structure MsW(P:Program)(m:Mem)(ty:TypeId)(l c:CV)(Q:CV->Mem->Prop):Prop where
 ex:∃v m',zan P m.nxt m ty l c=.mem v m'/\Q v m'
structure UsW(P:Program)(m:Mem)(ty:TypeId)(p n:CV)(Q:CV->Mem->Prop):Prop where
 ex:∃v m',zcp P m ty p n=.mem v m'/\Q v m'
structure SbW(P:Program)(m:Mem)(el:TypeId)(s:List Nat)(Q:CV->Mem->Prop):Prop where
 ex:P.underlying el=some (.int .u8)/\s.length<=1000000/\∀a m',New m a (.opn el 1 (s.map fun b=>.int .u8 (.ofNat (b%256)))) m'->Q (.opn a 0 s.length) m'
abbrev KV:=CV->Mem->Prop
noncomputable def gbN(s:List Nat)(i:Int):Int:=((s.getD i.toNat 0%256:Nat):Int)
def zwO(s:List Nat)(a b:Int):List Nat:=(s.drop a.toNat).take (b.toNat - a.toNat)
def fa:CV->Nat->CV
 |.ptr t o,k=>.ptr t (o+k)
 |x,_=>x
noncomputable def zvu(c:ECfg)(op:BinOp)(k:IntKind)(a b:Int)(K:CV->Prop):Prop:=
 match op with
 |.add=>match c.wrap with
  |true=>K (.int k (k.wrap (a+b)))
  |false=>inK k (a+b)/\K (.int k (a+b))
 |.sub=>match c.wrap with
  |true=>K (.int k (k.wrap (a - b)))
  |false=>inK k (a - b)/\K (.int k (a - b))
 |.mul=>match c.wrap with
  |true=>K (.int k (k.wrap (a*b)))
  |false=>inK k (a*b)/\K (.int k (a*b))
 |.quo=>(b≠0/\inK k (a.tdiv b))/\K (.int k (a.tdiv b))
 |.rem=>b≠0/\K (.int k (a.tmod b))
 |.and=>K (.int k (b2 .and k a b))
 |.or=>K (.int k (b2 .or k a b))
 |.xor=>K (.int k (b2 .xor k a b))
 |.andNot=>K (.int k (b2 .andNot k a b))
 |.eql=>K (.bool (a==b))
 |.neq=>K (.bool (a != b))
 |.lss=>K (.bool (decide (a<b)))
 |.leq=>K (.bool (decide (a<=b)))
 |.gtr=>K (.bool (decide (a > b)))
 |.geq=>K (.bool (decide (a>=b)))
 |_=>False
noncomputable def zwW(c:ECfg)(op:BinOp)(k k':IntKind)(a b:Int)(K:CV->Prop):Prop:=
 match op with
 |.shl=>0<=b/\K (.int k (k.wrap (a*2 ^ (min b.toNat k.bits))))
 |.shr=>0<=b/\K (.int k (a.fdiv (2 ^ (min b.toNat k.bits))))
 |_=>match kEq k k' with
  |false=>False
  |true=>zvu c op k a b K
def Byt(s:List Nat):Prop:=∀b∈s,b<256
noncomputable def zxS(op:BinOp)(a b:List Nat)(K:CV->Prop):Prop:=
 match op with
 |.add=>a.length+b.length<=1000000/\K (.str (a++b))
 |.eql=>(Byt a/\Byt b)/\K (.bool (a==b))
 |.neq=>(Byt a/\Byt b)/\K (.bool (!(a==b)))
 |.lss=>K (.bool (ltL a b))
 |.leq=>K (.bool (ltL a b||zjc a b))
 |.gtr=>K (.bool (!(ltL a b||zjc a b)))
 |.geq=>K (.bool (!ltL a b))
 |_=>False
noncomputable def zxN(P:Program)(c:ECfg)(lit:Bool)(op:BinOp)(t:TypeId)(x y:CV)(K:CV->Prop):Prop:=
 match P.underlying t with
 |some (.int _)=>match x,y with
  |.int k a,.int k' b=>zwW c op k k' a b K
  |_,_=>False
 |some .string=>match x,y with
  |.str a,.str b=>zxS op a b K
  |_,_=>False
 |some .bool=>match x,y with
  |.bool a,.bool b=>match op with
   |.eql=>K (.bool (a==b))
   |.neq=>K (.bool (!(a==b)))
   |_=>False
  |_,_=>False
 |_=>match op with
  |.eql=>(∀k n,x≠.int k n)/\(∀s,x≠.str s)/\(∀a b c d,x≠.res a b c d)/\∃b,EqV P lit false t x y b/\K (.bool b)
  |.neq=>(∀k n,x≠.int k n)/\(∀s,x≠.str s)/\(∀a b c d,x≠.res a b c d)/\∃b,EqV P lit true t x y b/\K (.bool b)
  |_=>False
noncomputable def eUn(c:ECfg)(op:UnOp)(x:CV)(K:CV->Prop):Prop:=
 match op,x with
 |.not,.bool b=>K (.bool (!b))
 |.neg,.int k n=>match c.wrap with
  |true=>K (.int k (k.wrap (0 - n)))
  |false=>inK k (-n)/\K (.int k (-n))
 |_,_=>False
noncomputable def zm1(mx:Bool)(l:List CV)(K:CV->Prop):Prop:=
 match l with
 |[.int k a,.int k' b]=>match kEq k k' with
  |true=>match mx with
   |true=>K (.int k (max a b))
   |false=>K (.int k (min a b))
  |false=>False
 |_=>False
inductive OutR where
 |go (v:CV) (m:Mem)
 |pan (v:CV) (m:Mem)
noncomputable def OutR.is(o:OutR)(k:KK)(dst:Option Tmp)(t:Tmps)(ds:List CDef):Res:=match o with
 |.go v m=>zlS k dst v t ds m
 |.pan v m=>.ex (.panic v) t ds m
def OutR.Q(K Kp:KV):OutR->Prop
 |.go v m=>K v m
 |.pan v m=>Kp v m
end Go.Cx
namespace Go.Cx
open Go
def zwa(P:Program)(X:Ext)(op:Op)(m:Mem)(t:Tmps)(K Kp:KV):Prop:=
 ∃o:OutR,Evt P X (fun ih=>∀r k dst ds,after ih r k dst t ds m (cop P op m t)=o.is k dst t ds)/\o.Q K Kp
section
variable{P:Program}{X:Ext}{op:Op}{m:Mem}{t:Tmps}{S:ST}{K Kp:KV}{c:ECfg}
theorem zeJ{f:Mem->CV->COut}{x:Operand}{v:CV}(h:evO t x=some v):un1 f x m t=f m v:=by
 unfold un1;rw[h]
theorem zjH{f:Mem->CV->CV->COut}{x y:Operand}{v u:CV}(h:evO t x=some v)(h':evO t y=some u):zbL f x y m t=f m v u:=by
 unfold zbL;rw[h,h']
theorem zsS{f:Mem->CV->CV->CV->COut}{x y z:Operand}{v u w:CV}(h:evO t x=some v)(h':evO t y=some u)(h'':evO t z=some w):zlm f x y z m t=f m v u w:=by
 unfold zlm;rw[h];exact zjH h' h''
theorem za2{f:Mem->CV->COut}{x:Operand}{v:CV}{out:COut}(hc:cop P op m t=un1 f x m t)(h:evO t x=some v)(hf:f m v=out):cop P op m t=out:=by rw[hc,zeJ h,hf]
theorem zce{f:Mem->CV->CV->COut}{x y:Operand}{v u:CV}{out:COut}(hc:cop P op m t=zbL f x y m t)(h:evO t x=some v)(h':evO t y=some u)(hf:f m v u=out):cop P op m t=out:=by rw[hc,zjH h h',hf]
theorem znD{f:Mem->CV->CV->CV->COut}{x y z:Operand}{v u w:CV}{out:COut}(hc:cop P op m t=zlm f x y z m t)(h:evO t x=some v)(h':evO t y=some u)(h'':evO t z=some w)(hf:f m v u w=out):cop P op m t=out:=by rw[hc,zsS h h' h'',hf]
theorem zwL{k k':IntKind}(h:kEq k k'=true):k=k':=za8 h
theorem zaP(f:IntKind->Int->Int->COut)(k:IntKind)(a b:Int):same f k k a b=f k a b:=by
 unfold same;cases k<;>rfl
theorem zto{k:IntKind}{a b:Int}{o:BinOp}{K:CV->Prop}(h:zvu c o k a b K):∃v,zp1 o k k a b=.val v/\K v:=by
 unfold zvu at h;cases o<;>simp only at h
 case add=>
  refine⟨.int k (k.wrap (a+b)),?_,?_⟩
  ·show same zpf k k a b=_;rw[zaP];simp only[zpf,zbm]
  ·split at h
   ·exact h
   ·rw[zeC h.1];exact h.2
 case sub=>
  refine⟨.int k (k.wrap (a - b)),?_,?_⟩
  ·show same zo0 k k a b=_;rw[zaP];simp only[zo0,zbm]
  ·split at h
   ·exact h
   ·rw[zeC h.1];exact h.2
 case mul=>
  refine⟨.int k (k.wrap (a*b)),?_,?_⟩
  ·show same zoh k k a b=_;rw[zaP];simp only[zoh,zbm]
  ·split at h
   ·exact h
   ·rw[zeC h.1];exact h.2
 case quo=>
  refine⟨.int k (a.tdiv b),?_,h.2⟩;show same zlX k k a b=_;rw[zaP];unfold zlX;rw[zb9,show(b==0)=false from by simpa using h.1.1,zbm,zeC h.1.2]
 case rem=>
  refine⟨.int k (a.tmod b),?_,h.2⟩;show same zlE k k a b=_;rw[zaP];unfold zlE;rw[zb9,show(b==0)=false from by simpa using h.1]
 case and=>exact⟨_,zaP zrr k a b,h⟩
 case or=>exact⟨_,zaP zuX k a b,h⟩
 case xor=>exact⟨_,zaP zqY k a b,h⟩
 case andNot=>exact⟨_,zaP zik k a b,h⟩
 case eql=>
  refine⟨.bool (a==b),?_,h⟩;show same zoZ k k a b=_;rw[zaP];simp only[zoZ,zb9]
 case neq=>
  refine⟨.bool (a != b),?_,h⟩;show same zoQ k k a b=_;rw[zaP];simp only[zoQ,zb9];rfl
 case lss=>
  refine⟨_,?_,h⟩;show same zoP k k a b=_;rw[zaP];simp only[zoP,zch]
 case leq=>
  refine⟨_,?_,h⟩;show same zoO k k a b=_;rw[zaP];simp only[zoO,zch,COut.val.injEq,CV.bool.injEq];by_cases hq:a<=b
  ·simp[hq,Int.not_lt.2 hq]
  ·simp[hq,Int.not_le.1 hq]
 case gtr=>
  refine⟨_,?_,h⟩;show same zoI k k a b=_;rw[zaP];simp only[zoI,zch]
 case geq=>
  refine⟨_,?_,h⟩;show same zn1 k k a b=_;rw[zaP];simp only[zn1,zch,COut.val.injEq,CV.bool.injEq];by_cases hq:b<=a
  ·simp[hq,Int.not_lt.2 hq]
  ·simp[hq,Int.not_le.1 hq]
theorem zqq{k k':IntKind}{a b:Int}{o:BinOp}{K:CV->Prop}(h:zwW c o k k' a b K):∃v,zp1 o k k' a b=.val v/\K v:=by
 unfold zwW at h;split at h
 ·refine⟨_,?_,h.2⟩;show zml k a b=_;unfold zml;rw[zch,decide_eq_false (by omega)]
 ·refine⟨_,?_,h.2⟩;show zkX k a b=_;unfold zkX;rw[zch,decide_eq_false (by omega)]
 ·split at h
  ·exact h.elim
  ·rename_i hk;obtain rfl:=zwL hk;exact zto h
theorem zjx:∀{a b:List Nat},Byt a->Byt b->zjc a b=(a==b)
 |[],[],_,_=>rfl
 |[],_::_,_,_=>rfl
 |_::_,[],_,_=>rfl
 |x::a,y::b,ha,hb=>by
  have h1:=ha x (ya5 ..);have h2:=hb y (ya5 ..);have ih:=zjx (a:=a) (b:=b) (fun z hz=>ha z (ya4 _ hz)) (fun z hz=>hb z (ya4 _ hz));unfold zjc;rw[Nat.mod_eq_of_lt h1,Nat.mod_eq_of_lt h2];by_cases hq:x=y
  ·subst hq;simp[ih]
  ·rw[zkQ hq];simp[hq]
theorem zvn{a b:List Nat}{o:BinOp}{K:CV->Prop}(h:zxS o a b K):∃v,zrZ o a b=.val v/\K v:=by
 unfold zxS at h;cases o
 case add=>
  refine⟨_,?_,h.2⟩;show zia a b=_;unfold zia;rw[yb1 h.1]
 case eql=>exact⟨_,by show zn0 a b=_;unfold zn0;rw[zjx h.1.1 h.1.2],h.2⟩
 case neq=>exact⟨_,by show zoN a b=_;unfold zoN;rw[zjx h.1.1 h.1.2],h.2⟩
 case lss=>exact⟨_,rfl,h⟩
 case leq=>exact⟨_,rfl,h⟩
 case gtr=>exact⟨_,rfl,h⟩
 case geq=>exact⟨_,rfl,h⟩
 all_goals exact h.elim
theorem zmh{lit:Bool}{o:BinOp}{ty:TypeId}{x y:CV}(h1:∀k n,x≠.int k n)(h2:∀s,x≠.str s)(h3:∀a b c d,x≠.res a b c d):zpH P lit o ty x y=zf6 P lit o ty x y:=by
 cases x<;>first |rfl |(exact absurd rfl (h1 _ _)) |(exact absurd rfl (h2 _)) |(exact absurd rfl (h3 _ _ _ _))
theorem zuH{lit:Bool}{o:BinOp}{ty:TypeId}{x y:CV}{K:CV->Prop}(h:zxN P c lit o ty x y K):∃v,zpH P lit o ty x y=.val v/\K v:=by
 unfold zxN at h;split at h
 ·split at h
  ·exact zqq h
  ·exact h.elim
 ·split at h
  ·exact zvn h
  ·exact h.elim
 ·rename_i hu;split at h
  ·rename_i a b;have hq:∀neg,cEq P lit neg ty (.bool a) (.bool b)=.val (.bool (match neg with |true => !(a==b) |false=>a==b)):=fun neg=>by
    unfold cEq;simp only[zhm,ceq,hu];cases neg<;>cases a<;>cases b<;>rfl
   split at h
   ·exact⟨_,hq false,h⟩
   ·exact⟨_,hq true,h⟩
   ·exact h.elim
  ·exact h.elim
 ·split at h
  ·obtain⟨h1,h2,h3,b,hb,hk⟩:=h;exact⟨_,by rw[zmh h1 h2 h3];exact hb.eq,hk⟩
  ·obtain⟨h1,h2,h3,b,hb,hk⟩:=h;exact⟨_,by rw[zmh h1 h2 h3];exact hb.eq,hk⟩
  ·exact h.elim
theorem zwd{o:UnOp}{x:CV}{K:CV->Prop}(h:eUn c o x K):∃v,cUn o x=.val v/\K v:=by
 unfold eUn at h;split at h
 ·exact⟨_,rfl,h⟩
 ·refine⟨_,rfl,?_⟩;rename_i k n;rw[zbm];split at h
  ·exact h
  ·rw[show(0:Int) - n = -n by omega,zeC h.1];exact h.2
 ·exact h.elim
theorem zpC{mx:Bool}{l:List CV}{K:CV->Prop}(h:zm1 mx l K):∃v,zdL mx l=.val v/\K v:=by
 unfold zm1 at h;split at h
 ·rename_i k a k' b;split at h
  ·rename_i hk;cases mx with
   |true=>
    refine⟨_,?_,h⟩;simp only[zdL,hk,zch];by_cases hq:a<b
    ·simp only[hq,decide_true];rw[show max a b=b by omega]
    ·simp only[hq,decide_false];rw[show max a b=a by omega]
   |false=>
    refine⟨_,?_,h⟩;simp only[zdL,hk,zch];by_cases hq:b<a
    ·simp only[hq,decide_true];rw[show min a b=b by omega]
    ·simp only[hq,decide_false];rw[show min a b=a by omega]
  ·exact h.elim
 ·exact h.elim
theorem zn5{s d:TypeId}{T:Nat}{sd:TypeDesc}{k k':IntKind}{n:Int}(hs:P.underlying s=some sd)(hd:P.underlying d=some (.int k)):za3 P T m s d (.int k' n)=.val (.int k (zkg k n)):=by
 unfold za3;rw[hs,hd]
theorem zti{s d:TypeId}{T:Nat}{l:List Nat}(hs:P.underlying s=some .string)(hd:P.underlying d=some .string):za3 P T m s d (.str l)=.val (.str l):=by
 unfold za3;rw[hs,hd]
theorem ziH{s d el:TypeId}{T:Nat}{l:List Nat}(hs:P.underlying s=some .string)(hd:P.underlying d=some (.slice el))(he:P.underlying el=some (.int .u8))(hl:l.length<=1000000):za3 P T m s d (.str l)=.mem (.opn T 0 l.length) (m.newAt T (.opn el 1 (l.map fun b=>.int .u8 (.ofNat (b%256))))):=by
 unfold za3;rw[hs,hd];simp only[he,yb1 hl]
theorem zqL{s d el:TypeId}{T:Nat}{x:CV}(hs:P.underlying s=some (.slice el))(hd:P.underlying d=some .string)(he:P.underlying el=some (.int .u8))(hx:∀s,x≠.str s):za3 P T m s d x=zj3 m x:=by
 unfold za3;rw[hs,hd];cases x<;>first |exact absurd rfl (hx _) |simp only[he]
end
end Go.Cx
namespace Go.Cx
open Go
def zsA(ops:List Oper):List Oper->List Nat
 |[]=>[]
 |o::r=>match o.guard with
  |some (j,_)=>match ops[j]? with
   |some p=>match p.dst with
    |some d=>d::zsA ops r
    |none=>zsA ops r
   |none=>zsA ops r
  |none=>zsA ops r
def ztT{R:Sort _}(b:Bool)(k:Bool->R):R:=match b with
 |true=>k true
 |false=>k false
theorem zqo{R:Sort _}(b:Bool)(k:Bool->R):ztT b k=k b:=by cases b<;>rfl
def zjY{R:Sort _}:List Bool->(List Bool->R)->R
 |[],k=>k []
 |b::r,k=>ztT b fun b=>zjY r fun r=>k (b::r)
theorem ziM{R:Sort _}:∀(l:List Bool) (k:List Bool->R),zjY l k=k l
 |[],_=>rfl
 |b::r,k=>by rw[zjY,zqo,ziM r]
def zfG:List Bool->Nat->Bool
 |[],_=>false
 |b::_,0=>b
 |_::r,n+1=>zfG r n
def orB:List Bool->List Bool->List Bool
 |[],l=>l
 |l,[]=>l
 |a::x,b::y=>(a||b)::orB x y
def zv1:Nat->List Bool
 |0=>[true]
 |n+1=>false::zv1 n
noncomputable def zqe(bs:List (List Bool)):List Edge->Option (List Bool)
 |[]=>some []
 |e::es=>match zqe bs es with
  |none=>none
  |some r=>match zpN e.ground with
   |false=>some r
   |true=>match nth bs e.on with
    |some b=>some (orB (orB (zv1 e.on) b) r)
    |none=>none
noncomputable def zly:List Oper->List (List Bool)->(List (List Bool)->Prop)->Prop
 |[],bs,k=>k bs
 |o::os,bs,k=>match zqe bs o.after.toList with
  |some b=>zjY b fun b=>zly os (bs++[b]) k
  |none=>False
structure Lay(m:Mem)(a:Nat)(o:CO)(m':Mem):Prop where
 nxt:m'.nxt=m.nxt
 get:∀t,m'.get t=if t=a then some o else m.get t
structure ED where
 S:ST
 cur:Mem
 cl:List Bool
 hist:List (Nat×List Bool×Mem)
 as:List (Nat×CO)
 ns:List (Nat×Op×List Bool×CV)
def zwH:CV->Bool
 |.res _ _ _ _=>false
 |.agg cs=>noResL cs
 |.tup cs=>noResL cs
 |.fn _ a b=>noResL a&&noResL b
 |.ifc _ v=>zwH v
 |_=>true
where noResL:List CV->Bool
 |[]=>true
 |x::xs=>zwH x&&noResL xs
structure ApM(P:Program)(m:Mem)(ty:TypeId)(s x:CV)(Q:CV->Mem->Prop):Prop where
 ex:∃v m',zdm P m.nxt m ty ty s x=.mem v m'/\Q v m'
def isN:Op->Bool
 |.load _ _=>true
 |.slice _ _ _ _ _=>true
 |.indexAddr _ _ _=>true
 |.lookup _ _ _ _=>true
 |.convert _ _ _=>true
 |.call cl=>match cl.callee with
  |.builtin .len=>true
  |.builtin .min=>true
  |.builtin .max=>true
  |.builtin .unsafeSliceData=>true
  |_=>false
 |_=>false
structure Rsv(m:Mem)(n:Nat)(m':Mem):Prop where
 nxt:m'.nxt=m.nxt+n
 get:∀t,m'.get t=m.get t
def zvm:List Oper->List Nat->List Nat
 |[],acc=>acc
 |p::r,acc=>match p.dst with
  |some d=>d::zvm r acc
  |none=>zvm r acc
def zgK:Code->List Nat->List Nat
 |.region _ ops _,acc=>zvm ops.toList acc
 |.seq a b,acc=>zgK a (zgK b acc)
 |.cond x a b,acc=>match x with
  |.tmp d=>d::zgK a (zgK b acc)
  |_=>zgK a (zgK b acc)
 |.block _ b,acc=>zgK b acc
 |.loop b,acc=>zgK b acc
 |.scope b,acc=>zgK b acc
 |_,acc=>acc
def zbd:Code->Option Nat
 |.region id _ _=>some id
 |.seq a b=>match zbd a with
  |some r=>some r
  |none=>zbd b
 |.block _ b=>zbd b
 |.loop b=>zbd b
 |.scope b=>zbd b
 |_=>none
def zwJ(l:List (Nat×List Nat))(x:Option Nat):Option (List Nat):=
 match l with
 |[]=>none
 |p::l=>match x with
  |some r=>List.lookup r (p::l)
  |none=>none
structure EIter(P:Program)(X:Ext)(f:FuncId)(first cap:List CV)(R:RO)(xs:List (List CV))(m:Mem):Prop where
 run:∀(l:Nat) (I:Nat->Mem->Prop) (E:Mem->Prop),l<m.nxt ->
  (∀i m1 m2,I i m1->Still m.nxt m1 m2->I i m2)->(∀m1 m2,E m1->Still m.nxt m1 m2->E m2) ->
  (∀i a m1,xs[i]? = some a->Mk R m1->I i m1->EYield P X l a m1 fun v m2=>YFr R l m1 m2/\((v=.bool true/\I (i+1) m2)\/(v=.bool false/\E m2))) ->
  Mk R m->I 0 m->ECall P X f (first++[.yld l]++cap) m (fun _ m'=>YFr R l m m'/\(I xs.length m'\/E m')) fun _ _=>False
end Go.Cx
