import Derived.Test.YteaemnicofpbeaaGreatDoorGf
set_option linter.unusedSimpArgs false
set_option linter.unusedVariables false
namespace Go.Cx
open Go
def znF(b:List Bool)(B:Nat):Prop:=∀j,zak B j=zfG b j
theorem zdw(j:Nat):zfG [] j=false:=by cases j<;>rfl
theorem zng:∀(a b:List Bool) (j:Nat),zfG (orB a b) j=(zfG a j||zfG b j)
 |[],b,j=>by simp[orB,zdw]
 |a::x,[],j=>by simp[orB,zdw]
 |a::x,b::y,0=>rfl
 |a::x,b::y,j+1=>zng x y j
theorem zoH:∀(k j:Nat),zfG (zv1 k) j=decide (k=j)
 |0,0=>rfl
 |0,j+1=>by simp[zv1,zfG,zdw]
 |k+1,0=>by simp[zv1,zfG]
 |k+1,j+1=>by simp only[zv1,zfG,zoH k j];simp
def MasksR:List (List Bool)->List Nat->Prop
 |[],[]=>True
 |b::bs,B::Bs=>znF b B/\MasksR bs Bs
 |_,_=>False
theorem MasksR.nth:∀{bs:List (List Bool)} {Bs:List Nat},MasksR bs Bs->∀{i:Nat} {b:List Bool},nth bs i=some b->∃B,nth Bs i=some B/\znF b B
 |[],[],_,i,b,h=>by simp[zbG]at h
 |[],_::_,h,_,_,_=>h.elim
 |_::_,[],h,_,_,_=>h.elim
 |x::bs,X::Bs,h,0,b,hb=>by
  rw[zbG]at hb;simp only[List.getElem?_cons_zero,ya0]at hb;subst hb;exact⟨X,by rw[zbG];rfl,h.1⟩
 |x::bs,X::Bs,h,i+1,b,hb=>by
  rw[zbG]at hb;simp only[yc6]at hb;obtain⟨B,h1,h2⟩:=h.2.nth (i:=i) (b:=b) (by rw[zbG];exact hb);exact⟨B,by rw[zbG]at h1 ⊢;exact h1,h2⟩
theorem MasksR.snoc:∀{bs:List (List Bool)} {Bs:List Nat},MasksR bs Bs->∀{b:List Bool} {B:Nat},znF b B->MasksR (bs++[b]) (Bs++[B])
 |[],[],_,b,B,h=>⟨h,trivial⟩
 |[],_::_,h,_,_,_=>h.elim
 |_::_,[],h,_,_,_=>h.elim
 |_::_,_::_,h,_,_,hb=>⟨h.1,h.2.snoc hb⟩
theorem zol{bs:List (List Bool)}{Bs:List Nat}(hR:MasksR bs Bs):∀{es:List Edge} {b:List Bool},zqe bs es=some b->∃B,zcU Bs es=some B/\znF b B
 |[],b,h=>by
  simp only[zqe,ya0]at h;subst h;exact⟨0,rfl,fun j=>by rw[zdN,zdw]⟩
 |e::es,b,h=>by
  simp only[zqe]at h;split at h
  ·cases h
  ·rename_i r hr;obtain⟨B,h1,h2⟩:=zol hR hr;split at h
   ·rename_i hb;cases h;exact⟨B,by simp only[zcU,h1,hb],h2⟩
   ·rename_i hb;split at h
    ·rename_i b' hb';cases h;obtain⟨B',g1,g2⟩:=hR.nth hb';refine⟨Nat.lor (Nat.lor (Nat.shiftLeft 1 e.on) B') B,by simp only[zcU,h1,hb,g1],fun j=>?_⟩;rw[zb5,zb5,zj6,zng,zng,zoH,g2 j,h2 j]
    ·cases h
theorem zk6:∀{os:List Oper} {bs:List (List Bool)} {Bs:List Nat} {k:List (List Bool)->Prop},MasksR bs Bs->zly os bs k->∃bs' Bs',zer os Bs=some Bs'/\MasksR bs' Bs'/\k bs'
 |[],bs,Bs,k,hR,h=>⟨bs,Bs,rfl,hR,h⟩
 |o::os,bs,Bs,k,hR,h=>by
  simp only[zly]at h;split at h
  ·rename_i b hb;rw[ziM]at h;obtain⟨B,h1,h2⟩:=zol hR hb;obtain⟨bs',Bs',g1,g2,g3⟩:=zk6 (hR.snoc h2) h;exact⟨bs',Bs',by simp only[zer,h1,g1],g2,g3⟩
  ·exact h.elim
section
variable{P:Program}{X:Ext}{c:DCfg}{np:Nat}{G:Ctx}{R:RO}{e:DEnv}{m:Mem}{t:Tmps}{T:List SV}{O:List SObj}{dd:List DDef}{ds:List CDef}
theorem ztL{k:KK}{d:Nat}{v:CV}(hd:d<t.sz):zlS k (some d) v t ds m=k (t.set d v) ds m:=by
 show Bool.rec (motive:=fun _=>Res) _ _ (Nat.ble (Nat.succ d) t.sz)=_;rw[show Nat.ble (Nat.succ d) t.sz=true from yb1 hd]
theorem zcy{gs:List Nat}{dst:Option Tmp}{v:SV}{x:CV}{K:List SV->Prop}(h:zfi gs dst v T K)(hT:TSat R e T t)(hv:Rep R e v x):
  ∃T' t',TSat R e T' t'/\K T'/\(∀k ds m,zlS k dst x t ds m=k t' ds m)/\∀(k:Tmps->DRes),zbT dst x t k=k t':=by
 unfold zfi at h;cases dst with
 |none=>exact⟨T,t,hT,h,fun _ _ _=>rfl,fun _=>rfl⟩
 |some d=>
  have key:∀v',zfM T d v' K->Rep R e v' x->∃T' t',TSat R e T' t'/\K T'/\(∀k ds m,zlS k (some d) x t ds m=k t' ds m)/\∀(k:Tmps->DRes),zbT (some d) x t k=k t':=fun v' hk hr=>by
   obtain⟨h1,h2⟩:=zcT hk;refine⟨_,_,hT.set hr h1,h2,fun _ _ _=>ztL (by rw[hT.sz];exact h1),fun k=>?_⟩;unfold zbT;simp only[show Nat.ble (Nat.succ d) t.sz=true from yb1 (by rw[hT.sz];exact h1)]
  simp only at h;split at h
  ·exact key _ h hv
  ·split at h
   ·rename_i b;cases b
    ·exact key _ h hv
    ·exact key _ h hv
   ·exact key _ h hv
theorem zec{ops:List Oper}{g:Option (Nat×Bool)}{A B:Prop}(hT:TSat R e T t)(h:zfJ ops T g A B):(zaC ops t g=some true/\A)\/(zaC ops t g=some false/\B):=by
 unfold zfJ at h;split at h
 ·exact .inl ⟨rfl,h⟩
 ·rename_i j want;have key:∀v,zmE ops T j=v->v≠.junk->∃x,Rep R e v x/\zaC ops t (some (j,want))=zxm want (some x):=fun v hv hn=>by
   unfold zmE at hv;split at hv
   ·rename_i o hq;split at hv
    ·rename_i d hd;rw[zcC,ya8]at hv;cases hT':T[d]? with
     |none=>rw[hT']at hv;exact absurd hv.symm hn
     |some u=>
      rw[hT']at hv;have hv':u=v:=hv;rcases hT.get d u hT' with h1 |⟨x,h1,h2⟩
      ·exact absurd (hv'.symm.trans h1) hn
      ·exact⟨x,by rw[<- hv'];exact h2,by simp only[zaC,hq,hd,h1]⟩
    ·exact absurd hv.symm hn
   ·exact absurd hv.symm hn
  split at h
  ·rename_i b hb;obtain⟨x,h1,h2⟩:=key _ hb (by simp);cases h1;cases b<;>cases want<;>simp only at h<;>rw[h2]<;>first |exact .inl ⟨rfl,h⟩ |exact .inr ⟨rfl,h⟩
  ·rename_i l hb;obtain⟨x,h1,h2⟩:=key _ hb (by simp);split at h
   ·cases h1 with
    |tup h1=>cases h1;rw[h2];exact .inr ⟨rfl,h⟩
   ·exact h.elim
  ·exact h.elim
end
def zqk:SV->Bool
 |.cv _=>true
 |.ptr _ _=>true
 |.map _=>true
 |.agg _=>true
 |.tup _=>true
 |_=>false
def zbA:CV->List Nat
 |.ptr t _=>[t]
 |.slc t _ _ _=>[t]
 |.opn t _ _=>[t]
 |.map t=>[t]
 |_=>[]
section
variable{P:Program}{X:Ext}{G:Ctx}{R R':RO}{e e':DEnv}{O:List SObj}{m m':Mem}{T:List SV}{t:Tmps}
theorem zjW{a:Nat}(h:m.get a=m'.get a):zdW m a=zdW m' a:=by unfold zdW;rw[h]
theorem zmy{sz:Nat}{x:CV}(h:∀a∈zbA x,m.get a=m'.get a):elems m sz x=elems m' sz x:=by
 cases x<;>simp only[zbA,yc7,forall_eq]at h<;>simp only[elems]<;>rw[h]
theorem zmA{ty:TypeId}{x:CV}(h:∀a∈zbA x,m.get a=m'.get a):zdC P m ty x=zdC P m' ty x:=by
 cases x<;>simp only[zbA,yc7,forall_eq]at h<;>simp only[zdC];rw[zjW h]
theorem zkI{inf:TypeInfo}{lo hi:Option CV}{x:CV}(h:∀a∈zbA x,m.get a=m'.get a):zcs inf m lo hi x=zcs inf m' lo hi x:=by
 cases x<;>simp only[zbA,yc7,forall_eq]at h<;>simp only[zcs];rw[h]
theorem zl0{inf:TypeInfo}{lo:Option CV}{b mx:Nat}{x:CV}(h:∀a∈zbA x,m.get a=m'.get a):zgo inf m lo b mx x=zgo inf m' lo b mx x:=by
 cases x<;>simp only[zbA,yc7,forall_eq]at h<;>simp only[zgo];rw[h]
theorem zlZ{ty:TypeId}{x:CV}{lo hi mx:Option CV}(h:∀a∈zbA x,m.get a=m'.get a):zba P m ty x lo hi mx=zba P m' ty x lo hi mx:=by
 unfold zba;split
 ·unfold zfY;split
  ·split
   ·split
    ·exact zl0 h
    ·rfl
   ·rfl
  ·rfl
 ·split
  ·rfl
  ·split
   ·exact zkI h
   ·rfl
  ·rfl
  ·rfl
theorem zgz{ty:TypeId}{x i:CV}(h:∀a∈zbA x,m.get a=m'.get a):zai P m ty x i=zai P m' ty x i:=by
 unfold zai;split
 ·cases x<;>simp only[zbA,yc7,forall_eq]at h<;>simp only[zg9];cases i<;>simp only[zpS];rename_i n;cases n<;>simp only;rw[h]
 ·rfl
 ·rfl
theorem zj4{ty:TypeId}{x k:CV}{ok:Bool}(h:∀a∈zbA x,m.get a=m'.get a):zbC P m ty x k ok=zbC P m' ty x k ok:=by
 have hm:zm0 m x=zm0 m' x:=by
  cases x<;>simp only[zbA,yc7,forall_eq]at h<;>simp only[zm0];rw[h]
 unfold zbC;rw[hm]
theorem zpK{ty:TypeId}{x:CV}(h:∀a∈zbA x,m.get a=m'.get a):ztd P m ty x=ztd P m' ty x:=by
 have hm:zk7 m x=zk7 m' x:=by
  cases x<;>simp only[zbA,yc7,forall_eq]at h<;>simp only[zk7];rw[h]
 unfold ztd;rw[hm]
theorem zmx{a b:Nat}{s d:TypeId}{x:CV}{y:Operand}(hn:zb8 P (.convert s d y)=false)(h:∀a∈zbA x,m.get a=m'.get a):za3 P a m s d x=za3 P b m' s d x:=by
 have ht:zj3 m x=zj3 m' x:=by unfold zj3;rw[zmy h]
 unfold zb8 at hn;simp only at hn;unfold za3;cases hs:P.underlying s with
 |none=>rfl
 |some sd=>
  cases hd:P.underlying d with
  |none=>cases x<;>cases sd<;>rfl
  |some dd=>
   rw[hs,hd]at hn;cases sd<;>cases dd<;>first
    |rfl
    |(simp at hn;done)
    |(cases x<;>first
      |rfl
      |(simp only[ht];done)
      |(rename_i n;cases n<;>rfl)
      |(simp only[zg4,zdY];rw[h _ (by simp[zbA])]))
theorem zfo{op:Op}(hi:isN op=true)(hn:zb8 P op=false)(h:∀x∈zaz op,∀v,evO t x=some v->∀a∈zbA v,m.get a=m'.get a):cop P op m t=cop P op m' t:=by
 cases op<;>(try (simp[isN]at hi;done))<;>simp only[zaz]at h
 case load ty a=>
  show un1 (fun m v=>zdC P m ty v) a m t=un1 (fun m v=>zdC P m ty v) a m' t;unfold un1;cases hx:evO t a with
  |none=>rfl
  |some v=>exact zmA (h a (by simp) v hx)
 case slice ty x lo hi' mx=>
  show za7 P ty x lo hi' mx m t=za7 P ty x lo hi' mx m' t;unfold za7;cases hx:evO t x with
  |none=>rfl
  |some v=>
   simp only;cases zef t lo with
   |none=>rfl
   |some _=>
    simp only;cases zef t hi' with
    |none=>rfl
    |some _=>
     simp only;cases zef t mx with
     |none=>rfl
     |some _=>exact zlZ (h x (by simp) v hx)
 case indexAddr ty x i=>
  show zbL (fun m x i=>zai P m ty x i) x i m t=zbL (fun m x i=>zai P m ty x i) x i m' t;unfold zbL;cases hx:evO t x with
  |none=>rfl
  |some v=>
   cases hy:evO t i with
   |none=>rfl
   |some u=>exact zgz (h x (by simp) v hx)
 case lookup ty x k ok=>
  show zbL (fun m x k=>zbC P m ty x k ok) x k m t=zbL (fun m x k=>zbC P m ty x k ok) x k m' t;unfold zbL;cases hx:evO t x with
  |none=>rfl
  |some v=>
   cases hy:evO t k with
   |none=>rfl
   |some u=>exact zj4 (h x (by simp) v hx)
 case convert s d x=>
  show un1 (fun m' v=>za3 P m.nxt m' s d v) x m t=un1 (fun m'' v=>za3 P m'.nxt m'' s d v) x m' t;unfold un1;cases hx:evO t x with
  |none=>rfl
  |some v=>exact zmx hn (h x (by simp) v hx)
 case call cl=>
  obtain⟨callee,args,ats⟩:=cl;show zbn P m.nxt _ m t=zbn P m'.nxt _ m' t;unfold zbn;cases callee with
  |value f=>simp[isN]at hi
  |invoke r n=>simp[isN]at hi
  |builtin b=>
   simp only at h;simp only;cases hl:evL t args.toList with
   |none=>rfl
   |some l=>
    show zcP P m.nxt ats.toList b m l=zcP P m'.nxt ats.toList b m' l;have hmem:∀{as:List Operand} {l:List CV},evL t as=some l->∀v∈l,∃x∈as,evO t x=some v:=by
     intro as
     induction as with
     |nil=>intro l h v hv;simp[evL]at h;subst h;cases hv
     |cons x as ih=>
      intro l h v hv;unfold evL at h;split at h
      ·rename_i u hu;split at h
       ·rename_i us hus;cases h;rcases List.mem_cons.1 hv with rfl |hv
        ·exact⟨x,ya5 ..,hu⟩
        ·obtain⟨y,h1,h2⟩:=ih hus v hv;exact⟨y,ya4 _ h1,h2⟩
       ·cases h
      ·cases h
    cases b<;>(try (simp[isN]at hi;done))<;>try rfl
    ·show zpu P ats.toList m l=zpu P ats.toList m' l;unfold zpu;split
     ·rename_i x;split
      ·obtain⟨y,h1,h2⟩:=hmem hl x (ya5 ..);exact zpK (h y h1 x h2)
      ·rfl
     ·rfl
    ·show zvT m l=zvT m' l;unfold zvT;split
     ·rename_i x;obtain⟨y,h1,h2⟩:=hmem hl x (ya5 ..);have hx:=h y h1 x h2;cases x<;>first
       |rfl
       |(rename_i tt k n;cases k<;>cases n<;>first |rfl |(simp only[zco];rw[hx _ (by simp[zbA])]))
     ·rfl
theorem zuV(hM:MSat G R e O m){v:SV}{x:CV}(h:Rep R e v x)(hj:v≠.junk):∀a∈zbA x,(∃o∈zkR v,∃y,e o=some y/\tg y=some a)\/∃o,R a=some o:=by
 have lst:∀{o a off n c:Nat},e o=some (.slc a off n c)->(tg (CV.slc a off n c)=some a)\/∃o,R a=some o:=by
  intro o a off n c hx;cases c with
  |succ c=>exact .inl rfl
  |zero=>
   obtain⟨so,_,hor⟩:=hM.obj hx;cases so with
   |dead=>exact hor.elim
   |cells ty cs=>obtain⟨_,_,hq,_⟩:=hor;cases hq
   |map c f st=>obtain⟨_,_,_,hq,_⟩:=hor;cases hq
   |list ty sz k el=>
    rcases hor with⟨hq |⟨t',off',o',cs,hq,h1,_⟩,_⟩ |⟨_,_,_,hq,h0,_⟩ |⟨_,_,hq,_⟩
    ·cases hq
    ·cases hq;exact .inr ⟨_,h1⟩
    ·cases hq;omega
    ·cases hq
 intro a ha;cases h with
 |junk=>exact absurd rfl hj
 |cv hf=>cases x<;>simp[zj0]at hf<;>simp[zbA]at ha
 |agg _=>simp[zbA]at ha
 |tup _=>simp[zbA]at ha
 |ptr h1=>simp only[zbA,yc7]at ha;subst ha;exact .inl ⟨_,by simp[zkR],_,h1,rfl⟩
 |eptS h1=>
  simp only[zbA,yc7]at ha;subst ha;rcases lst h1 with h2 |h2
  ·exact .inl ⟨_,by simp[zkR],_,h1,h2⟩
  ·exact .inr h2
 |eptO h1=>simp only[zbA,yc7]at ha;subst ha;exact .inl ⟨_,by simp[zkR],_,h1,rfl⟩
 |lstN h1=>simp[zbA]at ha
 |lstV h1=>simp[zbA]at ha
 |lstS h1=>
  simp only[zbA,yc7]at ha;subst ha;rcases lst h1 with h2 |h2
  ·exact .inl ⟨_,by simp[zkR],_,h1,h2⟩
  ·exact .inr h2
 |lstE h1=>
  simp only[zbA,yc7]at ha;subst ha;rcases lst h1 with h2 |h2
  ·exact .inl ⟨_,by simp[zkR],_,h1,h2⟩
  ·exact .inr h2
 |lstO h1=>simp only[zbA,yc7]at ha;subst ha;exact .inl ⟨_,by simp[zkR],_,h1,rfl⟩
 |sub h1=>simp only[zbA,yc7]at ha;subst ha;exact .inl ⟨_,by simp[zkR],_,h1,rfl⟩
 |islN=>simp[zbA]at ha
 |islV=>simp[zbA]at ha
 |islE=>simp[zbA]at ha
 |islx h1=>
  cases h1 with
  |islN=>simp[zbA]at ha
  |islV=>simp[zbA]at ha
  |islS h1=>simp only[zbA,yc7]at ha;subst ha;exact .inr ⟨_,h1⟩
  |islO h1=>simp only[zbA,yc7]at ha;subst ha;exact .inr ⟨_,h1⟩
 |islS h1=>simp only[zbA,yc7]at ha;subst ha;exact .inr ⟨_,h1⟩
 |islO h1=>simp only[zbA,yc7]at ha;subst ha;exact .inr ⟨_,h1⟩
 |ipt h1=>simp only[zbA,yc7]at ha;subst ha;exact .inr ⟨_,h1⟩
 |empN=>simp[zbA]at ha
 |empV=>simp[zbA]at ha
 |empS h1=>obtain⟨_,_,h1,_⟩:=h1;simp only[zbA,yc7]at ha;subst ha;exact .inr ⟨_,h1⟩
 |fn _ _=>simp[zbA]at ha
 |map h1=>simp only[zbA,yc7]at ha;subst ha;exact .inl ⟨_,by simp[zkR],_,h1,rfl⟩
 |ifc _=>simp[zbA]at ha
theorem zno{v:SV}{x:CV}(h:Rep R e v x)(hv:zqk v=true):∀a∈zbA x,∃o∈zkR v,∃y,e o=some y/\tg y=some a:=by
 intro a ha;cases h with
 |cv hf=>cases x<;>simp[zj0]at hf<;>simp[zbA]at ha
 |agg _=>simp[zbA]at ha
 |tup _=>simp[zbA]at ha
 |ptr h1=>simp only[zbA,yc7]at ha;subst ha;exact⟨_,by simp[zkR],_,h1,rfl⟩
 |map h1=>simp only[zbA,yc7]at ha;subst ha;exact⟨_,by simp[zkR],_,h1,rfl⟩
 |_=>simp[zqk]at hv
theorem zhr:∀l:List Nat,natsEq l l=true
 |[]=>rfl
 |a::l=>by unfold natsEq;rw[show Nat.beq a a=true from Nat.beq_refl a,zhr l];rfl
theorem zwN:∀(d:Nat) {v:SV} {x:CV},Rep R e v x->noJ d v=true->cvEq x x=true:=by
 have nb:∀n:Nat,Nat.beq n n=true:=fun n=>Nat.beq_refl n
 have flat:∀{x:CV},zj0 x=true->cvEq x x=true:=by
  intro x h;cases x<;>simp[zj0]at h<;>simp only[cvEq,nb]
  case bool b=>cases b<;>rfl
  case int k n=>rw[show kEq k k=true by cases k<;>rfl,show ieq n n=true by rw[zb9];simp];rfl
  case str s=>exact zhr s
 intro d
 induction d with
 |zero=>
  intro v x h hj;cases h<;>simp[noJ]at hj<;>try (first |(simp only[cvEq,nb,Bool.and_self];done) |(simp[cvEq];done))
  case cv h=>exact flat h
  case islx h=>cases h<;>first |(simp only[cvEq,nb,Bool.and_self];done) |(simp[cvEq];done)
 |succ d ih=>
  have hl:∀{vs:List SV} {xs:List CV},RepL R e vs xs->vs.all (noJ d)=true->cvEqL xs xs=true:=by
   intro vs
   induction vs with
   |nil=>intro xs h _;cases h;rfl
   |cons v vs ihv=>
    intro xs h hi;simp only[List.all_cons,ya2]at hi;cases h with
    |cons hv hs=>simp only[cvEqL,ih hv hi.1,ihv hs hi.2,Bool.and_self]
  intro v x h hj;cases h<;>simp[noJ]at hj<;>try (first |(simp only[cvEq,nb,Bool.and_self];done) |(simp[cvEq];done))
  case cv h=>exact flat h
  case islx h=>cases h<;>first |(simp only[cvEq,nb,Bool.and_self];done) |(simp[cvEq];done)
  case agg h=>simp only[cvEq];exact hl h (by simpa using hj)
  case tup h=>simp only[cvEq];exact hl h (by simpa using hj)
  case fn ha hb=>simp only[cvEq,nb,hl ha (by simpa using hj.1),hl hb (by simpa using hj.2),Bool.and_self]
  case ifc h=>simp only[cvEq,nb,ih h hj,Bool.and_self]
theorem zqp(hR:R.le R'){f:Nat->Bool}(he:∀o y,f o=true->e o=some y->e' o=some y):∀(d:Nat) {v:SV} {x:CV},Rep R e v x->stV f d v=true->Rep R' e' v x:=by
 have hm:∀{v:SV} {x:CV},Rep R noE v x->Rep R' e' v x:=fun h=>h.mono hR fun _ _ hh=>by cases hh
 intro d
 induction d with
 |zero=>
  intro v x h hs;cases h<;>simp[stV]at hs
  case junk=>exact .junk
  case cv h=>exact .cv h
  case ptr h=>exact .ptr (he _ _ hs h)
  case eptS h=>exact .eptS (he _ _ hs h)
  case eptO h=>exact .eptO (he _ _ hs h)
  case lstN h=>exact .lstN (he _ _ hs h)
  case lstV h=>exact .lstV (he _ _ hs h)
  case lstS h=>exact .lstS (he _ _ hs h)
  case lstE h=>exact .lstE (he _ _ hs h)
  case lstO h=>exact .lstO (he _ _ hs h)
  case sub h=>exact .sub (he _ _ hs h)
  case map h=>exact .map (he _ _ hs h)
  case islN=>exact .islN
  case islV=>exact .islV
  case islE=>exact .islE
  case islx h=>exact hm (.islx (by cases h with |islN=>exact .islN |islV=>exact .islV |islS h1 h2 h3 h4 h0 h5=>exact .islS h1 h2 h3 h4 h0 h5 |islO h1 h2 h0 h3=>exact .islO h1 h2 h0 h3))
  case islS h1 h2 h3 h4 h0 h5=>exact hm (.islS h1 h2 h3 h4 h0 h5)
  case islO h1 h2 h0 h3=>exact hm (.islO h1 h2 h0 h3)
  case ipt h1 h2 h3 h0 h4=>exact hm (.ipt h1 h2 h3 h0 h4)
  case empN=>exact .empN
  case empV=>exact .empV
  case empS h=>exact hm (.empS h)
 |succ d ih=>
  have hl:∀{vs:List SV} {xs:List CV},RepL R e vs xs->vs.all (stV f d)=true->RepL R' e' vs xs:=by
   intro vs
   induction vs with
   |nil=>intro xs h _;cases h;exact .nil
   |cons v vs ihv=>
    intro xs h hi;simp only[List.all_cons,ya2]at hi;cases h with
    |cons hv hs=>exact .cons (ih hv hi.1) (ihv hs hi.2)
  intro v x h hs;cases h<;>simp[stV]at hs
  case junk=>exact .junk
  case cv h=>exact .cv h
  case ptr h=>exact .ptr (he _ _ hs h)
  case eptS h=>exact .eptS (he _ _ hs h)
  case eptO h=>exact .eptO (he _ _ hs h)
  case lstN h=>exact .lstN (he _ _ hs h)
  case lstV h=>exact .lstV (he _ _ hs h)
  case lstS h=>exact .lstS (he _ _ hs h)
  case lstE h=>exact .lstE (he _ _ hs h)
  case lstO h=>exact .lstO (he _ _ hs h)
  case sub h=>exact .sub (he _ _ hs h)
  case map h=>exact .map (he _ _ hs h)
  case islN=>exact .islN
  case islV=>exact .islV
  case islE=>exact .islE
  case islx h=>exact hm (.islx (by cases h with |islN=>exact .islN |islV=>exact .islV |islS h1 h2 h3 h4 h0 h5=>exact .islS h1 h2 h3 h4 h0 h5 |islO h1 h2 h0 h3=>exact .islO h1 h2 h0 h3))
  case islS h1 h2 h3 h4 h0 h5=>exact hm (.islS h1 h2 h3 h4 h0 h5)
  case islO h1 h2 h0 h3=>exact hm (.islO h1 h2 h0 h3)
  case ipt h1 h2 h3 h0 h4=>exact hm (.ipt h1 h2 h3 h0 h4)
  case empN=>exact .empN
  case empV=>exact .empV
  case empS h=>exact hm (.empS h)
  case agg h=>exact .agg (hl h (by simpa using hs))
  case tup h=>exact .tup (hl h (by simpa using hs))
  case fn ha hb=>exact .fn (hl ha (by simpa using hs.1)) (hl hb (by simpa using hs.2))
  case ifc h=>exact .ifc (ih h hs)
theorem zuM(hR:R.le R'){f:Nat->Bool}(he:∀o y,f o=true->e o=some y->e' o=some y){v:SV}{x:CV}(h:Rep R e v x):Rep R' e' (stC f v) x:=by
 unfold stC;split
 ·rename_i hs;exact zqp hR he zah h hs
 ·exact .junk
theorem zoG(hR:R.le R'){f:Nat->Bool}(he:∀o y,f o=true->e o=some y->e' o=some y):∀{vs:List SV} {xs:List CV},RepL R e vs xs->RepL R' e' (vs.map (stC f)) xs
 |_,_,.nil=>.nil
 |_,_,.cons hv hs=>.cons (zuM hR he hv) (zoG hR he hs)
end
theorem zdf(L:List Nat):∀(i:Nat) (O:List SObj) (k:List SObj->Prop),zi4 L i O k=k (zlD L i O)
 |_,[],_=>rfl
 |i,so::r,k=>by
  unfold zi4 zlD;cases zaH i L with
  |false=>simp only;rw[zdf L (i+1)]
  |true=>
   cases so<;>simp only
   ·rw[zdf L (i+1)]
   ·rw[zaf (zek L zah),zdf L (i+1)]
   ·rw[zdf L (i+1)]
   ·rw[zdf L (i+1)]
theorem zhA(L:List Nat):∀(O:List SObj) (k i:Nat),(zlD L k O)[i]? = (O[i]?).map (zep L (k+i))
 |[],_,_=>by simp[zlD]
 |so::r,k,0=>by simp only[zlD,List.getElem?_cons_zero,yc5,zep,Nat.add_zero]
 |so::r,k,i+1=>by
  unfold zlD;rw[yc6,zhA L r (k+1) i,yc6,show k+1+i=k+(i+1)by omega]
def zdE(f:Nat->Bool)(L:List Nat):Nat->List SObj->List SObj->List SObj
 |_,[],s=>s
 |_,_::_,[]=>[]
 |i,so::r,s0::s=>(match zaH i L with
  |true=>s0
  |false=>stO f so)::zdE f L (Nat.succ i) r s
theorem zvl(f:Nat->Bool)(v:SV)(k:SV->Prop):zxg f v k=k (stC f v):=by unfold zxg stC;split<;>rfl
theorem zvO(f:Nat->Bool)(so:SObj)(k:SObj->Prop):zxi f so k=k (stO f so):=by
 cases so<;>simp only[zxi,stO];rw[zaf (zvl f)]
theorem zf4{f:Nat->Bool}{L:List Nat}:∀{i:Nat} {O s:List SObj} {k:List SObj->Prop},zhu f L i O s k->k (zdE f L i O s)/\O.length<=s.length/\∀j,j<O.length->zaH (i+j) L=false->s[j]? = some .dead
 |_,[],_,_,h=>⟨h,Nat.zero_le _,fun j hj=>by simp at hj⟩
 |_,_::_,[],_,h=>h.elim
 |i,so::r,s0::s,k,h=>by
  unfold zhu at h;unfold zdE;split at h
  ·rename_i hm;obtain⟨h1,h2,h3⟩:=zf4 h;rw[hm];refine⟨h1,by simpa using h2,fun j hj hh=>?_⟩;cases j with
   |zero=>rw[Nat.add_zero,hm]at hh;cases hh
   |succ j=>rw[yc6];exact h3 j (by simpa using hj) (by rw[<- hh];congr 1;omega)
  ·rename_i hm;split at h
   ·rw[zvO]at h;obtain⟨h1,h2,h3⟩:=zf4 h;rw[hm];refine⟨h1,by simpa using h2,fun j hj hh=>?_⟩;cases j with
    |zero=>rfl
    |succ j=>rw[yc6];exact h3 j (by simpa using hj) (by rw[<- hh];congr 1;omega)
   ·exact h.elim
theorem zc7{f:Nat->Bool}{L:List Nat}:∀{i:Nat} {O s:List SObj},O.length<=s.length->∀j,(zdE f L i O s)[j]? = if j<O.length then(if zaH (i+j) L=true then s[j]? else(O[j]?).map (stO f))else s[j]?
 |_,[],s,_,j=>by simp[zdE]
 |_,_::_,[],h,_=>by simp at h
 |i,so::r,s0::s,h,0=>by
  unfold zdE;cases hm:zaH i L<;>simp[hm]
 |i,so::r,s0::s,h,j+1=>by
  unfold zdE;rw[yc6,zc7 (by simpa using h) j,yc6,yc6,show Nat.succ i+j=i+(j+1)by omega];simp only[ya7,Nat.add_lt_add_iff_right]
theorem zf9{f:Nat->Bool}{L:List Nat}:∀{i:Nat} {O s:List SObj},O.length<=s.length->(zdE f L i O s).length=s.length
 |_,[],s,_=>rfl
 |_,_::_,[],h=>by simp at h
 |i,so::r,s0::s,h=>by unfold zdE;rw[ya7,zf9 (by simpa using h),ya7]
def zdS(f:Nat->Bool):List SV->List SV->List SV
 |v::r,w::s=>(match stV f zah v with |true=>v |false=>w)::zdS f r s
 |_,_=>[]
theorem zfZ{f:Nat->Bool}:∀{T s:List SV} {k:List SV->Prop},zhS f T s k->k (zdS f T s)/\T.length<=s.length
 |[],s,k,h=>⟨by cases s<;>exact h,Nat.zero_le _⟩
 |_::_,[],_,h=>h.elim
 |v::r,w::s,k,h=>by
  unfold zhS at h;unfold zdS;split at h
  ·rename_i hs;obtain⟨h1,h2⟩:=zfZ h;rw[hs];exact⟨h1,by simpa using h2⟩
  ·rename_i hs;obtain⟨h1,h2⟩:=zfZ h;rw[hs];exact⟨h1,by simpa using h2⟩
theorem zjl{f:Nat->Bool}:∀{T s:List SV} {j:Nat} {u:SV},(zdS f T s)[j]? = some u->(∃v,T[j]? = some v/\stV f zah v=true/\u=v)\/s[j]? = some u
 |[],_,_,_,h=>by simp[zdS]at h
 |_::_,[],_,_,h=>by simp[zdS]at h
 |v::r,w::s,0,u,h=>by
  unfold zdS at h;rw[List.getElem?_cons_zero]at h;split at h
  ·rename_i hs;cases h;exact .inl ⟨v,rfl,hs,rfl⟩
  ·cases h;exact .inr rfl
 |v::r,w::s,j+1,u,h=>by
  have h':(zdS f r s)[j]? = some u:=h;exact zjl (T:=r) (s:=s) (j:=j) h'
termination_by T=>T.length
theorem zi2{f:Nat->Bool}:∀{T s:List SV},T.length=s.length->(zdS f T s).length=T.length
 |[],_,_=>rfl
 |_::_,[],h=>by simp at h
 |v::r,w::s,h=>by unfold zdS;rw[ya7,zi2 (by simpa using h),ya7]
structure Hid(R:RO)(e:DEnv)(L:List Nat)(M Mp:Mem)(hid:Nat->Prop):Prop where
 nxt:Mp.nxt=M.nxt
 same:∀a,¬hid a->Mp.get a=M.get a
 out:∀a,hid a->R a=none/\a<Mp.nxt/\Mp.get a=none
 ofL:∀i x a,zaH i L=true->e i=some x->tg x=some a->¬hid a
section
variable{G:Ctx}{R R':RO}{e e':DEnv}{O O':List SObj}{M Mp m' M2:Mem}{T T':List SV}{t:Tmps}{L:List Nat}{hid:Nat->Prop}
theorem MSat.hide(hM:MSat G R e O M)(h:Hid R e L M Mp hid):MSat ⟨Mp,zac e L,R⟩ R (e.only L) (zlD L 0 O) Mp:=by
 have hw:Wf Mp:=fun a ha=>by
  by_cases hh:hid a
  ·exact(h.out a hh).2.2
  ·rw[h.same a hh];exact hM.sk.wf a (by rw[<- h.nxt];exact ha)
 refine⟨Fr.refl _ _,⟨hw,fun a o ha=>?_⟩,RO.le.refl R,fun a o hh=>.inl hh,fun i x a hx ha=>?_,fun i j x y a hx hy ha hb=>hM.inj i j x y a (DEnv.only_some hx).2 (DEnv.only_some hy).2 ha hb,fun i so hi=>?_,fun i x hx=>?_⟩
 ·rw[h.same a fun hh=>by rw[(h.out a hh).1]at ha;cases ha];exact hM.sk.ro a o ha
 ·obtain⟨h1,h2⟩:=DEnv.only_some hx;exact⟨.inr (zaD (memN_iff.1 h1) h2 ha),(hM.own i x a h2 ha).2⟩
 ·rw[zhA,Nat.zero_add]at hi;cases hO:O[i]? with
  |none=>rw[hO]at hi;cases hi
  |some s0=>
   rw[hO,yc5,ya0]at hi;subst hi;unfold zep;split
   ·rename_i hm;rcases hM.ob i s0 hO with rfl |⟨z,h1,h2⟩
    ·exact .inl rfl
    ·have hz:∀a,tg z=some a->Mp.get a=M.get a:=fun a ha=>h.same a (h.ofL i z a hm h1 ha)
     refine .inr ⟨z,DEnv.only_of hm h1,?_⟩;have hmono:OR R e Mp z s0:=h2.mono (RO.le.refl R) (DEnv.le.refl _) hz;cases s0 with
     |dead=>exact hmono
     |cells ty cs=>
      obtain⟨t',xs,rfl,h3,h4⟩:=hmono;exact⟨t',xs,rfl,h3,h4.rs (fun i x=>DEnv.only_of) zah⟩
     |list ty sz n el=>exact hmono
     |map c f st=>exact hmono
   ·exact .inl rfl
 ·obtain⟨h1,h2⟩:=DEnv.only_some hx;obtain⟨so,h3,h4⟩:=hM.dom i x h2;refine⟨zep L i so,by rw[zhA,h3,Nat.zero_add];rfl,?_⟩;unfold zep;rw[h1];cases so<;>simp at h4 ⊢
def zf1(e e':DEnv)(L:List Nat)(n:Nat):DEnv:=fun i=>if i<n/\zaH i L=false then e i else e' i
theorem zbe{n i:Nat}(h1:i<n)(h2:zaH i L=false):zf1 e e' L n i=e i:=if_pos ⟨h1,h2⟩
theorem zdj{n i:Nat}(h:¬(i<n/\zaH i L=false)):zf1 e e' L n i=e' i:=if_neg h
theorem MSat.show(hM:MSat G R e O M)(h:Hid R e L M Mp hid)(hR:R.le R')(hP:∀o u,(e.only L) o=some (PM.c u)->e' o=some (PM.c u)){q:Bool}(hq:q=true->∀o y,e' o=some y->(e.only L) o=some y)(h':MSat ⟨Mp,zac e L,R⟩ R' e' O' m')(hlen:O.length<=O'.length)(hdead:∀j,j<O.length->zaH j L=false->O'[j]? = some .dead)
  (k1:M2.nxt=m'.nxt) (k2:∀a,¬hid a->M2.get a=m'.get a) (k3:∀a,hid a->M2.get a=M.get a):
  (∀o u,e o=some (PM.c u)->zf1 e e' L O.length o=some (PM.c u))/\(∀o y,zih q L O O' o=true->e o=some y->zf1 e e' L O.length o=some y)/\(∀i x,e' i=some x->zf1 e e' L O.length i=some x) /\
  (∀i x a,e i=some x->tg x=some a->zaH i L=false->M2.get a=M.get a) /\
  MSat G R' (zf1 e e' L O.length) (zdE (zih q L O O') L 0 O O') M2:=by
 have hnone:∀i,i<O.length->zaH i L=false->e' i=none:=fun i hi hm=>by
  cases hx:e' i with
  |none=>rfl
  |some x=>
   obtain⟨so,h1,h2⟩:=h'.dom i x hx;rw[hdead i hi hm]at h1;cases h1;exact absurd rfl h2
 have hlt:∀{i:Nat} {x:CV},e i=some x->i<O.length:=fun hx=>by
  obtain⟨so,h1,_⟩:=hM.dom _ _ hx;exact(List.getElem?_eq_some_iff.1 h1).1
 have hin:∀i x,e' i=some x->zf1 e e' L O.length i=some x:=fun i x hx=>by
  rw[zdj]
  ·exact hx
  ·rintro⟨h1,h2⟩;rw[hnone i h1 h2]at hx;cases hx
 have hpm:∀o u,e o=some (PM.c u)->zf1 e e' L O.length o=some (PM.c u):=fun o u ho=>by
  by_cases hm:zaH o L=true
  ·exact hin _ _ (hP o u (DEnv.only_of hm ho))
  ·rw[zbe (hlt ho) (by simpa using hm)];exact ho
 have hst:∀o y,zih q L O O' o=true->e o=some y->zf1 e e' L O.length o=some y:=fun o y hs hy=>by
  unfold zih at hs;split at hs
  ·rename_i hm;rw[zbe (hlt hy) hm];exact hy
  ·rename_i hm;obtain⟨so,h1,h2⟩:=hM.obj hy;have hg:zbt O o=so:=by rw[zdA,ya8,h1];rfl
   rw[hg]at hs;cases so with
   |dead=>exact h2.elim
   |list _ _ _ _=>
    cases q with
    |false=>cases hs
    |true=>
     have hl:zww (zbt O' o)=true:=hs;obtain⟨s',hs'⟩:∃s',O'[o]? = some s':=⟨_,yb5 (Nat.lt_of_lt_of_le (hlt hy) hlen)⟩
     rcases h'.ob o s' hs' with rfl |⟨z,k1,_⟩
     ·rw[zdA,ya8,hs']at hl;cases hl
     ·have hz:=(DEnv.only_some (hq rfl o z k1)).2;rw[hy]at hz;cases hz;exact hin o y k1
   |cells ty cs=>obtain⟨t',xs,rfl,_⟩:=h2;exact hpm o (.p t') hy
   |map c f st=>obtain⟨t',es,ck,rfl,_⟩:=h2;exact hpm o (.m t') hy
 have hsep:∀{i a:Nat} {x:CV},e i=some x->tg x=some a->zaH i L=false->¬(⟨Mp,zac e L,R⟩:Ctx).own a:=fun{i a x} hx ha hm ho=>by
  rcases ho with ho |ho
  ·obtain⟨_,_,_,hl⟩:=hM.lt hx ha;have:Mp.nxt<=a:=ho;rw[h.nxt]at this;omega
  ·obtain⟨j,y,h1,h2,h3⟩:=zap ho;have hij:=hM.inj i j x y a hx h2 ha h3;subst hij;rw[memN_iff.2 h1]at hm;cases hm
 have hkeep:∀i x a,e i=some x->tg x=some a->zaH i L=false->M2.get a=M.get a:=fun i x a hx ha hm=>by
  by_cases hh:hid a
  ·exact k3 a hh
  ·have hno:=hsep hx ha hm;obtain⟨_,_,_,hl⟩:=hM.lt hx ha;rw[k2 a hh,h'.fr.get a (by show a<Mp.nxt;rw[h.nxt];exact hl) fun hs=>hno (.inr hs)];exact h.same a hh
 have hown:∀a,(⟨Mp,zac e L,R⟩:Ctx).own a->G.own a:=fun a ha=>by
  rcases ha with ha |ha
  ·have h1:Mp.nxt<=a:=ha;rw[h.nxt]at h1;exact .inl (by have:=hM.fr.nxt;omega)
  ·obtain⟨j,y,_,h2,h3⟩:=zap ha;exact(hM.own j y a h2 h3).1
 have hnh:∀i x a,e' i=some x->tg x=some a->¬hid a:=fun i x a hx ha hh=>by
  obtain⟨o,hg,_,_⟩:=h'.lt hx ha;have hO:=(h'.own i x a hx ha).1;rcases hO with hO |hO
  ·have:Mp.nxt<=a:=hO;have:=(h.out a hh).2.1;omega
  ·obtain⟨j,y,h1,h2,h3⟩:=zap hO;exact h.ofL j y a (memN_iff.2 h1) h2 h3 hh
 refine⟨hpm,hst,hin,hkeep,?_⟩;refine⟨⟨?_,fun a ha hS=>?_,fun w=>?_⟩,⟨?_,fun a o ha=>?_⟩,hM.le.trans hR,fun a o hh=>?_,fun i x a hx ha=>?_,fun i j x y a hx hy ha hb=>?_,fun i so hi=>?_,fun i x hx=>?_⟩
 ·have h1:=hM.fr.nxt;have h2:Mp.nxt<=m'.nxt:=h'.fr.nxt;rw[h.nxt]at h2;rw[k1];omega
 ·
  have h0:=hM.fr.nxt;have hno:¬(⟨Mp,zac e L,R⟩:Ctx).own a:=fun ho=>by
   rcases hown a ho with h1 |h1
   ·omega
   ·exact hS h1
  by_cases hh:hid a
  ·rw[k3 a hh,hM.fr.get a ha hS]
  ·rw[k2 a hh,h'.fr.get a (by show a<Mp.nxt;rw[h.nxt];omega) fun hs=>hno (.inr hs),h.same a hh,hM.fr.get a ha hS]
 ·intro a ha;have hw:Wf m':=h'.sk.wf;by_cases hh:hid a
  ·have h1:=(h.out a hh).2.1;have h2:Mp.nxt<=m'.nxt:=h'.fr.nxt;rw[k1]at ha;omega
  ·rw[k2 a hh];exact hw a (by rw[<- k1];exact ha)
 ·intro a ha;have hw:Wf m':=h'.sk.wf;by_cases hh:hid a
  ·have h1:=(h.out a hh).2.1;have h2:Mp.nxt<=m'.nxt:=h'.fr.nxt;rw[k1]at ha;omega
  ·rw[k2 a hh];exact hw a (by rw[<- k1];exact ha)
 ·have hg:=h'.sk.ro a o ha;rw[k2 a fun hh=>?_]
  ·exact hg
  ·rcases h'.rn a o ha with h1 |h1
   ·rw[show(⟨Mp,zac e L,R⟩:Ctx).R0 a=R a from rfl,(h.out a hh).1]at h1;cases h1
   ·rcases h1 with h1 |h1
    ·have:Mp.nxt<=a:=h1;have:=(h.out a hh).2.1;omega
    ·obtain⟨j,y,g1,g2,g3⟩:=zap h1;exact h.ofL j y a (memN_iff.2 g1) g2 g3 hh
 ·rcases h'.rn a o hh with h1 |h1
  ·exact hM.rn a o h1
  ·exact .inr (hown a h1)
 ·by_cases hc:i<O.length/\zaH i L=false
  ·rw[zbe hc.1 hc.2]at hx;refine⟨(hM.own i x a hx ha).1,?_⟩;cases hh:R' a with
   |none=>rfl
   |some o=>
    rcases h'.rn a o hh with h1 |h1
    ·have h2:=(hM.own i x a hx ha).2;rw[show(⟨Mp,zac e L,R⟩:Ctx).R0 a=R a from rfl,h2]at h1;cases h1
    ·exact absurd h1 (hsep hx ha hc.2)
  ·rw[zdj hc]at hx;exact⟨hown a (h'.own i x a hx ha).1,(h'.own i x a hx ha).2⟩
 ·by_cases hc:i<O.length/\zaH i L=false<;>by_cases hd:j<O.length/\zaH j L=false
  ·rw[zbe hc.1 hc.2]at hx;rw[zbe hd.1 hd.2]at hy;exact hM.inj i j x y a hx hy ha hb
  ·rw[zbe hc.1 hc.2]at hx;rw[zdj hd]at hy;exact absurd (h'.own j y a hy hb).1 (hsep hx ha hc.2)
  ·rw[zdj hc]at hx;rw[zbe hd.1 hd.2]at hy;exact absurd (h'.own i x a hx ha).1 (hsep hy hb hd.2)
  ·rw[zdj hc]at hx;rw[zdj hd]at hy;exact h'.inj i j x y a hx hy ha hb
 ·rw[zc7 hlen,Nat.zero_add]at hi;by_cases hc:i<O.length/\zaH i L=false
  ·rw[if_pos hc.1,if_neg (by rw[hc.2];simp)]at hi;cases hO:O[i]? with
   |none=>rw[hO]at hi;cases hi
   |some s0=>
    rw[hO,yc5,ya0]at hi;subst hi;rcases hM.ob i s0 hO with rfl |⟨z,h1,h2⟩
    ·exact .inl rfl
    ·refine .inr ⟨z,by rw[zbe hc.1 hc.2];exact h1,?_⟩;have hz:∀a,tg z=some a->M2.get a=M.get a:=fun a ha=>hkeep i z a h1 ha hc.2
     cases s0 with
     |dead=>exact h2.elim
     |cells ty cs=>
      obtain⟨t',xs,rfl,h3,h4⟩:=h2;exact⟨t',xs,rfl,by rw[hz t' rfl];exact h3,zoG hR hst h4⟩
     |list ty sz n el=>exact OR.mono (e:=e) (e':=e) hR (DEnv.le.refl _) h2 hz
     |map c f st=>exact OR.mono (e:=e) (e':=e) hR (DEnv.le.refl _) h2 hz
  ·have hi':O'[i]? = some so:=by
    by_cases hl:i<O.length
    ·have hm:zaH i L=true:=by
      cases hm:zaH i L with
      |true=>rfl
      |false=>exact absurd ⟨hl,hm⟩ hc
     rw[if_pos hl,if_pos hm]at hi;exact hi
    ·rw[if_neg hl]at hi;exact hi
   rcases h'.ob i so hi' with h1 |⟨z,h1,h2⟩
   ·exact .inl h1
   ·exact .inr ⟨z,hin i z h1,h2.mono (RO.le.refl _) hin fun a ha=>k2 a (hnh i z a h1 ha)⟩
 ·by_cases hc:i<O.length/\zaH i L=false
  ·rw[zbe hc.1 hc.2]at hx;obtain⟨so,h1,h2⟩:=hM.dom i x hx;refine⟨stO (zih q L O O') so,?_,by cases so<;>simp[stO]at h2 ⊢⟩;rw[zc7 hlen,Nat.zero_add,if_pos hc.1,if_neg (by rw[hc.2];simp),h1];rfl
  ·rw[zdj hc]at hx;obtain⟨so,h1,h2⟩:=h'.dom i x hx;refine⟨so,?_,h2⟩;rw[zc7 hlen,Nat.zero_add];by_cases hl:i<O.length
   ·have hm:zaH i L=true:=by
     cases hm:zaH i L with
     |true=>rfl
     |false=>exact absurd ⟨hl,hm⟩ hc
    rw[if_pos hl,if_pos hm];exact h1
   ·rw[if_neg hl];exact h1
theorem TSat.show(hT:TSat R e T t)(hT':TSat R' e' T' t)(hR:R.le R'){n:Nat}{q:Bool}(hst:∀o y,zih q L O O' o=true->e o=some y->zf1 e e' L n o=some y)(hin:∀i x,e' i=some x->zf1 e e' L n i=some x):TSat R' (zf1 e e' L n) (zdS (zih q L O O') T T') t:=by
 refine⟨by rw[hT.sz,zi2 (by rw[<- hT.sz,hT'.sz])],fun i u hi=>?_⟩;rcases zjl hi with⟨v,h1,h2,rfl⟩ |h1
 ·rcases hT.get i _ h1 with h3 |⟨x,h3,h4⟩
  ·exact .inl h3
  ·exact .inr ⟨x,h3,zqp hR hst zah h4 h2⟩
 ·rcases hT'.get i u h1 with h3 |⟨x,h3,h4⟩
  ·exact .inl h3
  ·exact .inr ⟨x,h3,h4.mono (RO.le.refl _) hin⟩
end
theorem zsI{S:Nat->Bool}{j T:Nat}{ob:CO}{r:List (Nat×Nat×CO)}{m:Mem}(h:S j=true):zaV S ((j,T,ob)::r) m=(zaV S r m).newAt T ob:=by
 show(match S j with |true=>(zaV S r m).newAt T ob |false=>zaV S r m)=_;rw[h]
theorem zqC{m:Mem}{a:Nat}{o:CO}(h:a<m.nxt):(m.newAt a o).nxt=m.nxt:=by
 show Bool.rec (motive:=fun _=>Nat) (Nat.succ a) m.nxt (Nat.blt a m.nxt)=m.nxt;rw[show Nat.blt a m.nxt=true from yb1 h]
theorem zkp{S:Nat->Bool}{m:Mem}:∀{as:List (Nat×Nat×CO)},(∀p∈as,p.2.1<m.nxt)->(zaV S as m).nxt=m.nxt
 |[],_=>rfl
 |(j,T,o)::r,h=>by
  have ih:=zkp (S:=S) (m:=m) (as:=r) fun p hp=>h p (ya4 _ hp)
  unfold zaV;split
  ·rw[zqC (by rw[ih];exact h _ (ya5 ..)),ih]
  ·exact ih
theorem zbx{S:Nat->Bool}{m:Mem}{a:Nat}:∀{as:List (Nat×Nat×CO)},(∀p∈as,S p.1=true->p.2.1≠a)->(zaV S as m).get a=m.get a
 |[],_=>rfl
 |(j,T,o)::r,h=>by
  have ih:=zbx (S:=S) (m:=m) (a:=a) (as:=r) fun p hp=>h p (ya4 _ hp)
  unfold zaV;split
  ·rename_i hs;rw[Mem.get_newAt,if_neg (fun hq=>h _ (ya5 ..) hs hq.symm),ih]
  ·exact ih
theorem zhe{S:Nat->Bool}{m:Mem}:∀{as:List (Nat×Nat×CO)} {p:Nat×Nat×CO},(∀p∈as,∀q∈as,p.2.1=q.2.1->p=q)->p∈as->S p.1=true->(zaV S as m).get p.2.1=some p.2.2
 |[],_,_,h,_=>by cases h
 |(j,T,o)::r,p,hd,hp,hs=>by
  unfold zaV;rcases List.mem_cons.1 hp with rfl |hp'
  ·simp only at hs;rw[hs];simp only;rw[Mem.get_newAt,if_pos rfl]
  ·have ih:=zhe (S:=S) (m:=m) (as:=r) (p:=p) (fun p hp q hq=>hd p (ya4 _ hp) q (ya4 _ hq)) hp' hs;split
   ·rw[Mem.get_newAt];split
    ·rename_i hq;have:=hd p hp (j,T,o) (ya5 ..) hq;rw[this]
    ·exact ih
   ·exact ih
end Go.Cx
namespace Go.Cx
open Go
def zp5:CO->Bool
 |.cells _ _=>true
 |.opn _ _ _=>true
 |.map _ _=>true
 |_=>false
theorem zpg{m:Mem}{a:Nat}{ob:CO}(h:zp5 ob=true):zhI a (m.newAt a ob)=some ob:=by
 unfold zhI;rw[Mem.get_newAt,if_pos rfl];cases ob<;>simp[zp5]at h<;>rfl
section
variable{P:Program}{T:Nat}
theorem zlf(ty:TypeId)(v:CV):(∀m,∃w,zim T m ty v=.no w)\/∃u ob,zp5 ob=true/\∀m,zim T m ty v=.mem u (m.newAt T ob):=by
 unfold zim;split
 ·split
  ·exact .inr ⟨_,_,rfl,fun m=>rfl⟩
  ·exact .inl fun m=>⟨_,rfl⟩
 ·exact .inl fun m=>⟨_,rfl⟩
theorem zsx{op:Op}(h:zb8 P op=true)(t:Tmps):(∀m,∃w,za4 P T op m t=.no w)\/∃u ob,zp5 ob=true/\∀m,za4 P T op m t=.mem u (m.newAt T ob):=by
 cases op<;>first |(simp[zb8]at h;done) |skip
 case alloc e=>
  show(∀m,∃w,zbO P T e m t=.no w)\/∃u ob,zp5 ob=true/\∀m,zbO P T e m t=.mem u (m.newAt T ob);unfold zbO;split
  ·exact zlf _ _
  ·exact .inl fun m=>⟨_,rfl⟩
 case box e x=>
  show(∀m,∃w,un1 (fun m v=>zim T m e v) x m t=.no w)\/∃u ob,zp5 ob=true/\∀m,un1 (fun m v=>zim T m e v) x m t=.mem u (m.newAt T ob);unfold un1;cases evO t x with
  |none=>exact .inl fun m=>⟨_,rfl⟩
  |some v=>exact zlf _ _
 case buildSlice ty n ps=>
  show(∀m,∃w,zal P T ty n ps m t=.no w)\/∃u ob,zp5 ob=true/\∀m,zal P T ty n ps m t=.mem u (m.newAt T ob);unfold zal;split
  ·unfold za0;split
   ·split
    ·split
     ·split
      ·split
       ·exact .inr ⟨_,_,rfl,fun m=>rfl⟩
       ·exact .inl fun m=>⟨_,rfl⟩
      ·exact .inl fun m=>⟨_,rfl⟩
     ·exact .inl fun m=>⟨_,rfl⟩
    ·exact .inl fun m=>⟨_,rfl⟩
   ·exact .inl fun m=>⟨_,rfl⟩
  ·exact .inl fun m=>⟨_,rfl⟩
 case makeSlice ty l c=>
  show(∀m,∃w,zbL (fun m l c=>zan P T m ty l c) l c m t=.no w)\/∃u ob,zp5 ob=true/\∀m,zbL (fun m l c=>zan P T m ty l c) l c m t=.mem u (m.newAt T ob);unfold zbL;cases evO t l with
  |none=>exact .inl fun m=>⟨_,rfl⟩
  |some v=>
   cases evO t c with
   |none=>exact .inl fun m=>⟨_,rfl⟩
   |some u=>
    show(∀m,∃w,zan P T m ty v u=.no w)\/∃z ob,zp5 ob=true/\∀m,zan P T m ty v u=.mem z (m.newAt T ob);unfold zan;split
    ·split
     ·split
      ·exact .inr ⟨_,_,rfl,fun m=>rfl⟩
      ·exact .inl fun m=>⟨_,rfl⟩
     ·exact .inl fun m=>⟨_,rfl⟩
    ·exact .inl fun m=>⟨_,rfl⟩
 case makeMap ty r=>
  show(∀m,∃w,zgy T r m t=.no w)\/∃u ob,zp5 ob=true/\∀m,zgy T r m t=.mem u (m.newAt T ob);unfold zgy;split
  ·exact .inr ⟨_,_,rfl,fun m=>rfl⟩
  ·exact .inl fun m=>⟨_,rfl⟩
 case convert s d x=>
  show(∀m,∃w,un1 (fun m v=>za3 P T m s d v) x m t=.no w)\/∃u ob,zp5 ob=true/\∀m,un1 (fun m v=>za3 P T m s d v) x m t=.mem u (m.newAt T ob);unfold zb8 at h;simp only at h;split at h
  ·rename_i hs hd;unfold un1;cases evO t x with
   |none=>exact .inl fun m=>⟨_,rfl⟩
   |some v=>
    show(∀m,∃w,za3 P T m s d v=.no w)\/∃z ob,zp5 ob=true/\∀m,za3 P T m s d v=.mem z (m.newAt T ob);unfold za3;rw[hs,hd];cases v<;>first |exact .inl fun m=>⟨_,rfl⟩ |skip
    simp only;split
    ·exact .inr ⟨_,_,rfl,fun m=>rfl⟩
    ·exact .inl fun m=>⟨_,rfl⟩
  ·cases h
end
theorem memN_false{n:Nat}{l:List Nat}:zaH n l=false↔n∉l:=by
 constructor
 ·intro h hh;rw[memN_iff.2 hh]at h;cases h
 ·intro h;cases hm:zaH n l with
  |false=>rfl
  |true=>exact absurd (memN_iff.1 hm) h
theorem zii{O:List SObj}{b:List Bool}{L:List Nat}:∀{ps:List (Nat×Option Nat)},zuc O b L ps=true->∀q∈ps,zfG b q.1=false->∃o,q.2=some o/\zbt O o≠.dead/\o∉L
 |[],_,q,hq,_=>by cases hq
 |(j,p)::r,h,q,hq,hb=>by
  unfold zuc at h;rcases List.mem_cons.1 hq with rfl |hq
  ·simp only at hb;rw[hb]at h;simp only at h;split at h
   ·cases h
   ·split at h
    ·cases h
    ·rename_i hd;split at h
     ·cases h
     ·rename_i hm;refine⟨_,rfl,fun hh=>?_,memN_false.1 hm⟩;unfold ztP at hd;rw[hh]at hd;cases hd
  ·refine zii (ps:=r) ?_ q hq hb;split at h
   ·exact h
   ·split at h
    ·cases h
    ·split at h
     ·cases h
     ·split at h
      ·cases h
      ·exact h
theorem zg6:∀{a b:List Bool},leB a b=true->∀j,zfG a j=true->zfG b j=true
 |[],_,_,j,h=>by rw[zdw]at h;cases h
 |x::a,[],h,j,hj=>by
  unfold leB at h;split at h
  ·cases h
  ·cases j with
   |zero=>cases hj
   |succ j=>have:=zg6 h j hj;rw[zdw]at this;cases this
 |x::a,y::b,h,j,hj=>by
  unfold leB at h;split at h
  ·split at h
   ·cases j with
    |zero=>rfl
    |succ j=>exact zg6 h j hj
   ·cases h
  ·cases j with
   |zero=>cases hj
   |succ j=>exact zg6 h j hj
theorem zhi{b:List Bool}:∀{ws:List (Nat×List Nat×List Bool)},zw3 b ws=true->∀w∈ws,zfG b w.1=true/\∀j,zfG w.2.2 j=true->zfG b j=true
 |[],_,w,hw=>by cases hw
 |(n,L,mb)::r,h,w,hw=>by
  unfold zw3 at h;split at h
  ·rename_i hb;simp only[ya2]at hb;rcases List.mem_cons.1 hw with rfl |hw
   ·exact⟨hb.1,zg6 hb.2⟩
   ·exact zhi h w hw
  ·cases h
theorem zjn{b:List Bool}:∀{ws:List (Nat×List Nat×List Bool)},zqD b ws=true->∀w∈ws,zfG b w.1=true
 |[],_,w,hw=>by cases hw
 |(n,L,mb)::r,h,w,hw=>by
  unfold zqD at h;split at h
  ·rename_i hb;rcases List.mem_cons.1 hw with rfl |hw
   ·exact hb
   ·exact zjn h w hw
  ·cases h
theorem zhY{a b:List Nat}(h:zw8 a b=true):∀o∈a,o∉b:=fun o ho=>by
 have:=List.all_eq_true.1 h o ho;split at this
 ·cases this
 ·rename_i hm;exact memN_false.1 hm
theorem zlG{b:List Bool}{L:List Nat}:∀{fs:List (Nat×Option (List Nat)×List Operand)},zwx b L fs=true->∀f∈fs,zfG b f.1=false->∃l,f.2.1=some l/\∀o∈l,o∉L
 |[],_,f,hf,_=>by cases hf
 |(q,x,us)::r,h,f,hf,hb=>by
  unfold zwx at h;rcases List.mem_cons.1 hf with rfl |hf
  ·simp only at hb;rw[hb]at h;simp only at h;split at h
   ·cases h
   ·split at h
    ·rename_i hd;exact⟨_,rfl,zhY hd⟩
    ·cases h
  ·refine zlG (fs:=r) ?_ f hf hb;split at h
   ·exact h
   ·split at h
    ·cases h
    ·split at h
     ·exact h
     ·cases h
theorem ziY{L:List Nat}:∀{fs:List (Nat×Option (List Nat)×List Operand)},∀f∈fs,∃f'∈zmQ L fs,f'.1=f.1/\∀l,f'.2.1=some l->f'=f/\∀o∈l,o∉L
 |[],f,hf=>by cases hf
 |(q,x,us)::r,f,hf=>by
  unfold zmQ;rcases List.mem_cons.1 hf with rfl |hf
  ·cases x with
   |none=>exact⟨(q,none,us),ya5 ..,rfl,fun l hl=>by cases hl⟩
   |some l=>
    simp only;split
    ·rename_i hd;exact⟨(q,some l,us),ya5 ..,rfl,fun l' hl=>by cases hl;exact⟨rfl,zhY hd⟩⟩
    ·exact⟨(q,none,us),ya5 ..,rfl,fun l' hl=>by cases hl⟩
  ·obtain⟨f',h1,h2⟩:=ziY (L:=L) (fs:=r) f hf;refine⟨f',?_,h2⟩;split
   ·exact ya4 _ h1
   ·split
    ·exact ya4 _ h1
    ·exact ya4 _ h1
theorem zh2{O:List SObj}:∀{fs:List (Nat×Option (List Nat)×List Operand)},∀f∈fs,∃f'∈zeo O fs,f'.1=f.1/\∀l,f'.2.1=some l->f'=f/\∀o∈l,zbt O o≠.dead
 |[],f,hf=>by cases hf
 |(q,x,us)::r,f,hf=>by
  unfold zeo;rcases List.mem_cons.1 hf with rfl |hf
  ·cases x with
   |none=>exact⟨(q,none,us),ya5 ..,rfl,fun l hl=>by cases hl⟩
   |some l=>
    simp only;split
    ·rename_i hd;refine⟨(q,some l,us),ya5 ..,rfl,fun l' hl=>by
      cases hl;refine⟨rfl,fun o ho hh=>?_⟩;have:=List.all_eq_true.1 hd o ho;unfold ztP at this;rw[hh]at this;cases this⟩
    ·exact⟨(q,none,us),ya5 ..,rfl,fun l' hl=>by cases hl⟩
  ·obtain⟨f',h1,h2⟩:=zh2 (O:=O) (fs:=r) f hf;refine⟨f',?_,h2⟩;split
   ·exact ya4 _ h1
   ·split
    ·exact ya4 _ h1
    ·exact ya4 _ h1
theorem zmm{n0:Nat}{ws:List (Nat×List Nat×List Bool)}{l:List Nat}(h:zwv n0 ws l=true):∀o∈l,o<n0/\∀w∈ws,o∉w.2.1:=fun o ho=>by
 unfold zwv at h;simp only[ya2]at h;refine⟨?_,fun w hw=>zhY (List.all_eq_true.1 h.2 w hw) o ho⟩;have:=List.all_eq_true.1 h.1 o ho;exact ya9 this
theorem zgd{d:Nat}{fs:List (Nat×Option (List Nat)×List Operand)}(h:znG (some d) fs=true):∀f∈fs,∀l,f.2.1=some l->.tmp d∉f.2.2:=fun f hf l hl hm=>by
 have h1:=List.all_eq_true.1 h f hf;rw[hl]at h1;have h2:=List.all_eq_true.1 h1 _ hm;unfold zoC at h2;simp only[Nat.beq_refl]at h2;cases h2
theorem zl8{b:List Bool}:∀{ps:List (Nat×Option Nat)},∀q∈ps,zfG b q.1=false->q∈zqA b ps
 |[],q,hq,_=>by cases hq
 |(j,p)::r,q,hq,hb=>by
  unfold zqA;rcases List.mem_cons.1 hq with rfl |hq
  ·simp only at hb;rw[hb];exact ya5 ..
  ·have:=zl8 (ps:=r) q hq hb;split
   ·exact this
   ·exact ya4 _ this
theorem zf5{L:List Nat}:∀{ps:List (Nat×Option Nat)},∀q∈ps,∃q'∈zi0 L ps,q'.1=q.1/\∀o,q'.2=some o->q.2=some o/\o∉L
 |[],q,hq=>by cases hq
 |(j,p)::r,q,hq=>by
  unfold zi0;rcases List.mem_cons.1 hq with rfl |hq
  ·cases p with
   |none=>exact⟨(j,none),ya5 ..,rfl,fun o ho=>by cases ho⟩
   |some o=>
    simp only;split
    ·exact⟨(j,none),ya5 ..,rfl,fun o ho=>by cases ho⟩
    ·rename_i hm;exact⟨(j,some o),ya5 ..,rfl,fun o' ho=>by cases ho;exact⟨rfl,memN_false.1 hm⟩⟩
  ·obtain⟨q',h1,h2⟩:=zf5 (L:=L) (ps:=r) q hq;refine⟨q',?_,h2⟩;split
   ·exact ya4 _ h1
   ·split
    ·exact ya4 _ h1
    ·exact ya4 _ h1
theorem zsu:∀{b:List Bool} {j:Nat},zfG b j=true->j<zcd b
 |[],j,h=>by rw[zdw]at h;cases h
 |_::b,0,_=>Nat.succ_pos _
 |_::b,j+1,h=>Nat.succ_lt_succ (zsu (b:=b) h)
noncomputable def zcJ(s:DS):Mem:=zaV (fun j => !zak s.cl j) s.as s.cur
theorem zt7(so:SObj)(k:SObj->Prop):o1K so k=k (o1 so):=by
 unfold o1K o1;split
 ·rw[zaf zuQ]
 ·rfl
theorem zqb(L:List Nat):∀(O:List SObj) (i:Nat) (k:List SObj->Prop),o2K L i O k=k (o2 L i O)
 |[],_,_=>rfl
 |so::r,i,k=>by
  unfold o2K o2;split
  ·exact zqb L r (i+1) _
  ·rw[zt7];exact zqb L r (i+1) _
theorem zsj(L:List Nat):∀(O:List SObj) (i j:Nat),(o2 L i O)[j]? = (O[j]?).map fun so=>match zaH (i+j) L with
  |true=>.dead
  |false=>o1 so
 |[],i,j=>by simp[o2]
 |so::r,i,0=>by
  rw[o2,List.getElem?_cons_zero,List.getElem?_cons_zero,Nat.add_zero,yc5];rfl
 |so::r,i,j+1=>by
  rw[o2,yc6,yc6,zsj L r (i+1) j,show i+1+j=i+(j+1)by omega]
theorem zvR{R:RO}{e e':DEnv}{v:SV}{x:CV}(h:Rep R e v x):Rep R e' (imJ v) x:=by
 unfold imJ;split
 ·rename_i hi;exact(h.imm zah hi).mono (RO.le.refl R) fun o y hy=>by cases hy
 ·exact .junk
theorem zkf{R:RO}{e e':DEnv}:∀{cs:List SV} {xs:List CV},RepL R e cs xs->RepL R e' (cs.map imJ) xs
 |_,_,.nil=>.nil
 |_,_,.cons h hs=>.cons (zvR h) (zkf hs)
structure Old0(G:Ctx)(n0:Nat)(ws:List (Nat×List Nat×List Bool))(e:DEnv)(o0:List SObj)(tf:List SV)(m:Mem)(t:Tmps):Prop where
 ex:∃e0:DEnv,(∀o x,e0 o=some x->(∃t,x=.ptr t 0)/\e o=some x/\o<n0/\∀w∈ws,o∉w.2.1)/\MSat G G.R0 e0 o0 m/\TSat G.R0 e0 tf t
section
variable{G:Ctx}{R R1:RO}{e e1:DEnv}{O O1:List SObj}{m m':Mem}{T tf:List SV}{t:Tmps}{n0:Nat}{ws:List (Nat×List Nat×List Bool)}{o0:List SObj}
theorem Old0.start(hM:MSat G R e O m)(hR:G.R0=R)(hT:TSat R e T t):Old0 G O.length [] e (O.map o1) (T.map (tf1 O)) m t:=by
 subst hR;have nm:∀o x ty cs,e o=some x->O[o]? = some (.cells ty cs)->∃t,x=.ptr t 0:=fun o x ty cs hx ho=>by
  obtain⟨t,xs,h1,_⟩:=hM.cells ho;rw[hx]at h1;cases h1;exact⟨t,rfl⟩
 have isC:∀(o:Nat),(∃ty cs,O[o]? = some (.cells ty cs))\/∀ty cs,O[o]? ≠ some (.cells ty cs):=fun o=>by
  cases hq:O[o]? with
  |none=>exact .inr fun _ _ h=>by cases h
  |some so=>cases so<;>first |exact .inl ⟨_,_,rfl⟩ |exact .inr fun _ _ h=>by cases h
 let e0:DEnv:=fun o=>match O[o]? with
  |some (.cells _ _)=>e o
  |_=>none
 have he0:∀o x,e0 o=some x->e o=some x/\∃ty cs,O[o]? = some (.cells ty cs):=fun o x hx=>by
  show e o=some x/\_;have hx:(match O[o]? with
   |some (.cells _ _)=>e o
   |_=>none)=some x:=hx
  split at hx
  ·rename_i ty cs hq;exact⟨hx,ty,cs,hq⟩
  ·cases hx
 have he1:∀o ty cs,O[o]? = some (.cells ty cs)->e0 o=e o:=fun o ty cs h=>by
  show(match O[o]? with
   |some (.cells _ _)=>e o
   |_=>none)=e o
  rw[h]
 refine⟨e0,fun o x hx=>?_,⟨hM.fr,⟨hM.sk.wf,fun a z hz=>hM.sk.ro a z (hM.le a z hz)⟩,RO.le.refl _,fun _ _ h=>.inl h,fun o x t hx ht=>hM.own o x t (he0 o x hx).1 ht,fun o o' x x' t hx hx' ht ht'=>hM.inj o o' x x' t (he0 o x hx).1 (he0 o' x' hx').1 ht ht',fun o so ho=>?_,fun o x hx=>?_⟩,⟨by rw[yb7];exact hT.sz,fun i v hv=>?_⟩⟩
 ·obtain⟨h1,ty,cs,h2⟩:=he0 o x hx;exact⟨nm o x ty cs h1 h2,h1,(List.getElem?_eq_some_iff.1 h2).1,fun w hw=>by cases hw⟩
 ·rw[yb9]at ho;cases hq:O[o]? with
  |none=>rw[hq]at ho;cases ho
  |some s0=>
   rw[hq]at ho;simp only[yc5,ya0]at ho;subst ho;cases s0 with
   |cells ty cs=>
    rcases hM.ob o _ hq with h1 |⟨x,h1,t,xs,h2,h3,h4⟩
    ·cases h1
    ·exact .inr ⟨x,by rw[he1 o ty cs hq];exact h1,t,xs,h2,h3,zkf h4⟩
   |_=>exact .inl rfl
 ·obtain⟨h1,ty,cs,h2⟩:=he0 o x hx;exact⟨.cells ty (cs.map imJ),by rw[yb9,h2];rfl,by simp⟩
 ·rw[yb9]at hv;cases hq:T[i]? with
  |none=>rw[hq]at hv;cases hv
  |some u=>
   rw[hq]at hv;simp only[yc5,ya0]at hv;subst hv;unfold tf1;split
   ·rename_i him;rcases hT.get i u hq with h1 |⟨x,h1,h2⟩
    ·exact .inl h1
    ·exact .inr ⟨x,h1,(h2.imm zah him).mono (RO.le.refl _) fun o y hy=>by cases hy⟩
   ·split
    ·rename_i o k _;split
     ·rename_i ty cs hg;rcases hT.get i _ hq with h1 |⟨x,h1,h2⟩
      ·cases h1
      ·cases h2 with
       |ptr hx=>exact .inr ⟨_,h1,.ptr (by rw[he1 o ty cs (zay hg (by simp))];exact hx)⟩
     ·exact .inl rfl
    ·exact .inl rfl
theorem Old0.mem(h:Old0 G n0 ws e o0 tf m t)(hM:MSat G R1 e1 O1 m')(he:∀o u,e o=some (PM.c u)->e1 o=some (PM.c u))(hm:∀o x a,o<n0->(∀w∈ws,o∉w.2.1)->e o=some x->tg x=some a->m'.get a=m.get a):Old0 G n0 ws e1 o0 tf m' t:=by
 obtain⟨e0,h1,h2,h3⟩:=h.ex;refine⟨e0,fun o x hx=>?_,⟨hM.fr,⟨hM.sk.wf,fun a z hz=>hM.sk.ro a z (hM.le a z hz)⟩,RO.le.refl _,fun _ _ h=>.inl h,h2.own,h2.inj,fun o so ho=>?_,h2.dom⟩,h3⟩
 ·obtain⟨⟨t,rfl⟩,k2,k3,k4⟩:=h1 o x hx;exact⟨⟨t,rfl⟩,he o (.p t) k2,k3,k4⟩
 ·rcases h2.ob o so ho with k |⟨x,k1,k2⟩
  ·exact .inl k
  ·obtain⟨_,k3,k4,k5⟩:=h1 o x k1;exact .inr ⟨x,k1,k2.mono (RO.le.refl _) (DEnv.le.refl _) fun a ha=>hm o x a k4 k5 k3 ha⟩
theorem Old0.kill(h:Old0 G n0 ws e o0 tf m t){L:List Nat}(hM:MSat G R1 e1 O1 m')(he:∀o,o<n0->zaH o L=false->e1 o=e o)(hm:∀o x a,e o=some x->tg x=some a->zaH o L=false->m'.get a=m.get a){w:Nat×List Nat×List Bool}(hw:w.2.1=L):Old0 G n0 (w::ws) e1 (o2 L 0 o0) (tf.map (tf2 L)) m' t:=by
 obtain⟨e0,h1,h2,h3⟩:=h.ex
 let e2:DEnv:=fun o=>match zaH o L with
  |true=>none
  |false=>e0 o
 have g1:∀o x,e2 o=some x->zaH o L=false/\e0 o=some x:=fun o x hx=>by
  have hx:(match zaH o L with
   |true=>none
   |false=>e0 o)=some x:=hx
  split at hx
  ·cases hx
  ·rename_i hq;exact⟨hq,hx⟩
 have g2:∀o,zaH o L=false->e2 o=e0 o:=fun o hq=>by
  show(match zaH o L with
   |true=>none
   |false=>e0 o)=e0 o
  rw[hq]
 refine⟨e2,fun o x hx=>?_,⟨hM.fr,⟨hM.sk.wf,fun a z hz=>hM.sk.ro a z (hM.le a z hz)⟩,RO.le.refl _,fun _ _ h=>.inl h,fun o x t hx ht=>h2.own o x t (g1 o x hx).2 ht,fun o o' x x' t hx hx' ht ht'=>h2.inj o o' x x' t (g1 o x hx).2 (g1 o' x' hx').2 ht ht',fun o so ho=>?_,fun o x hx=>?_⟩,⟨by rw[yb7];exact h3.sz,fun i v hv=>?_⟩⟩
 ·obtain⟨k1,k2⟩:=g1 o x hx;obtain⟨k3,k4,k5,k6⟩:=h1 o x k2;refine⟨k3,by rw[he o k5 k1];exact k4,k5,fun v hv=>?_⟩;rcases List.mem_cons.1 hv with rfl |hv
  ·rw[hw];exact memN_false.1 k1
  ·exact k6 v hv
 ·rw[zsj,Nat.zero_add]at ho;cases hq:o0[o]? with
  |none=>rw[hq]at ho;cases ho
  |some s0=>
   rw[hq]at ho;simp only[yc5,ya0]at ho;subst ho;split
   ·exact .inl rfl
   ·rename_i hl;cases s0 with
    |cells ty cs=>
     rcases h2.ob o _ hq with k |⟨x,k1,tt,xs,k2,k3,k4⟩
     ·cases k
     ·subst k2;obtain⟨_,k5,_,_⟩:=h1 o _ k1;exact .inr ⟨_,by rw[g2 o hl];exact k1,tt,xs,rfl,by rw[hm o _ tt k5 rfl hl];exact k3,zkf k4⟩
    |_=>exact .inl rfl
 ·obtain⟨k1,k2⟩:=g1 o x hx;obtain⟨⟨tt,rfl⟩,_,_,_⟩:=h1 o x k2;obtain⟨so,k3,k4⟩:=h2.obj k2;refine⟨o1 so,by rw[zsj,Nat.zero_add,k3,yc5,k1],?_⟩;cases so with
  |cells ty cs=>simp[o1]
  |dead=>exact k4.elim
  |list ty sz n el=>rcases k4 with⟨k5 |⟨_,_,_,_,k5,_⟩,_⟩ |⟨_,_,_,k5,_⟩ |⟨_,_,k5,_⟩<;>first |cases k5 |(simp[zsB]at k5)
  |map c f st=>obtain⟨_,_,_,k5,_⟩:=k4;cases k5
 ·rw[yb9]at hv;cases hq:tf[i]? with
  |none=>rw[hq]at hv;cases hv
  |some u=>
   rw[hq]at hv;simp only[yc5,ya0]at hv;subst hv;unfold tf2;split
   ·rename_i him;rcases h3.get i u hq with k |⟨x,k1,k2⟩
    ·exact .inl k
    ·exact .inr ⟨x,k1,(k2.imm zah him).mono (RO.le.refl _) fun o y hy=>by cases hy⟩
   ·split
    ·rename_i o k _;split
     ·exact .inl rfl
     ·rename_i hl;rcases h3.get i _ hq with k1 |⟨x,k1,k2⟩
      ·cases k1
      ·cases k2 with
       |ptr hx=>exact .inr ⟨_,k1,.ptr (by rw[g2 o hl];exact hx)⟩
    ·exact .inl rfl
end
structure RI(P:Program)(G:Ctx)(T0 N n0 i:Nat)(D:DRg)(R:RO)(e:DEnv)(T:List SV)(O:List SObj)(s:DS):Prop where
 ts:TSat R e T s.t
 ms:MSat G R e O (zcJ s)
 own:G.m0.nxt<=T0
 nl:n0<=O.length
 tag:∀p∈s.as,p.2.1=T0+p.1/\p.1<i
 nd:∀p∈s.as,∀q∈s.as,p.1=q.1->p=q
 le:T0+i<=N
 nx:N<=s.cur.nxt
 fr:∀j,T0+j<N->zak s.cl j=false->s.cur.get (T0+j)=none
 cl:∀j,zak s.cl j=true->j<i/\∃w∈D.ws,zfG w.2.2 j=true
 hf:∀p∈s.hist,N<=p.2.2.nxt/\(∀j,T0+j<N->zak p.2.1 j=false->p.2.2.get (T0+j)=none)/\(∃w∈D.ws,w.1=p.1)/\Wf p.2.2 /\
  ∀o x a,o<n0->(∀w∈D.ws,o∉w.2.1)->e o=some x->tg x=some a->p.2.2.get a=(zcJ s).get a
 nt:∀o x a,o<n0->(∀w∈D.ws,o∉w.2.1)->e o=some x->tg x=some a->a<T0
 ps:∀p∈s.as,zak s.cl p.1=false->∃q∈D.ps,q.1=p.1/\∀o,q.2=some o->o<O.length/\(zbt O o=.dead\/∃x,e o=some x/\tg x=some (T0+p.1))
 ns:∀q∈s.ns,∃f∈D.fs,f.1=q.1/\∀L,f.2.1=some L->f.2.2=zaz q.2.1.op/\(∀o∈L,o<n0/\∀w∈D.ws,o∉w.2.1)/\(∀m',(∀o∈L,∀x a,e o=some x->tg x=some a->m'.get a=(zcJ s).get a)->Mk R m'->cop P q.2.1.op m' s.t=.val q.2.2.2)/\cvEq q.2.2.2 q.2.2.2=true
 rb:∀a z,G.R0 a=some z->a<T0
 hr:∀p∈s.hist,∀a z,G.R0 a=some z->p.2.2.get a=some z
 ms0:Old0 G n0 D.ws e D.o0 D.tf (zcJ s) s.t
section
variable{P:Program}{X:Ext}{c:DCfg}{G:Ctx}{T0 N n0 i:Nat}{D:DRg}{R R':RO}{e e':DEnv}{T T':List SV}{O O':List SObj}{s:DS}{gs:List Nat}{o:Oper}{b:List Bool}{B:Nat}
theorem RI.tagLt(h:RI P G T0 N n0 i D R e T O s):∀p∈s.as,p.2.1<N:=fun p hp=>by
 have:=h.tag p hp;have:=h.le;omega
theorem RI.dup(h:RI P G T0 N n0 i D R e T O s):∀p∈s.as,∀q∈s.as,p.2.1=q.2.1->p=q:=fun p hp q hq hh=>by
 have h1:=(h.tag p hp).1;have h2:=(h.tag q hq).1;exact h.nd p hp q hq (by omega)
theorem RI.nxt(h:RI P G T0 N n0 i D R e T O s)(S:Nat->Bool):(zaV S s.as s.cur).nxt=s.cur.nxt:=zkp fun p hp=>by
 have:=h.tagLt p hp;have:=h.nx;omega
theorem RI.far(h:RI P G T0 N n0 i D R e T O s)(S:Nat->Bool){a:Nat}(ha:a<T0)(m:Mem):(zaV S s.as m).get a=m.get a:=zbx fun p hp _ hh=>by
 have:=(h.tag p hp).1;omega
theorem RI.temps(h:RI P G T0 N n0 i D R e T O s){d:Option Tmp}{t':Tmps}{tf:List SV}(hT:TSat R e T' t')(hf:Old0 G n0 D.ws e D.o0 tf (zcJ s) t')(hn:znG d D.fs=true)(ht:∀u,d≠some u->t'.get u=s.t.get u)(hl:T0+(i+1)<=N):RI P G T0 N n0 (i+1) ⟨D.ws,D.ps,D.fs,tf,D.o0⟩ R e T' O ⟨t',s.cur,s.cl,s.hist,s.as,s.ns⟩:=by
 refine⟨hT,h.ms,h.own,h.nl,fun p hp=>⟨(h.tag p hp).1,Nat.lt_succ_of_lt (h.tag p hp).2⟩,h.nd,hl,h.nx,h.fr,fun j hj=>⟨Nat.lt_succ_of_lt (h.cl j hj).1,(h.cl j hj).2⟩,h.hf,h.nt,h.ps,fun q hq=>?_,h.rb,h.hr,hf⟩;obtain⟨f,h1,h2,h3⟩:=h.ns q hq;refine⟨f,h1,h2,fun L hL=>?_⟩;obtain⟨g1,g2,g3,g4⟩:=h3 L hL;refine⟨g1,g2,fun m' ha hk=>?_,g4⟩;rw[<- g3 m' ha hk];refine zbj fun u hu=>ht u fun hd=>?_
 subst hd;exact zgd hn f h1 L hL (by rw[g1];exact hu)
noncomputable def zxA(d:Option Tmp)(x:CV)(t:Tmps):Tmps:=match d with
 |none=>t
 |some d=>t.set d x
theorem zcb{dst:Option Tmp}{t:Tmps}{v:SV}{x:CV}{K:List SV->Prop}(h:zfi gs dst v T K)(hT:TSat R e T t)(hv:Rep R e v x):
  ∃T' t',TSat R e T' t'/\K T'/\(∀k:Tmps->DRes,zbT dst x t k=k t')/\(∀u,dst≠some u->t'.get u=t.get u)/\t'=zxA dst x t:=by
 unfold zfi at h;cases dst with
 |none=>exact⟨T,t,hT,h,fun _=>rfl,fun _ _=>rfl,rfl⟩
 |some d=>
  have key:∀v',zfM T d v' K->Rep R e v' x->∃T' t',TSat R e T' t'/\K T'/\(∀k:Tmps->DRes,zbT (some d) x t k=k t')/\(∀u,some d≠some u->t'.get u=t.get u)/\t'=zxA (some d) x t:=fun v' hk hr=>by
   obtain⟨h1,h2⟩:=zcT hk;refine⟨_,_,hT.set hr h1,h2,fun k=>?_,fun u hu=>Tmps.get_set_ne t x (fun hh=>hu (by rw[hh])),rfl⟩;unfold zbT;simp only[show Nat.ble (Nat.succ d) t.sz=true from yb1 (by rw[hT.sz];exact h1)]
  simp only at h;split at h
  ·exact key _ h hv
  ·split at h
   ·rename_i b;cases b
    ·exact key _ h hv
    ·exact key _ h hv
   ·exact key _ h hv
theorem zsV:∀(d:Nat) {v:SV} {x:CV},Rep R e v x->zmo d v=true->Rep R' e' v x:=by
 intro d
 induction d with
 |zero=>
  intro v x h hf;cases v<;>simp[zmo]at hf;cases h with
  |cv h=>exact .cv h
 |succ d ih=>
  have lst:∀{cs:List SV} {xs:List CV},RepL R e cs xs->cs.all (zmo d)=true->RepL R' e' cs xs:=by
   intro cs
   induction cs with
   |nil=>intro xs h _;cases h;exact .nil
   |cons c cs ihc=>
    intro xs h hf;cases h with
    |cons h1 h2=>
     simp only[List.all_cons,ya2]at hf;exact .cons (ih h1 hf.1) (ihc h2 hf.2)
  intro v x h hf;cases v<;>simp only[zmo,Bool.false_eq_true]at hf
  case cv=>cases h with
   |cv h=>exact .cv h
  case agg=>cases h with
   |agg h=>exact .agg (lst h hf)
  case tup=>cases h with
   |tup h=>exact .tup (lst h hf)
theorem TSat.set0{tf:List SV}{t:Tmps}(hT:TSat R e tf t)(d:Nat){v:SV}{x:CV}(hv:Rep R e v x):TSat R e (tf.set d v) (t.set d x):=by
 by_cases hd:d<tf.length
 ·exact hT.set hv hd
 ·rw[List.set_eq_of_length_le (by omega)];refine⟨by rw[Tmps.set_sz];exact hT.sz,fun i u hi=>?_⟩;have:i<tf.length:=(List.getElem?_eq_some_iff.1 hi).1;rw[Tmps.get_set_ne t x (by omega)];exact hT.get i u hi
theorem Old0.set{ws:List (Nat×List Nat×List Bool)}{o0:List SObj}{tf:List SV}{t:Tmps}{m:Mem}{v:SV}{x:CV}{d:Nat}(h:Old0 G n0 ws e o0 tf m t)(hv:∀e,Rep G.R0 e v x):Old0 G n0 ws e o0 (tf.set d v) m (t.set d x):=by
 obtain⟨e0,h1,h2,h3⟩:=h.ex;exact⟨e0,h1,h2,h3.set0 d (hv e0)⟩
theorem zeE{ws:List (Nat×List Nat×List Bool)}{o0:List SObj}{tf:List SV}{t:Tmps}{m:Mem}{v:SV}{x:CV}{k:List SV->Prop}(hg0:GlbOk c.glb G.R0)(h0:Old0 G n0 ws e o0 tf m t)(hv:Rep R' e' v x)(hx:zmo zah v=false->zpy o.op=true->cop P o.op m t=.val x)(h:zsW P c o tf o0 v k):∃tf',Old0 G n0 ws e o0 tf' m (zxA o.dst x t)/\k tf':=by
 unfold zsW at h;cases hd:o.dst with
 |none=>rw[hd]at h;exact⟨tf,h0,h⟩
 |some d=>
  rw[hd]at h;simp only at h;split at h
  ·rename_i hf;rw[zav]at h;exact⟨_,h0.set fun e=>zsV zah hv hf,h⟩
  ·rename_i hff;split at h
   ·rename_i ha;rw[ya2]at ha;obtain⟨e0,q1,q2,q3⟩:=h0.ex;obtain⟨_,w,y,h1,h2,h3⟩:=zhx hg0 q2 q3 h;rw[hx hff ha.1]at h1;cases h1;split at h3
    ·rw[zav]at h3;exact⟨_,⟨e0,q1,q2,q3.set0 d h2⟩,h3⟩
    ·split at h3
     ·rw[zav]at h3;exact⟨_,⟨e0,q1,q2,q3.set0 d h2⟩,h3⟩
     ·rw[zav]at h3;exact⟨_,h0.set fun e=>.junk,h3⟩
   ·rw[zav]at h;exact⟨_,h0.set fun e=>.junk,h⟩
theorem ztq{op:Op}(hp:zcQ op=false)(hi:isN op=false):zpy op=true->False:=by
 intro h;cases op<;>(try (simp[zpy]at h;done))<;>simp[zcQ,isN]at hp hi
theorem zuG{op:Op}(h:zb8 P op=true):zpy op=true->False:=by
 intro ha;cases op<;>first |(simp[zpy]at ha;done) |(simp[zb8]at h;done)
theorem RI.empty(hM:MSat G R e O s.cur)(hT:TSat R e T s.t)(hs:s=⟨s.t,s.cur,0,[],[],[]⟩)(hown:G.m0.nxt<=T0)(hN:T0<=N)(hnx:N<=s.cur.nxt)(hfr:∀j,T0+j<N->s.cur.get (T0+j)=none)(htag:∀o x a,e o=some x->tg x=some a->a<T0){tf:List SV}{o0:List SObj}(htf:Old0 G O.length [] e o0 tf s.cur s.t)(hrb:∀a z,G.R0 a=some z->a<T0):
  RI P G T0 N O.length 0 ⟨[],[],[],tf,o0⟩ R e T O s:=by
 have hf:zcJ s=s.cur:=by rw[hs];rfl
 refine⟨hT,by rw[hf];exact hM,hown,Nat.le_refl _,?_,?_,hN,hnx,fun j hj _=>hfr j hj,?_,?_,fun o x a _ _ hx ha=>htag o x a hx ha,?_,?_,hrb,?_,by rw[hf];exact htf⟩
 ·rw[hs];intro p hp;cases hp
 ·rw[hs];intro p hp;cases hp
 ·rw[hs];intro j hj;rw[show(DS.cl ⟨s.t,s.cur,0,[],[],[]⟩)=0 from rfl,zdN]at hj;cases hj
 ·rw[hs];intro p hp;cases hp
 ·rw[hs];intro p hp;cases hp
 ·rw[hs];intro p hp;cases hp
 ·rw[hs];intro p hp;cases hp
theorem RI.hid(h:RI P G T0 N n0 i D R e T O s)(hB:znF b B){L:List Nat}(hp:zuc O b L D.ps=true):Hid R e L (zcJ s) (zaV (zaq B s.cl) s.as s.cur) (fun a=>∃p∈s.as,p.2.1=a/\zak s.cl p.1=false/\zak B p.1=false):=by
 have pend:∀p∈s.as,zak s.cl p.1=false->zak B p.1=false->∃o x,e o=some x/\tg x=some p.2.1/\o∉L:=fun p hp' h1 h2=>by
  obtain⟨q,g1,g2,g3⟩:=h.ps p hp' h1;obtain⟨o,k1,k2,k3⟩:=zii hp q g1 (by rw[g2,<- hB];exact h2);rcases(g3 o k1).2 with k4 |⟨x,k4,k5⟩
  ·exact absurd k4 k2
  ·exact⟨o,x,k4,by rw[(h.tag p hp').1];exact k5,k3⟩
 have hnx:(zcJ s).nxt=s.cur.nxt:=h.nxt _;refine⟨by rw[hnx];exact h.nxt _,fun a ha=>?_,fun a ha=>?_,fun i' x a hi hx hta hh=>?_⟩
 ·by_cases hq:∃p∈s.as,p.2.1=a
  ·obtain⟨p,hp1,rfl⟩:=hq;cases hcl:zak s.cl p.1 with
   |true=>
    have h1:∀S:Nat->Bool,S p.1=false->(zaV S s.as s.cur).get p.2.1=s.cur.get p.2.1:=fun S hS=>zbx fun q hq hSq hh=>by
     have:=h.dup q hq p hp1 hh;rw[this,hS]at hSq;cases hSq
    unfold zcJ;rw[h1 _ (by simp[zaq,hcl]),h1 _ (by simp[hcl])]
   |false=>
    have hBp:zak B p.1=true:=by
     cases hb:zak B p.1 with
     |true=>rfl
     |false=>exact absurd ⟨p,hp1,rfl,hcl,hb⟩ ha
    unfold zcJ;rw[zhe h.dup hp1 (by simp[zaq,hcl,hBp]),zhe h.dup hp1 (by simp[hcl])]
  ·unfold zcJ;rw[zbx fun p hp1 _ hh=>hq ⟨p,hp1,hh⟩,zbx fun p hp1 _ hh=>hq ⟨p,hp1,hh⟩]
 ·obtain⟨p,hp1,rfl,h1,h2⟩:=ha;obtain⟨o,x,g1,g2,g3⟩:=pend p hp1 h1 h2;refine⟨(h.ms.own o x _ g1 g2).2,?_,?_⟩
  ·rw[h.nxt];have:=h.tagLt p hp1;have:=h.nx;omega
  ·rw[zbx fun q hq hSq hh=>?_]
   ·have:=(h.tag p hp1).1;have h3:=h.tagLt p hp1;rw[this]at h3 ⊢;exact h.fr p.1 h3 h1
   ·have:=h.dup q hq p hp1 hh;rw[this]at hSq;simp[zaq,h2]at hSq
 ·obtain⟨p,hp1,rfl,h1,h2⟩:=hh;obtain⟨o,y,g1,g2,g3⟩:=pend p hp1 h1 h2;have:=h.ms.inj i' o x y _ hx g1 hta g2;subst this;exact g3 (memN_iff.1 hi)
end
end Go.Cx
namespace Go.Cx
open Go
section
variable{P:Program}{X:Ext}{c:DCfg}{G:Ctx}{T0 N n0 i:Nat}{D:DRg}{R R':RO}{e e':DEnv}{T T':List SV}{O O':List SObj}{s:DS}{gs:List Nat}{o:Oper}{b:List Bool}{B:Nat}
theorem zsz{o:Nat}{x:CV}{m:Mem}(hM:MSat G R e O m)(hx:e o=some x):o<O.length/\zbt O o≠.dead:=by
 obtain⟨so,h1,h2⟩:=hM.dom o x hx;refine⟨(List.getElem?_eq_some_iff.1 h1).1,?_⟩;rw[zdA,ya8,h1];exact h2
theorem zrk{o:Nat}{m:Mem}(hM:MSat G R e O m)(h:zbt O o≠.dead):∃x,e o=some x:=by
 have h1:=zay (l:=O) (i:=o) rfl h;rcases hM.ob o _ h1 with h2 |⟨x,h2,_⟩
 ·exact absurd h2 h
 ·exact⟨x,h2⟩
theorem zow(h:RI P G T0 N n0 i D R e T O s)(hg:GlbOk c.glb R)(hg0:GlbOk c.glb G.R0)(hnw:zb8 P o.op=true)(hn:znG o.dst D.fs=true)(hl:T0+(i+1)<=N){k:DRg->List SV->List SObj->Prop}(hk:zsJ P X c gs o i D T O k):
  ∃R' e' T' O' D' s',RI P G T0 N n0 (i+1) D' R' e' T' O' s'/\R.le R'/\(∀o u,e o=some (PM.c u)->e' o=some (PM.c u))/\k D' T' O'/\∀k':DS->DRes,zeQ i (Nat.add T0 i) o.dst s k' (za4 P (Nat.add T0 i) o.op ⟨0,.nil⟩ s.t)=k' s':=by
 have hci:zak s.cl i=false:=by
  cases hc:zak s.cl i with
  |false=>rfl
  |true=>have:=(h.cl i hc).1;omega
 have hfree:(zcJ s).get (T0+i)=none:=by
  unfold zcJ;rw[zbx fun p hp _ hh=>by have:=h.tag p hp;omega];exact h.fr i (by omega) hci
 have hF:FreeT G (zcJ s) (T0+i):=⟨by have:=h.own;omega,hfree⟩
 unfold zsJ at hk;rw[zf7]at hk;obtain⟨x,m',h1,h2⟩:=zvK hnw hg h.ms hF h.ts hk;obtain⟨R1,e1,v,T1,O1,q1,q2,q3,q4,q5,q6,q7,q8,q9⟩:=h2.ex;rcases zsx (P:=P) (T:=T0+i) hnw s.t with hno |⟨u,ob,hob,hall⟩
 ·obtain⟨w,hw⟩:=hno (zcJ s);rw[h1]at hw;cases hw
 have hxm:=hall (zcJ s);rw[h1]at hxm;cases hxm;obtain⟨tf',htf,q6⟩:=zeE hg0 h.ms0 q3 (fun _ ha=>(zuG hnw ha).elim) q6;obtain⟨T2,t2,g1,g2,g3,g4,g5⟩:=zcb q6 q4 q3;rw[<- g5]at htf
 let s':DS:=⟨t2,s.cur,s.cl,s.hist,(i,T0+i,ob)::s.as,s.ns⟩
 have hfull:zcJ s'=(zcJ s).newAt (T0+i) ob:=by
  show zaV (fun j => !zak s.cl j) ((i,T0+i,ob)::s.as) s.cur=_;exact zsI (by simp[hci])
 have hget:∀a,a<T0->(zcJ s').get a=(zcJ s).get a:=fun a ha=>by
  rw[hfull,Mem.get_newAt,if_neg (by omega)]
 have hback:∀o',zbt O1 o'≠.dead->o'<O.length->∃y,e1 o'=some y/\e o'=some y:=fun o' hd ho=>by
  obtain⟨y,hy⟩:=zrk q5 hd;exact⟨y,hy,q7 o' y ho hy⟩
 have core:∀D',D'.ws=D.ws->D'.fs=zeo O1 D.fs->D'.tf=tf'->D'.o0=D.o0->(∃p,D'.ps=(i,p)::D.ps/\∀o',p=some o'->o'=O.length/\zu7 o.op=false)->k D' T2 O1->∃R' e' T' O' D' s',RI P G T0 N n0 (i+1) D' R' e' T' O' s'/\R.le R'/\(∀o u,e o=some (PM.c u)->e' o=some (PM.c u))/\k D' T' O'/\∀k':DS->DRes,zeQ i (Nat.add T0 i) o.dst s k' (za4 P (Nat.add T0 i) o.op ⟨0,.nil⟩ s.t)=k' s':=by
  intro D' hws hfs htf' ho0' ⟨pn,hps,hpn⟩ hkk;refine⟨R1,e1,T2,O1,D',s',⟨g1,by rw[hfull];exact q5,h.own,by rw[q8];have:=h.nl;omega,fun p hp=>?_,fun p hp q hq hh=>?_,hl,h.nx,h.fr,fun j hj=>?_,fun p hp=>?_,fun o' x' a ho hun hx ha=>?_,fun p hp hcl=>?_,fun q hq=>?_,h.rb,h.hr,by rw[htf',hws,ho0'];exact htf.mem (by rw[hfull];exact q5) q2 (fun o' x' a ho hun hx ha=>hget a (h.nt o' x' a ho hun hx ha))⟩,q1,q2,hkk,fun k'=>?_⟩
  ·rcases List.mem_cons.1 hp with rfl |hp
   ·exact⟨rfl,Nat.lt_succ_self _⟩
   ·exact⟨(h.tag p hp).1,Nat.lt_succ_of_lt (h.tag p hp).2⟩
  ·rcases List.mem_cons.1 hp with rfl |hp<;>rcases List.mem_cons.1 hq with rfl |hq
   ·rfl
   ·have:=(h.tag q hq).2;simp only at hh;omega
   ·have:=(h.tag p hp).2;simp only at hh;omega
   ·exact h.nd p hp q hq hh
  ·rw[hws];exact⟨Nat.lt_succ_of_lt (h.cl j hj).1,(h.cl j hj).2⟩
  ·obtain⟨f1,f2,f3,f4,f5⟩:=h.hf p hp;rw[hws];refine⟨f1,f2,f3,f4,fun o' x' a ho hun hx ha=>?_⟩;have hx0:=q7 o' x' (by have:=h.nl;omega) hx;rw[hget a (h.nt o' x' a ho hun hx0 ha)];exact f5 o' x' a ho hun hx0 ha
  ·rw[hws]at hun;exact h.nt o' x' a ho hun (q7 o' x' (by have:=h.nl;omega) hx) ha
  ·rcases List.mem_cons.1 hp with rfl |hp
   ·refine⟨(i,pn),by rw[hps];exact ya5 ..,rfl,fun o' ho=>?_⟩;obtain⟨rfl,hemp⟩:=hpn o' ho;refine⟨by rw[q8];omega,.inr ?_⟩;rcases q9 with q9 |q9
    ·rw[hemp]at q9;cases q9
    ·exact q9
   ·obtain⟨q,f1,f2,f3⟩:=h.ps p hp hcl;refine⟨q,by rw[hps];exact ya4 _ f1,f2,fun o' ho=>?_⟩;obtain⟨f4,f5⟩:=f3 o' ho;refine⟨by rw[q8];omega,?_⟩;by_cases hd:zbt O1 o'=.dead
    ·exact .inl hd
    ·obtain⟨y,hy1,hy2⟩:=hback o' hd f4;rcases f5 with f5 |⟨x',f5,f6⟩
     ·exact absurd f5 (zsz h.ms hy2).2
     ·rw[hy2]at f5;cases f5;exact .inr ⟨_,hy1,f6⟩
  ·obtain⟨f,f1,f2,f3⟩:=h.ns q hq;obtain⟨f',f4,f5,f6⟩:=zh2 (O:=O1) f f1;refine⟨f',by rw[hfs];exact f4,f5.trans f2,fun L hL=>?_⟩;obtain⟨hff,hdead⟩:=f6 L hL;subst hff;obtain⟨k1,k2,k3,k4⟩:=f3 L hL;refine⟨k1,by rw[hws];exact k2,fun m' ha hm'=>?_,k4⟩;have hres:=k3 m' (fun o' ho x' a hx hta=>?_) ⟨hm'.wf,fun a z hz=>hm'.ro a z (q1 a z hz)⟩
   ·rw[<- hres];refine zbj fun w hw=>g4 w fun hd=>?_
    rw[hd]at hn;exact zgd hn f' f1 L hL (by rw[k1];exact hw)
   ·obtain⟨ho1,ho2⟩:=k2 o' ho;obtain⟨y,hy1,hy2⟩:=hback o' (hdead o' ho) (by have:=h.nl;omega);rw[hx]at hy2;cases hy2;rw[ha o' ho _ a hy1 hta];exact hget a (h.nt o' _ a ho1 ho2 hx hta)
  ·rw[show(Nat.add T0 i)=T0+i from rfl,hall];unfold zeQ;simp only[zpg hob];rw[g3]
 split at g2
 ·exact core ⟨D.ws,(i,none)::D.ps,zeo O1 D.fs,tf',D.o0⟩ rfl rfl rfl rfl ⟨none,rfl,fun o' ho=>by cases ho⟩ g2
 ·rename_i hemp;rw[zmz]at g2;exact core ⟨D.ws,(i,some (Nat.pred (zcd O1)))::D.ps,zeo O1 D.fs,tf',D.o0⟩ rfl rfl rfl rfl ⟨some (Nat.pred (zcd O1)),rfl,fun o' ho=>by cases ho;rw[zat,q8];exact⟨rfl,hemp⟩⟩ g2
theorem zh7{t:Tmps}{m:Mem}(hts:TSat R e T t)(hms:MSat G R e O m){op:Op}{x:Operand}(hx:x∈zaz op){v:CV}(hv:evO t x=some v)(hd:zaU c T x fun _=>True)(hg:GlbOk c.glb R):∀a∈zbA v,(∃o∈zdd T (zaz op),∃y,e o=some y/\tg y=some a)\/∃z,R a=some z:=by
 have mem:∀{l:List Operand} {d o:Nat},.tmp d∈l->o∈zkR (zdR T d)->o∈zdd T l:=by
  intro l
  induction l with
  |nil=>intro d o h1;cases h1
  |cons z l ih=>
   intro d o h1 h2;rcases List.mem_cons.1 h1 with rfl |h1
   ·unfold zdd;exact List.mem_append.2 (.inl h2)
   ·have:=ih h1 h2;cases z<;>unfold zdd<;>first |exact this |exact List.mem_append.2 (.inr this)
 obtain⟨hj,_⟩:=zcN hd;obtain⟨v',y,h1,h2,_⟩:=zab (k:=fun _=>True) hg hts hd;rw[hv]at h1;cases h1;have hrep:Rep R e (evD c T x) v:=by
  cases x with
  |tmp d=>
   change zdR T d≠.junk at hj
   show Rep R e (zdR T d) v;rw[zcC,ya8]at hj ⊢;cases hT:T[d]? with
   |none=>rw[hT]at hj;exact absurd rfl hj
   |some u=>
    rw[hT]at hj;rcases hts.get d u hT with rfl |⟨z,h3,h4⟩
    ·exact absurd rfl hj
    ·have:t.get d=some v:=hv;rw[h3]at this;cases this;exact h4
  |const u=>
   have h0:ofV u=some v:=hv;show Rep R e (match ofV u with |some x=>zrG x |none=>.junk) v;rw[h0];exact zdB v
  |global g=>
   have h0:evD c T (.global g)=(match Nat.blt g 64 with |true=>zjO g c.glb |false=>.junk):=rfl;cases hb:Nat.blt g 64 with
   |false=>rw[h0,hb]at hj;exact absurd rfl hj
   |true=>
    rw[h0,hb]at hj ⊢;have hv':Bool.rec (motive:=fun _=>Option CV) none (some (.ptr g 0)) (Nat.blt g 64)=some v:=hv;rw[hb]at hv';cases hv';exact(ztS hg).resolve_left hj
  |func f=>cases hv;exact .fn .nil .nil
 intro a ha;rcases zuV hms hrep hj a ha with⟨o,ho,y,hy1,hy2⟩ |h3
 ·left;cases x with
  |tmp d=>exact⟨o,mem hx ho,y,hy1,hy2⟩
  |const u=>
   exfalso;have:zkR (evD c T (.const u))=[]:=by
    show zkR (match ofV u with |some x=>zrG x |none=>.junk)=[]
    split
    ·rename_i x _;cases x with
     |tup l=>cases l<;>rfl
     |fn f a b=>cases a<;>cases b<;>rfl
     |_=>rfl
    ·rfl
   rw[this]at ho;cases ho
  |global g=>
   exfalso;have:zkR (evD c T (.global g))=[]:=by
    show zkR (match Nat.blt g 64 with |true=>zjO g c.glb |false=>.junk)=[]
    split
    ·induction c.glb with
     |nil=>rfl
     |cons p r ih=>
      obtain⟨i,cs⟩:=p;simp only[zjO];split
      ·rfl
      ·exact ih
    ·rfl
   rw[this]at ho;cases ho
  |func f=>cases ho
 ·exact .inr h3
theorem zpv{op:Op}(hi:isN op=true){K:SV->Prop}(h:ztt P c op T O K):∀x∈zaz op,zaU c T x fun _=>True:=by
 have wk:∀{x:Operand} {k:SV->Prop},zaU c T x k->zaU c T x fun _=>True:=fun{x k} h=>by
  obtain⟨h1,h2⟩:=zcN h;unfold zaU knK;rw[zrT];generalize evD c T x=v at h1;cases v<;>first |exact absurd rfl h1 |trivial
 have sub:∀{x:Operand} {k:SV->Prop},zaU c T x k->k (evD c T x):=fun h=>(zcN h).2
 have lst:∀{l:List Operand} {k:List SV->Prop},zej c T l k->∀x∈l,zaU c T x fun _=>True:=by
  intro l
  induction l with
  |nil=>intro k h x hx;cases hx
  |cons y l ih=>
   intro k h x hx;have h1:zaU c T y fun v=>zej c T l fun vs=>k (v::vs):=h
   rcases List.mem_cons.1 hx with rfl |hx
   ·exact wk h1
   ·exact ih (sub h1) x hx
 have opt:∀{y:Option Operand} {k:Option SV->Prop},zmB c T y k->(∀x∈znt y,zaU c T x fun _=>True)/\∃v,k v:=by
  intro y k h;cases y with
  |none=>exact⟨fun x hx=>(by cases hx),_,h⟩
  |some y=>
   have h1:zaU c T y fun v=>k (some v):=h
   exact⟨fun x hx=>(by simp[znt]at hx;subst hx;exact wk h1),_,sub h1⟩
 cases op<;>(try (simp[isN]at hi;done))<;>simp only[ztt]at h<;>intro x hx<;>simp only[zaz]at hx
 case load ty a=>rw[yc7]at hx;subst hx;exact wk h
 case slice ty y lo hi' mx=>
  split at h
  ·have h1:=sub h;obtain⟨h2,_,h3⟩:=opt h1;obtain⟨h4,_,_⟩:=opt h3;simp only[List.mem_cons,List.mem_append]at hx;rcases hx with rfl |(hx |hx) |hx
   ·exact wk h
   ·exact h2 x hx
   ·exact h4 x hx
   ·simp[znt]at hx
  ·exact h.elim
 case indexAddr ty y i=>
  simp only[List.mem_cons,List.not_mem_nil,or_false]at hx;rcases hx with rfl |rfl
  ·exact wk h
  ·exact wk (sub h)
 case lookup ty y k ok=>
  simp only[List.mem_cons,List.not_mem_nil,or_false]at hx;rcases hx with rfl |rfl
  ·exact wk h
  ·exact wk (sub h)
 case convert s d y=>rw[yc7]at hx;subst hx;exact wk h
 case call cl=>
  obtain⟨callee,args,ats⟩:=cl;cases callee with
  |value f=>simp[isN]at hi
  |invoke r n=>simp[isN]at hi
  |builtin b=>exact lst h x hx
theorem zj5{op:Op}{t:Tmps}{v:CV}{m:Mem}(h:cop P op m t=.val v)(hv:cvEq v v=true):zjX P op t v m=true:=by
 unfold zjX;have:za4 P m.nxt op m t=.val v:=h;rw[this];exact hv
theorem zt4{tf:List SV}{t:Tmps}{m:Mem}{op:Op}{e0:DEnv}{o0:List SObj}(hts:TSat G.R0 e0 tf t)(hms:MSat G G.R0 e0 o0 m)(hok:zs5 tf (zaz op)=true)(hkn:∀y∈zaz op,zaU c T y fun _=>True)(hg:GlbOk c.glb G.R0):∀y∈zaz op,∀u,evO t y=some u->∀a∈zbA u,(∃o y,e0 o=some y/\tg y=some a)\/∃z,G.R0 a=some z:=by
 intro y hy u hu a ha;have hd:zaU c tf y fun _=>True:=by
  cases y with
  |tmp d=>
   have:∀{l:List Operand},zs5 tf l=true->.tmp d∈l->zdR tf d≠.junk:=by
    intro l
    induction l with
    |nil=>intro _ h;cases h
    |cons z l ih=>
     intro h1 h2;rcases List.mem_cons.1 h2 with h2 |h2
     ·subst h2;intro hj;unfold zs5 at h1;rw[hj]at h1;cases h1
     ·refine ih ?_ h2;cases z with
      |tmp w=>
       unfold zs5 at h1;split at h1
       ·cases h1
       ·exact h1
      |_=>exact h1
   have hj:=this hok hy;show knK (zdR tf d) _;unfold knK;rw[zrT];generalize zdR tf d=v at hj;cases v<;>first |exact absurd rfl hj |trivial
  |const w=>exact hkn _ hy
  |global g=>exact hkn _ hy
  |func f=>exact hkn _ hy
 rcases zh7 hts hms hy hu hd hg a ha with⟨o,_,y,h1,h2⟩ |h
 ·exact .inl ⟨o,y,h1,h2⟩
 ·exact .inr h
theorem zlB(h:RI P G T0 N n0 i D R e T O s)(hg:GlbOk c.glb R)(hg0:GlbOk c.glb G.R0)(hB:znF b B)(hno:zb8 P o.op=false)(hp:zcQ o.op=false)(hi:isN o.op=true)(hn:znG o.dst D.fs=true)(hl:T0+(i+1)<=N){k:DRg->List SV->Prop}(hk:znQ P c gs n0 o i b D T O k):
  ∃T' D' s',RI P G T0 N n0 (i+1) D' R e T' O s'/\k D' T'/\(∀(ih:Task->Res) (k':DS->DRes) (kp:CV->Mem->DS->DRes),zc1 P ih o i B s k' kp (zaV (zaq B s.cl) s.as s.cur) (za4 P (zaV (zaq B s.cl) s.as s.cur).nxt o.op (zaV (zaq B s.cl) s.as s.cur) s.t)=k' s')/\∃x,za4 P (zaV (zaq B s.cl) s.as s.cur).nxt o.op (zaV (zaq B s.cl) s.as s.cur) s.t=.val x:=by
 unfold znQ at hk;rw[zf7]at hk;split at hk
 ·exact hk.elim
 rename_i hps;split at hk
 ·exact hk.elim
 rename_i hws;have hkn:=zpv hi hk;obtain⟨_,v,x,h1,h2,h3⟩:=zhx hg h.ms h.ts hk;have hval:∀m':Mem,(∀o'∈zdd T (zaz o.op),∀x' a,e o'=some x'->tg x'=some a->m'.get a=(zcJ s).get a)->Mk R m'->cop P o.op m' s.t=.val x:=fun m' ha hm'=>by
  rw[<- h1];refine zfo hi hno fun y hy u hu a hta=>?_
  rcases zh7 h.ts h.ms hy hu (hkn y hy) hg a hta with⟨o',g1,z,g2,g3⟩ |⟨z,g1⟩
  ·exact ha o' g1 z a g2 g3
  ·rw[hm'.ro a z g1,h.ms.sk.ro a z g1]
 have hpart:cop P o.op (zaV (zaq B s.cl) s.as s.cur) s.t=.val x:=by
  cases hq:zuc O b (zdd T (zaz o.op)) D.ps with
  |false=>
   rw[hq,Bool.false_or]at hps;obtain⟨e0,z1,z2,z3⟩:=h.ms0.ex;have htop:=zt4 z3 z2 hps hkn hg0;rw[<- h1];refine zfo hi hno fun y hy u hu a hta=>?_
   rcases htop y hy u hu a hta with⟨o',y',g1,g2⟩ |⟨z,hz⟩
   ·obtain⟨_,g3,g4,g5⟩:=z1 o' y' g1;have hlt:=h.nt o' y' a g4 g5 g3 g2;unfold zcJ;rw[h.far _ hlt,h.far _ hlt]
   ·unfold zcJ;rw[h.far _ (h.rb a z hz),h.far _ (h.rb a z hz)]
  |true=>
  have hH:=h.hid hB hq;refine hval _ (fun o' ho x' a hx hta=>hH.same a (hH.ofL o' x' a (memN_iff.2 ho) hx hta)) ⟨(h.ms.hide hH).sk.wf,fun a z hz=>(h.ms.hide hH).sk.ro a z hz⟩
 split at h3
 ·exact h3.elim
 rename_i hj;have hcv:=zwN zah h2 hj;obtain⟨tf',htf,h3⟩:=zeE hg0 h.ms0 h2 (fun _ _=>h1) h3;obtain⟨T2,t2,g1,g2,g3,g4,g5⟩:=zcb h3 h.ts h2;rw[<- g5]at htf;have hhist:zgE P o.op B s.t x s.as s.hist=true:=by
  cases hwa:zqD b D.ws with
  |true=>
   have:=zjn hwa;cases hhs:s.hist with
   |nil=>rfl
   |cons p r=>
    obtain⟨w,cl,mw⟩:=p;obtain⟨_,_,⟨w',f1,f2⟩,_⟩:=h.hf (w,cl,mw) (by rw[hhs];exact ya5 ..);unfold zgE;rw[show zak B w=true by rw[hB w];have:=this w' f1;rw[f2]at this;exact this]
  |false=>
   rw[hwa,Bool.false_or,Bool.or_eq_true,ya2]at hws;rcases hws with⟨hun,hfz⟩ |hws
   case inr=>
    obtain⟨e0,z1,z2,z3⟩:=h.ms0.ex;have htop:=zt4 z3 z2 hws hkn hg0;have all:∀hs,(∀p∈hs,p∈s.hist)->zgE P o.op B s.t x s.as hs=true:=by
     intro hs
     induction hs with
     |nil=>intro _;rfl
     |cons p r ih=>
      intro hsub;obtain⟨w,cl,mw⟩:=p;unfold zgE;split
      ·rfl
      ·have hsame:zjX P o.op s.t x (zaV (zaq B cl) s.as mw)=true:=by
        refine zj5 ?_ hcv;rw[<- h1];refine zfo hi hno fun y hy u hu a hta=>?_
        rcases htop y hy u hu a hta with⟨o',y',g1,g2⟩ |⟨z,hz⟩
        ·obtain⟨_,g3,g4,g5⟩:=z1 o' y' g1;rw[h.far _ (h.nt o' y' a g4 g5 g3 g2)];obtain⟨_,_,_,_,f5⟩:=h.hf _ (hsub _ (ya5 ..));exact f5 o' y' a g4 g5 g3 g2
        ·rw[h.far _ (h.rb a z hz),h.hr _ (hsub _ (ya5 ..)) a z hz,h.ms.sk.ro a z (h.ms.le a z hz)]
       rw[hsame];exact ih fun p hp=>hsub p (ya4 _ hp)
    exact all s.hist fun p hp=>hp
   have hun:=zmm hun;have htop:∀y∈zaz o.op,∀u,evO s.t y=some u->∀a∈zbA u,∃o'∈zdd T (zaz o.op),∃z,e o'=some z/\tg z=some a:=by
    have gen:∀{l:List Operand},zgI T l=true->(∀y∈l,zaU c T y fun _=>True)->∀y∈l,∀u,evO s.t y=some u->∀a∈zbA u,∃o'∈zdd T l,∃z,e o'=some z/\tg z=some a:=by
     intro l
     induction l with
     |nil=>intro _ _ y hy;cases hy
     |cons y0 l ih=>
      intro hf hkn y hy u hu a ha;have up:(∃o'∈zdd T l,∃z,e o'=some z/\tg z=some a)->∃o'∈zdd T (y0::l),∃z,e o'=some z/\tg z=some a:=fun⟨o',q1,q2⟩=>⟨o',by cases y0<;>unfold zdd<;>first |exact q1 |exact List.mem_append.2 (.inr q1),q2⟩
      have htl:zgI T l=true:=by
       unfold zgI at hf;split at hf
       ·rename_i hh;cases hh
       ·rename_i hh;cases hh;split at hf<;>first |exact hf |cases hf
       ·cases hf
       ·rename_i hh;cases hh;exact hf
      rcases List.mem_cons.1 hy with rfl |hy
      ·cases y with
       |tmp d=>
        obtain⟨hjj,_⟩:=zcN (hkn _ (ya5 ..))
        change zdR T d≠.junk at hjj
        have hrep:Rep R e (zdR T d) u:=by
         rw[zcC,ya8]at hjj ⊢;cases hT:T[d]? with
         |none=>rw[hT]at hjj;exact absurd rfl hjj
         |some w=>
          rw[hT]at hjj;rcases h.ts.get d w hT with rfl |⟨z,h3,h4⟩
          ·exact absurd rfl hjj
          ·have:s.t.get d=some u:=hu;rw[h3]at this;cases this;exact h4
        have hown:zqk (zdR T d)=true:=by
         unfold zgI at hf;cases hgs:zdR T d<;>rw[hgs]at hf<;>first |rfl |(cases hf;done)
        obtain⟨o',q1,q2⟩:=zno hrep hown a ha;exact⟨o',by unfold zdd;exact List.mem_append.2 (.inl q1),q2⟩
       |const w=>
        exfalso;have h0:ofV w=some u:=hu;have:Rep R e (zrG u) u:=zdB u;have hjj:=(zcN (hkn _ (ya5 ..))).1;have hee:evD c T (.const w)=zrG u:=by
         show(match ofV w with |some x=>zrG x |none=>.junk)=_;rw[h0]
        rw[hee]at hjj;cases u with
        |tup l=>simp[zbA]at ha
        |agg l=>simp[zbA]at ha
        |fn _ _ _=>simp[zbA]at ha
        |ptr _ _=>exact hjj rfl
        |slc _ _ _ _=>exact hjj rfl
        |opn _ _ _=>exact hjj rfl
        |map _=>exact hjj rfl
        |_=>simp[zbA]at ha
       |global g=>unfold zgI at hf;cases hf
       |func f=>cases hu;simp[zbA]at ha
      ·exact up (ih htl (fun z hz=>hkn z (ya4 _ hz)) y hy u hu a ha)
    exact gen hfz hkn
   have all:∀hs,(∀p∈hs,p∈s.hist)->zgE P o.op B s.t x s.as hs=true:=by
    intro hs
    induction hs with
    |nil=>intro _;rfl
    |cons p r ih=>
     intro hsub;obtain⟨w,cl,mw⟩:=p;unfold zgE;split
     ·rfl
     ·obtain⟨f1,f2,_,f4,f5⟩:=h.hf (w,cl,mw) (hsub _ (ya5 ..));have hsame:zjX P o.op s.t x (zaV (zaq B cl) s.as mw)=true:=by
       refine zj5 ?_ hcv;rw[<- h1];refine zfo hi hno fun y hy u hu a hta=>?_
       obtain⟨o',k1,z,k2,k3⟩:=htop y hy u hu a hta;obtain⟨k4,k5⟩:=hun o' k1;rw[h.far _ (h.nt o' z a k4 k5 k2 k3)];exact f5 o' z a k4 k5 k2 k3
      rw[hsame];exact ih fun p hp=>hsub p (ya4 _ hp)
   exact all s.hist fun p hp=>hp
 have hdraw:∀(ih:Task->Res) (k':DS->DRes) (kp:CV->Mem->DS->DRes),zc1 P ih o i B s k' kp (zaV (zaq B s.cl) s.as s.cur) (za4 P (zaV (zaq B s.cl) s.as s.cur).nxt o.op (zaV (zaq B s.cl) s.as s.cur) s.t)=k' ⟨t2,s.cur,s.cl,s.hist,s.as,(i,o,B,x)::s.ns⟩:=fun ih k' kp=>by
  rw[show za4 P (zaV (zaq B s.cl) s.as s.cur).nxt o.op (zaV (zaq B s.cl) s.as s.cur) s.t=.val x from hpart];show zbD P o i B s k' x=_;unfold zbD;simp only[hp,hhist];rw[g3]
 have hT:=h.temps g1 htf hn g4 hl;have core:∀L us,(∀l,L=some l->us=zaz o.op/\l=zdd T (zaz o.op)/\(zwv n0 D.ws (zdd T (zaz o.op))&&zq3 o)=true)->k ⟨D.ws,D.ps,(i,L,us)::D.fs,tf',D.o0⟩ T2 ->
   ∃T' D' s',RI P G T0 N n0 (i+1) D' R e T' O s'/\k D' T'/\(∀(ih:Task->Res) (k':DS->DRes) (kp:CV->Mem->DS->DRes),zc1 P ih o i B s k' kp (zaV (zaq B s.cl) s.as s.cur) (za4 P (zaV (zaq B s.cl) s.as s.cur).nxt o.op (zaV (zaq B s.cl) s.as s.cur) s.t)=k' s')/\∃x,za4 P (zaV (zaq B s.cl) s.as s.cur).nxt o.op (zaV (zaq B s.cl) s.as s.cur) s.t=.val x:=by
  intro L us hL hkk;refine⟨T2,⟨D.ws,D.ps,(i,L,us)::D.fs,tf',D.o0⟩,⟨t2,s.cur,s.cl,s.hist,s.as,(i,o,B,x)::s.ns⟩,⟨hT.ts,hT.ms,hT.own,hT.nl,hT.tag,hT.nd,hT.le,hT.nx,hT.fr,hT.cl,hT.hf,hT.nt,hT.ps,fun q hq=>?_,hT.rb,hT.hr,htf⟩,hkk,hdraw,x,hpart⟩;rcases List.mem_cons.1 hq with rfl |hq
  ·refine⟨_,ya5 ..,rfl,fun l hl'=>?_⟩;obtain⟨rfl,rfl,hun⟩:=hL l hl';rw[ya2]at hun;obtain⟨hun,hse⟩:=hun;refine⟨rfl,zmm hun,fun m' ha hm'=>?_,hcv⟩;have:=hval m' ha hm';rw[<- this];refine zbj fun w hw=>?_
   by_cases hd:o.dst=some w
   ·exfalso;unfold zq3 at hse;rw[hd]at hse;have:=List.all_eq_true.1 hse _ hw;unfold zoC at this;simp only[Nat.beq_refl]at this;cases this
   ·exact g4 w hd
  ·obtain⟨f,f1,f2⟩:=hT.ns q hq;exact⟨f,ya4 _ f1,f2⟩
 split at g2
 ·rename_i hun;exact core _ _ (fun l hl'=>by cases hl';exact⟨rfl,rfl,hun⟩) g2
 ·exact core _ _ (fun l hl'=>by cases hl') g2
end
end Go.Cx
namespace Go.Cx
open Go
section
variable{P:Program}{X:Ext}{c:DCfg}{G:Ctx}{R:RO}{e:DEnv}{m:Mem}{t:Tmps}{K:DK}{T:List SV}{O:List SObj}
theorem zpx{ty:TypeId}{p v:SV}{x y:CV}(hM:MSat G R e O m)(hT:TSat R e T t)(hp:Rep R e p x)(hv:Rep R e v y)(h:zll P ty T O p v fun T O=>K (.tup []) T O):∃m',zaL P m ty x y=.mem zam m'/\∃R' e' T' O',R.le R'/\(∀o u,e o=some (PM.c u)->e' o=some (PM.c u))/\TSat R' e' T' t/\MSat G R' e' O' m'/\K (.tup []) T' O'/\∀o y,e' o=some y->e o=some y:=by
 unfold zll at h;split at h
 ·rename_i inf hi;split at h
  ·rename_i vs hvs;split at h
   ·rename_i hb;simp only[ya2]at hb;obtain⟨hb1,hb2⟩:=hb;obtain⟨ys,hy1,hy2⟩:=hv.cells hvs;rw[zat,hy2.length]at hb1;have hall:=hy2.all hb2;split at h
    ·rename_i o off;split at h
     ·rename_i ty' cs ho;split at h
      ·rename_i hl;rw[zfR,zav]at h;obtain⟨t',xs,h1,h2,h3⟩:=hM.cells (zay ho (by simp));have hl':=ya9 hl;rw[zat,zat,hy2.length,h3.length]at hl';cases hp with
       |ptr h4=>
        rw[h1]at h4;cases h4;have hput:=Put.mk' m t' (.cells ty' (zax xs off ys)) (fun o' ho'=>by rw[h2]at ho';cases ho';rfl);refine⟨_,?_,R,e,T,_,RO.le.refl R,fun _ _ h=>h,hT,hM.put h1 hput (h3.wr hy2),h,fun _ _ h=>h⟩;unfold zaL;simp only[hi,hy1,hb1,zmg h2 hall hl']
      ·exact h.elim
     ·exact h.elim
    ·obtain⟨R1,e1,l,T1,O1,q1,q2,q3,q4,q5,h,qs,_⟩:=zh3 9 (RepL.cons hp hy2) hT hM h;split at h
     ·rename_i o sz i off vs';split at h
      ·rename_i ty' sz' n el ho;split at h
       ·rename_i hbb;simp only[ya2,zdG,decide_eq_true_eq]at hbb;obtain⟨rfl,himm,_⟩:=hbb;obtain⟨⟨hin,hoff⟩,h⟩:=h;rw[zfR,zav]at h;cases q3 with
        |cons hp1 hvs1=>
         obtain⟨z,hz,hor⟩:=q5.list ho;obtain⟨tt,co,xs,g1,g2,g3,g4,g5,g6,g7,g8⟩:=zjb hor hin;have hx:x=.ptr tt (i*sz+off):=by
          cases hp1 with
          |eptS h8=>rw[hz]at h8;rcases g2 with g2 |⟨c,g2⟩<;>(subst g2;cases h8);rfl
          |eptO h8=>rw[hz]at h8;rcases g2 with g2 |⟨c,g2⟩<;>(subst g2;cases h8);rfl
         subst hx;rw[zat,hvs1.length]at hoff;have hrep:∀j,j<n->RepL R1 noE (zrl i (wrS (el i) off vs') el j) (seg (zax xs (i*sz+off) ys) (j*sz) sz):=by
          intro j hj;unfold zrl;split
          ·rename_i hji;subst hji;rw[zud hoff g6];exact g8.wr (hvs1.imm himm)
          ·rename_i hji;have hfar:=zqF (sz:=sz) hji;rw[ziQ (by omega) (by omega)];obtain⟨_,_,xs',_,_,g3',g4',_,_,_,g8'⟩:=zjb hor hj;rename_i tt' co' g1' _ _ _ _;rw[g1]at g1';cases g1';rw[g3]at g3';cases g3';rw[g4]at g4';cases g4';exact g8'
         have hlen:i*sz+off+ys.length<=xs.length:=by omega
         rcases hor with⟨_,rfl⟩ |⟨t',c,xs',rfl,h0,h1,h2,h3,ha,h4⟩ |⟨t',xs',rfl,h2,h3,ha,h4⟩
         ·omega
         ·obtain⟨rfl,_⟩:=zeA g1;rw[h2]at g3;cases g3;cases g4;have hput:=Put.mk' m tt (.cells ty' (zax xs (i*sz+off) ys)) (fun o' ho'=>by rw[h2]at ho';cases ho';rfl);refine⟨_,?_,R1,e1,T1,_,q1,q2,q4,q5.putL hz (zcD h0) hput (by simp) (OR.mkS h0 h1 hput.self (by rw[zaK];exact h3) (ze1 ha hall) hrep),h,qs⟩;unfold zaL;simp only[hi,hy1,hb1,zmg h2 hall hlen]
         ·cases g1;rw[h2]at g3;cases g3;cases g4;have hput:=Put.mk' m tt (.opn ty' sz (zax xs (i*sz+off) ys)) (fun o' ho'=>by rw[h2]at ho';cases ho';rfl);refine⟨_,?_,R1,e1,T1,_,q1,q2,q4,q5.putL hz rfl hput (by simp) (OR.mkO hput.self (by rw[zaK];exact h3) (ze1 ha hall) hrep),h,qs⟩;unfold zaL;simp only[hi,hy1,hb1,zmX h2 hall hlen]
       ·exact h.elim
      ·exact h.elim
     ·exact h.elim
    ·exact h.elim
   ·exact h.elim
  ·exact h.elim
 ·exact h.elim
theorem zu0{op:Op}(hg:GlbOk c.glb R)(hM:MSat G R e O m)(hT:TSat R e T t)(h:dop P X c op T O K):∃x m',OpRes P X op m t x m'/\∃R' e' v T' O',R.le R'/\(∀o u,e o=some (PM.c u)->e' o=some (PM.c u))/\Rep R' e' v x/\TSat R' e' T' t/\MSat G R' e' O' m'/\K v T' O'/\(zvU op=true->∀o y,e' o=some y->e o=some y):=by
 cases hs:zvU op with
 |false=>
  obtain⟨x,m',h1,⟨R',e',v,T',O',q1,q2,q3,q4,q5,q6⟩⟩:=zrE hg hM hT h;exact⟨x,m',h1,R',e',v,T',O',q1,q2,q3,q4,q5,q6,fun h=>by cases h⟩
 |true=>
  cases op<;>(try (cases hs;done))
  rename_i ty a x;simp only[dop]at h;obtain⟨p,y,hp,hrp,hk⟩:=zab hg hT h;obtain⟨v,z,hv,hrv,hk⟩:=zab hg hT hk;obtain⟨m',h1,R',e',T',O',q1,q2,q3,q4,q5,q6⟩:=zpx hM hT hrp hrv hk;exact⟨zam,m',.mem (zce (f:=fun m' a x=>zaL P m' ty a x) rfl hp hv h1),R',e',.tup [],T',O',q1,q2,.tup .nil,q3,q4,q5,fun _=>q6⟩
end
section
variable{P:Program}{X:Ext}{c:DCfg}{G:Ctx}{T0 N n0 i:Nat}{D:DRg}{R R':RO}{e e':DEnv}{T T':List SV}{O O':List SObj}{s:DS}{gs:List Nat}{o:Oper}{b:List Bool}{B:Nat}
theorem zm4{op:Op}(h:zev op=true){m:Mem}{t:Tmps}{x:CV}:cop P op m t≠.val x:=by
 intro hc;cases op<;>(try (simp[zev]at h;done))
 rename_i cl;obtain⟨callee,args,ats⟩:=cl;cases callee with
 |invoke r n=>simp[zev]at h
 |builtin b=>simp[zev]at h
 |value f=>
  have h1:zbn P m.nxt ⟨.value f,args,ats⟩ m t=.val x:=hc;unfold zbn at h1;simp only at h1;split at h1
  ·cases h1
  ·have h2:zeh f m t _=.val x:=h1;unfold zeh at h2;split at h2
   ·unfold zpz at h2;split at h2<;>cases h2
   ·cases h2
theorem zpJ(h:RI P G T0 N n0 i D R e T O s)(hg:GlbOk c.glb R)(hg0:GlbOk c.glb G.R0)(hB:znF b B)(hlen:zcd b<=i)(hno:zb8 P o.op=false)(hp:zcQ o.op=false)(hnn:isN o.op=false)(hdf:zqM o.op=true)(hn:znG o.dst D.fs=true)(hl:T0+(i+1)<=N)
  {k:DRg->List SV->List SObj->Prop} (hk:zeH P X c gs o i b D T O k):
  ∃R' e' T' O' D' s',RI P G T0 N n0 (i+1) D' R' e' T' O' s'/\R.le R'/\(∀o u,e o=some (PM.c u)->e' o=some (PM.c u))/\k D' T' O' /\
   Evt P X fun ih=>∀(k':DS->DRes) (kp:CV->Mem->DS->DRes),zc1 P ih o i B s k' kp (zaV (zaq B s.cl) s.as s.cur) (za4 P (zaV (zaq B s.cl) s.as s.cur).nxt o.op (zaV (zaq B s.cl) s.as s.cur) s.t)=k' s':=by
 obtain⟨L,hk⟩:=ziN hk;unfold zhK at hk;rw[zf7]at hk;split at hk
 ·exact hk.elim
 rename_i hchk;simp only[ya2]at hchk;obtain⟨hps,hws,hfs⟩:=hchk;rw[zaf (zek L zah),zdf]at hk;have hws:=zhi hws;have hH:=h.hid hB hps;have hMh:=h.ms.hide hH;obtain⟨x,m',hres,R1,e1,v,T2,O2,p1,p2,p3,p4,p5,p6,pq⟩:=zu0 hg hMh (h.ts.rs fun i x=>DEnv.only_of) hk;obtain⟨tf',htf,p6⟩:=zeE hg0 h.ms0 p3 (fun _ ha=>(ztq hp hnn ha).elim) p6;obtain⟨p6,_⟩:=zfZ p6;obtain⟨p6,hlenO,hdead⟩:=zf4 p6;rw[zqb,zaf (zvN L)]at p6;have hdead':∀j,j<O.length->zaH j L=false->O2[j]? = some .dead:=fun j hj hm=>hdead j hj (by rw[Nat.zero_add];exact hm)
 have hclB:∀j,zak s.cl j=true->zak B j=true:=fun j hj=>by
  obtain⟨_,w,h1,h2⟩:=h.cl j hj;rw[hB j];exact(hws w h1).2 j h2
 have hBlt:∀j,zak B j=true->j<i:=fun j hj=>by
  rw[hB j]at hj;have:=zsu hj;omega
 have hchain:∀p∈s.hist,zak B p.1=true:=fun p hp=>by
  obtain⟨_,_,⟨w,h1,h2⟩,_⟩:=h.hf p hp;rw[hB,<- h2];exact(hws w h1).1
 have hnxM:(zcJ s).nxt=s.cur.nxt:=h.nxt _;have hnxP:(zaV (zaq B s.cl) s.as s.cur).nxt=s.cur.nxt:=h.nxt _;have shown:∀M2:Mem,M2.nxt=m'.nxt->(∀a,¬(∃p∈s.as,p.2.1=a/\zak s.cl p.1=false/\zak B p.1=false)->M2.get a=m'.get a)->(∀a,(∃p∈s.as,p.2.1=a/\zak s.cl p.1=false/\zak B p.1=false)->M2.get a=(zcJ s).get a)->_:=fun M2 k1 k2 k3=>h.ms.show hH p1 p2 pq p5 hlenO hdead' k1 k2 k3
 have hmnx:(zaV (zaq B s.cl) s.as s.cur).nxt<=m'.nxt:=p5.fr.nxt;have hfree:∀j,T0+j<N->zak B j=false->m'.get (T0+j)=none:=fun j hj hb=>by
  have hc:zak s.cl j=false:=by
   cases hh:zak s.cl j with
   |false=>rfl
   |true=>rw[hclB j hh]at hb;cases hb
  have hpn:(zaV (zaq B s.cl) s.as s.cur).get (T0+j)=none:=by
   rw[zbx fun p hp hSp hh=>?_]
   ·exact h.fr j hj hc
   ·have:=(h.tag p hp).1;have hj':p.1=j:=by omega
    rw[hj']at hSp;simp[zaq,hb]at hSp
  have hlt:T0+j<(zaV (zaq B s.cl) s.as s.cur).nxt:=by rw[hnxP];have:=h.nx;omega
  rw[p5.fr.get _ hlt fun hs=>?_]
  ·exact hpn
  ·obtain⟨i',y,h1,h2,h3⟩:=zap hs;obtain⟨z,hz,_,_⟩:=hMh.lt (DEnv.only_of (memN_iff.2 h1) h2) h3;rw[hpn]at hz;cases hz
 have parts:∀(M2:Mem) (t4:Tmps) (T4:List SV) (s2:DS) (e2:DEnv),e2=zf1 e e1 L O.length->zcJ s2=M2->s2.t=t4->s2.as=s.as ->
   (∀i x a,e i=some x->tg x=some a->zaH i L=false->M2.get a=(zcJ s).get a)->MSat G R1 e2 (zdE (zih (zvU o.op) L O O2) L 0 O O2) M2->TSat R1 e2 T4 t4->(∀u,o.dst≠some u->t4.get u=s.t.get u) ->
   N<=s2.cur.nxt->(∀j,T0+j<N->zak s2.cl j=false->s2.cur.get (T0+j)=none)->(∀j,zak s2.cl j=true->zak B j=true) ->
   (∀p∈s2.hist,p∈s.hist\/p=(i,s.cl,s.cur)) ->
   (∀p∈s.as,zak s2.cl p.1=false->∃q∈psW b L o.op D.ps,q.1=p.1/\∀o',q.2=some o'->o'<O.length/\o'∉L/\(zbt O o'=.dead\/∃x,e o'=some x/\tg x=some (T0+p.1))) ->
   (∀q∈s2.ns,q∈s.ns\/q.1=i)->Old0 G n0 D.ws e D.o0 tf' (zcJ s) t4 ->
   RI P G T0 N n0 (i+1) ⟨(i,L,b)::D.ws,psW b L o.op D.ps,(i,none,[])::zmQ L D.fs,tf'.map (tf2 L),o2 L 0 D.o0⟩ R1 e2 T4 (zdE (zih (zvU o.op) L O O2) L 0 O O2) s2:=by
  intro M2 t4 T4 s2 e2 he2 hfull ht4 has hkeep hMS hTS htt hcn hcf hcl hhist hpss hnss htf4;have hun:∀{o'},(∀w∈(i,L,b)::D.ws,o'∉w.2.1)->zaH o' L=false/\∀w∈D.ws,o'∉w.2.1:=fun h1=>⟨memN_false.2 (h1 _ (ya5 ..)),fun w hw=>h1 w (ya4 _ hw)⟩
  have hback:∀{o'},o'<n0->zaH o' L=false->e2 o'=e o':=fun{o'} h1 h2=>by
   rw[he2,zbe (by have:=h.nl;omega) h2]
  refine⟨by rw[ht4];exact hTS,by rw[hfull];exact hMS,h.own,by rw[zf9 hlenO];have:=h.nl;omega,fun p hp=>?_,by rw[has];exact h.nd,hl,hcn,hcf,fun j hj=>?_,fun p hp=>?_,fun o' x' a ho hu hx ha=>?_,fun p hp hc=>?_,fun q hq=>?_,h.rb,fun p hp a z hz=>?_,by rw[ht4,hfull];exact htf4.kill hMS (fun o' h1 h2=>hback h1 h2) (fun o' x' a hx ha hl=>hkeep o' x' a hx ha hl) rfl⟩
  ·rw[has]at hp;exact⟨(h.tag p hp).1,Nat.lt_succ_of_lt (h.tag p hp).2⟩
  ·have:=hcl j hj;exact⟨Nat.lt_succ_of_lt (hBlt j this),(i,L,b),ya5 ..,by rw[<- hB];exact this⟩
  ·rcases hhist p hp with hp |rfl
   ·obtain⟨f1,f2,⟨w,f3,f3'⟩,f4,f5⟩:=h.hf p hp;refine⟨f1,f2,⟨w,ya4 _ f3,f3'⟩,f4,fun o' x' a ho hu hx ha=>?_⟩;obtain⟨hu1,hu2⟩:=hun hu;rw[hback ho hu1]at hx;rw[hfull,hkeep o' x' a hx ha hu1];exact f5 o' x' a ho hu2 hx ha
   ·refine⟨h.nx,h.fr,⟨_,ya5 ..,rfl⟩,fun a ha=>?_,fun o' x' a ho hu hx ha=>?_⟩
    ·have:=h.ms.sk.wf a (by rw[hnxM];exact ha);unfold zcJ at this;rw[zbx fun p hp _ hh=>by
      have:=h.tagLt p hp;have:=h.nx;have ha':s.cur.nxt<=a:=ha;omega]at this
     exact this
    ·obtain⟨hu1,hu2⟩:=hun hu;rw[hback ho hu1]at hx;rw[hfull,hkeep o' x' a hx ha hu1];unfold zcJ;rw[h.far _ (h.nt o' x' a ho hu2 hx ha)]
  ·obtain⟨hu1,hu2⟩:=hun hu;rw[hback ho hu1]at hx;exact h.nt o' x' a ho hu2 hx ha
  ·rw[has]at hp;obtain⟨q,f1,f2,f3⟩:=hpss p hp hc;refine⟨q,f1,f2,fun o' ho=>?_⟩;obtain⟨g1,g2,g3⟩:=f3 o' ho;refine⟨by rw[zf9 hlenO];omega,?_⟩;have hm:=memN_false.2 g2;rcases g3 with g3 |⟨x',g3,g4⟩
   ·left;rw[zdA,ya8,zc7 hlenO,if_pos g1,Nat.zero_add,if_neg (by rw[hm];simp)];rw[zdA,ya8]at g3;cases hO:O[o']? with
    |none=>rfl
    |some so=>rw[hO]at g3;simp at g3;subst g3;rfl
   ·exact .inr ⟨x',by rw[he2,zbe g1 hm];exact g3,g4⟩
  ·rcases hnss q hq with hq |hqi
   ·obtain⟨f,f1,f2,f3⟩:=h.ns q hq;obtain⟨f',f4,f5,f6⟩:=ziY (L:=L) f f1;refine⟨f',ya4 _ f4,f5.trans f2,fun l hl'=>?_⟩;obtain⟨hff,hdis⟩:=f6 l hl';subst hff;obtain⟨k1,k2,k3,k4⟩:=f3 l hl';refine⟨k1,fun o' ho=>⟨(k2 o' ho).1,fun w hw=>?_⟩,fun m2 ha hm2=>?_,k4⟩
    ·rcases List.mem_cons.1 hw with rfl |hw
     ·exact hdis o' ho
     ·exact(k2 o' ho).2 w hw
    ·have hres:=k3 m2 (fun o' ho x' a hx hta=>?_) ⟨hm2.wf,fun a z hz=>hm2.ro a z (p1 a z hz)⟩
     ·rw[<- hres,ht4];refine zbj fun w hw=>htt w fun hd=>?_
      rw[hd]at hn;exact zgd hn f' f1 l hl' (by rw[k1];exact hw)
     ·have hm:=memN_false.2 (hdis o' ho);have:=ha o' ho x' a (by rw[hback (k2 o' ho).1 hm];exact hx) hta;rw[this,hfull];exact hkeep o' x' a hx hta hm
   ·exact⟨_,ya5 ..,hqi.symm,fun l hl'=>by cases hl'⟩
  ·rcases hhist p hp with hp |rfl
   ·exact h.hr p hp a z hz
   ·have h1:=h.ms.sk.ro a z (h.ms.le a z hz);unfold zcJ at h1;rw[h.far _ (h.rb a z hz)]at h1;exact h1
 have written:(Evt P X fun ih=>∀(k':DS->DRes) (kp:CV->Mem->DS->DRes),zc1 P ih o i B s k' kp (zaV (zaq B s.cl) s.as s.cur) (za4 P (zaV (zaq B s.cl) s.as s.cur).nxt o.op (zaV (zaq B s.cl) s.as s.cur) s.t)=zpq P i B o.dst s k' (some (x,m'))) ->
   ∃R' e' T' O' D' s',RI P G T0 N n0 (i+1) D' R' e' T' O' s'/\R.le R'/\(∀o u,e o=some (PM.c u)->e' o=some (PM.c u))/\k D' T' O' /\
   Evt P X fun ih=>∀(k':DS->DRes) (kp:CV->Mem->DS->DRes),zc1 P ih o i B s k' kp (zaV (zaq B s.cl) s.as s.cur) (za4 P (zaV (zaq B s.cl) s.as s.cur).nxt o.op (zaV (zaq B s.cl) s.as s.cur) s.t)=k' s':=by
  intro hev;have htl:∀p∈s.as,p.2.1<m'.nxt:=fun p hp=>by
   have:=h.tagLt p hp;have:=h.nx;rw[hnxP]at hmnx;omega
  have k1:(zaV (fun j => !zak B j) s.as m').nxt=m'.nxt:=zkp htl;have k2:∀a,¬(∃p∈s.as,p.2.1=a/\zak s.cl p.1=false/\zak B p.1=false)->(zaV (fun j => !zak B j) s.as m').get a=m'.get a:=fun a ha=>zbx fun p hp hS hh=>ha ⟨p,hp,hh,by
   have hb:zak B p.1=false:=by simpa using hS
   refine⟨?_,hb⟩;cases hc:zak s.cl p.1 with
   |false=>rfl
   |true=>rw[hclB _ hc]at hb;cases hb⟩
  have k3:∀a,(∃p∈s.as,p.2.1=a/\zak s.cl p.1=false/\zak B p.1=false)->(zaV (fun j => !zak B j) s.as m').get a=(zcJ s).get a:=fun a ⟨p,hp,ha,hc,hb⟩=>by
   subst ha;unfold zcJ;rw[zhe h.dup hp (by simp[hb]),zhe h.dup hp (by simp[hc])]
  obtain⟨s1,s2,s3,s4,s5⟩:=shown _ k1 k2 k3;have hTS:=h.ts.show p4 p1 s2 s3;obtain⟨T4,t4,g1,g2,g3,g4,g5⟩:=zcb p6 hTS (p3.mono (RO.le.refl _) s3);rw[<- g5]at htf;refine⟨R1,_,T4,_,_,⟨t4,m',B,(i,s.cl,s.cur)::s.hist,s.as,s.ns⟩,parts _ t4 T4 _ _ rfl rfl rfl rfl s4 s5 g1 g4 (by rw[hnxP]at hmnx;exact Nat.le_trans h.nx hmnx) hfree (fun j hj=>hj) (fun p hp=>?_) (fun p hp hc'=>?_) (fun q hq=>.inl hq) htf,p1,s1,g2,hev.mono fun ih hq k' kp=>?_⟩
  ·rcases List.mem_cons.1 hp with rfl |hp
   ·exact .inr rfl
   ·exact .inl hp
  ·have hc:zak s.cl p.1=false:=by
    cases hh:zak s.cl p.1 with
    |false=>rfl
    |true=>
     have h1:=hclB _ hh;rw[show zak B p.1=false from hc']at h1;cases h1
   obtain⟨q,f1,f2,f3⟩:=h.ps p hp hc;have hbq:zfG b q.1=false:=by rw[f2,<- hB];exact hc'
   obtain⟨oq,f4,f5,f6⟩:=zii hps q f1 hbq;unfold psW;split
   ·exact⟨q,zl8 q f1 hbq,f2,fun o' ho=>by
     rw[f4]at ho;cases ho;obtain⟨f7,f8⟩:=f3 _ f4;exact⟨f7,f6,f8⟩⟩
   ·obtain⟨q',f7,f8,f9⟩:=zf5 (L:=L) q f1;exact⟨q',f7,f8.trans f2,fun o' ho=>by
     obtain⟨f10,f11⟩:=f9 o' ho;obtain⟨f12,f13⟩:=f3 o' f10;exact⟨f12,f11,f13⟩⟩
  ·rw[hq k' kp];have hch:zhL B s.hist=true:=by
    cases hhs:s.hist with
    |nil=>rfl
    |cons p r=>exact hchain p (by rw[hhs];exact ya5 ..)
   have hag:∀ns,(∀q∈ns,q∈s.ns)->zgk P s.t B B m' s.as ns=true:=by
    intro ns
    induction ns with
    |nil=>intro _;rfl
    |cons q r ih=>
     intro hsub;obtain⟨qi,qo,B',qv⟩:=q;unfold zgk;split
     ·exact ih fun q hq=>hsub q (ya4 _ hq)
     ·rename_i hqb;obtain⟨f,f1,f2,f3⟩:=h.ns _ (hsub _ (ya5 ..));obtain⟨l,f4,f5⟩:=zlG hfs f f1 (by rw[f2,<- hB];exact hqb);obtain⟨g1',g2',g3',g4'⟩:=f3 l f4;have hsame:zjX P qo.op s.t qv (zaV (zaq B' B) s.as m')=true:=by
       refine zj5 (g3' _ (fun o' ho x' a hx hta=>?_) ⟨fun a ha=>?_,fun a z hz=>?_⟩) g4'
       ·have hlt:=h.nt o' x' a (g2' o' ho).1 (g2' o' ho).2 hx hta;rw[h.far _ hlt,<- s4 o' x' a hx hta (memN_false.2 (f5 o' ho)),h.far _ hlt]
       ·rw[zkp htl]at ha;rw[zbx fun p hp _ hh=>by have:=htl p hp;omega];exact p5.sk.wf a ha
       ·have hz1:=p5.sk.ro a z (p1 a z hz);rw[zbx fun p hp hS hh=>?_]
        ·exact hz1
        ·have hb:zak B p.1=false:=by simp[zaq]at hS;exact hS.2
         have hc:zak s.cl p.1=false:=by
          cases hc:zak s.cl p.1 with
          |false=>rfl
          |true=>rw[hclB _ hc]at hb;cases hb
         have:=(hH.out a ⟨p,hp,hh,hc,hb⟩).1;rw[this]at hz;cases hz
      rw[hsame];exact ih fun q hq=>hsub q (ya4 _ hq)
   unfold zpq;simp only[hch,hag s.ns fun q hq=>hq];rw[g3]
 cases hres with
 |val hc=>
  have hnc:zev o.op=false:=by
   cases hh:zev o.op with
   |false=>rfl
   |true=>exact absurd hc (zm4 hh)
  obtain⟨s1,s2,s3,s4,s5⟩:=shown (zcJ s) (by rw[hnxM,hnxP]) (fun a ha=>(hH.same a ha).symm) (fun a _=>rfl);have hTS:=h.ts.show p4 p1 s2 s3;obtain⟨T4,t4,g1,g2,g3,g4,g5⟩:=zcb p6 hTS (p3.mono (RO.le.refl _) s3);rw[<- g5]at htf;have hhist:zgE P o.op B s.t x s.as s.hist=true:=by
   cases hhs:s.hist with
   |nil=>rfl
   |cons p r=>
    obtain⟨w,cl,mw⟩:=p;unfold zgE;rw[show zak B w=true from hchain (w,cl,mw) (by rw[hhs];exact ya5 ..)]
  refine⟨R1,_,T4,_,_,⟨t4,s.cur,s.cl,s.hist,s.as,(i,o,B,x)::s.ns⟩,parts (zcJ s) t4 T4 _ _ rfl rfl rfl rfl s4 s5 g1 g4 h.nx h.fr hclB (fun p hp=>.inl hp) (fun p hp hc'=>?_) (fun q hq=>?_) htf,p1,s1,g2,.all fun ih k' kp=>?_⟩
  ·obtain⟨q,f1,f2,f3⟩:=h.ps p hp hc';unfold psW;rw[hnc];obtain⟨q',f4,f5,f6⟩:=zf5 (L:=L) q f1;exact⟨q',f4,f5.trans f2,fun o' ho=>by
    obtain⟨f7,f8⟩:=f6 o' ho;obtain⟨f9,f10⟩:=f3 o' f7;exact⟨f9,f8,f10⟩⟩
  ·rcases List.mem_cons.1 hq with rfl |hq
   ·exact .inr rfl
   ·exact .inl hq
  ·rw[show za4 P (zaV (zaq B s.cl) s.as s.cur).nxt o.op (zaV (zaq B s.cl) s.as s.cur) s.t=.val x from hc];show zbD P o i B s k' x=_;unfold zbD;simp only[hp,hhist];rw[g3]
 |mem hc=>exact written (.all fun ih k' kp=>by
   rw[show za4 P (zaV (zaq B s.cl) s.as s.cur).nxt o.op (zaV (zaq B s.cl) s.as s.cur) s.t=.mem x m' from hc];rfl)
 |call hc hev=>exact written (hev.mono fun ih he k' kp=>by
   rw[show za4 P (zaV (zaq B s.cl) s.as s.cur).nxt o.op (zaV (zaq B s.cl) s.as s.cur) s.t=.call _ _ from hc];show zg5 P i B o.dst s k' kp (ih (.call _ _ _))=_;rw[he];rfl)
def isJ:SV->Bool
 |.junk=>true
 |_=>false
theorem ztR:∀l:List SV,(l.map fun _=>SV.junk).all isJ=true
 |[]=>rfl
 |_::r=>by rw[List.map_cons,List.all_cons,ztR r];rfl
theorem MSat.unbase0{m:Mem}{O':List SObj}{m':Mem}{R':RO}{e':DEnv}(h:MSat G R e O m)(hR:R.le R')(h':MSat ⟨m,zac e (List.range O.length),R⟩ R' e' O' m'):MSat G R' e' O' m':=by
 have hown:∀t,(⟨m,zac e (List.range O.length),R⟩:Ctx).own t->G.own t:=fun t ht=>by
  rcases ht with ht |ht
  ·have:m.nxt<=t:=ht;exact .inl (by have:=h.fr.nxt;omega)
  ·obtain⟨i,x,_,h1,h3⟩:=zap ht;exact(h.own i x t h1 h3).1
 refine⟨Fr.call h'.fr (fun a ha=>?_) h.fr,h'.sk,h.le.trans hR,fun t o hh=>?_,fun o x t hx ht=>⟨hown t (h'.own o x t hx ht).1,(h'.own o x t hx ht).2⟩,h'.inj,h'.ob,h'.dom⟩
 ·obtain⟨i,x,_,h1,h3⟩:=zap ha;exact(h.own i x a h1 h3).1
 ·rcases h'.rn t o hh with h1 |h1
  ·exact h.rn t o h1
  ·exact .inr (hown t h1)
theorem zsL{op:Op}{t:Tmps}{yes:FuncId->List SV->Prop}{no:Prop}(hg:GlbOk c.glb R)(hT:TSat R e T t)(h:zu1 c op T yes no):(∃f args xs,RepL R e args xs/\(∀(T0:Nat) (m:Mem),za4 P T0 op m t=.call f xs)/\yes f args)\/no:=by
 unfold zu1 at h;split at h
 ·rename_i cl;split at h
  ·rename_i f hf;obtain⟨args,xs,hargs,hrargs,h⟩:=zbz hg hT h;obtain⟨u,y,hu,hru,h⟩:=zab hg hT h;split at h
   ·rename_i fi a bb;split at h
    ·cases hru with
     | @fn _ _ _ _ ya yb hra' hrb=>
      refine .inl ⟨fi,_,_,RepL.app (RepL.app hra' hrargs) hrb,fun T0 m=>?_,h⟩;show zbn P T0 cl m t=_;unfold zbn;simp only[hargs];rw[hf];show zeh f m t xs=_;unfold zeh;simp only[hu];rfl
    ·exact .inr h
   ·exact .inr h
  ·exact .inr h
 ·exact .inr h
theorem RI.free(h:RI P G T0 N n0 i D R e T O s):zbp N s.as ((0,s.cl,s.cur)::s.hist)=true:=by
 have one:∀{cl:Nat} {m:Mem},(∀j,T0+j<N->zak cl j=false->m.get (T0+j)=none)->∀as,(∀p∈as,p∈s.as)->zpF m cl as=true:=by
  intro cl m hfr as
  induction as with
  |nil=>intro _;rfl
  |cons p r ih=>
   intro hsub;obtain⟨j,T',ob⟩:=p;unfold zpF;rw[ih fun p hp=>hsub p (ya4 _ hp),Bool.and_true];cases hc:zak cl j with
   |true=>rfl
   |false=>
    have hm:=hsub _ (ya5 ..);have h1:=(h.tag _ hm).1;have h2:=h.tagLt _ hm;simp only at h1 h2;rw[h1,hfr j (by omega) hc];rfl
 have all:∀hs:List (Nat×Nat×Mem),(∀p∈hs,N<=p.2.2.nxt/\∀j,T0+j<N->zak p.2.1 j=false->p.2.2.get (T0+j)=none)->zbp N s.as hs=true:=by
  intro hs
  induction hs with
  |nil=>intro _;rfl
  |cons p r ih=>
   intro hh;obtain⟨w,cl,m⟩:=p;obtain⟨h1,h2⟩:=hh _ (ya5 ..);unfold zbp;rw[yb1 h1,one h2 s.as fun p hp=>hp,ih fun p hp=>hh p (ya4 _ hp)];rfl
 refine all _ fun p hp=>?_
 rcases List.mem_cons.1 hp with rfl |hp
 ·exact⟨h.nx,h.fr⟩
 ·obtain⟨f1,f2,_⟩:=h.hf p hp;exact⟨f1,f2⟩
theorem zjT{gs:List Nat}{ops:List Oper}{z:Nat}{v:CV}{mp:Mem}:∀{l:List Oper} {bs:List (List Bool)} {Bs:List Nat} {i:Nat} {D:DRg} {R:RO} {e:DEnv} {T:List SV} {O:List SObj} {s:DS} {K:List SV->Prop},MasksR bs Bs->T0+(i+l.length)<=N->RI P G T0 N n0 i D R e T O s->GlbOk c.glb R->GlbOk c.glb G.R0->zky P X c gs ops n0 z l bs i D T O K ->
  ∃s' T',zaA P ops T0 z v mp (l.zip Bs) i s=.pan v mp s'/\zbp N s'.as ((0,s'.cl,s'.cur)::s'.hist)=true/\K T'/\T'.length=s'.t.sz
 |[],bs,Bs,i,D,R,e,T,O,s,K,_,_,h,_,_,hk=>⟨s,T,by cases Bs<;>rfl,h.free,hk,h.ts.sz.symm⟩
 |o::l,[],_,_,_,_,_,_,_,_,_,_,_,_,_,_,hk=>hk.elim
 |o::l,b::bs,[],_,_,_,_,_,_,_,_,hm,_,_,_,_,_=>hm.elim
 |o::l,b::bs,B::Bs,i,D,R,e,T,O,s,K,hm,hN,h,hg,hg0,hk=>by
  obtain⟨hB,hms⟩:=hm;have hN1:T0+(i+1)<=N:=by simp only[ya7]at hN;omega
  have hN2:T0+(i+1+l.length)<=N:=by simp only[ya7]at hN;omega
  unfold zky at hk;simp only[zf7]at hk;split at hk
  ·rename_i hz;obtain⟨s',T',k1,k2,k3,k4⟩:=zjT hms hN2 (h.temps (d:=none) (t':=s.t) h.ts h.ms0 rfl (fun _ _=>rfl) hN1) hg hg0 hk;refine⟨s',T',?_,k2,k3,k4⟩;show(match zak B z with
    |true=>zaA P ops T0 z v mp (l.zip Bs) (i+1)
    |false=>zgH P ops T0 o i B (zaA P ops T0 z v mp (l.zip Bs) (i+1))) s=_
   rw[hB,hz];exact k1
  ·rename_i hz;have st:zaA P ops T0 z v mp ((o::l).zip (B::Bs)) i s=zgH P ops T0 o i B (zaA P ops T0 z v mp (l.zip Bs) (i+1)) s:=by
    show(match zak B z with
     |true=>zaA P ops T0 z v mp (l.zip Bs) (i+1)
     |false=>zgH P ops T0 o i B (zaA P ops T0 z v mp (l.zip Bs) (i+1))) s=_
    rw[hB,hz]
   split at hk
   ·exact hk.elim
   rename_i hchk;simp only[ya2]at hchk;have hn:=hchk.2;have rest:∀{R1:RO} {e1:DEnv} {T1:List SV} {O1:List SObj} {D1:DRg} {s1:DS},RI P G T0 N n0 (i+1) D1 R1 e1 T1 O1 s1->R.le R1->zky P X c gs ops n0 z l bs (i+1) D1 T1 O1 K ->
     (zgH P ops T0 o i B (zaA P ops T0 z v mp (l.zip Bs) (i+1)) s=zaA P ops T0 z v mp (l.zip Bs) (i+1) s1) ->
     ∃s' T',zaA P ops T0 z v mp ((o::l).zip (B::Bs)) i s=.pan v mp s'/\zbp N s'.as ((0,s'.cl,s'.cur)::s'.hist)=true/\K T'/\T'.length=s'.t.sz:=by
    intro R1 e1 T1 O1 D1 s1 h1 h2 h4 h5;obtain⟨s',T',k1,k2,k3,k4⟩:=zjT hms hN2 h1 (hg.mono h2) hg0 h4;exact⟨s',T',(st.trans h5).trans k1,k2,k3,k4⟩
   rcases zec h.ts hk with⟨hgd,hk⟩ |⟨hgd,hk⟩
   ·split at hk
    ·rename_i hnw;obtain⟨R1,e1,T1,O1,D1,s1,q1,q2,q3,q4,q5⟩:=zow h hg hg0 hnw hn hN1 hk;refine rest q1 q2 q4 ?_;unfold zgH;simp only[hgd,hnw];exact q5 _
    ·rename_i hnw;have one:∀(k':DS->DRes),zgH P ops T0 o i B k' s=zgf P o i B s k' (za4 P (zaV (zaq B s.cl) s.as s.cur).nxt o.op (zaV (zaq B s.cl) s.as s.cur) s.t):=fun k'=>by
      unfold zgH;simp only[hgd,hnw];rfl
     split at hk
     ·rename_i hp;obtain⟨_,u,x,h1,h2,h3⟩:=zhx hg h.ms h.ts hk;obtain⟨tf',htf,h3⟩:=zeE hg0 h.ms0 h2 (fun _ _=>h1) h3;obtain⟨T2,t2,g1,g2,g3,g4,g5⟩:=zcb h3 h.ts h2;rw[<- g5]at htf;refine rest (h.temps g1 htf hn g4 hN1) (RO.le.refl R) g2 ?_;rw[one];have hc:za4 P (zaV (zaq B s.cl) s.as s.cur).nxt o.op (zaV (zaq B s.cl) s.as s.cur) s.t=.val x:=by
       rw[zda (T':=(zcJ s).nxt) (m':=zcJ s) hp];exact h1
      rw[hc];show zbD P o i B s _ x=_;unfold zbD;simp only[hp];rw[g3]
     ·rename_i hp;split at hk
      ·rename_i hi;obtain⟨T1,D1,s1,q1,q2,q3,x,q4⟩:=zlB h hg hg0 hB hnw hp hi hn hN1 hk;refine rest q1 (RO.le.refl R) q2 ?_;rw[one];have hv:=q3 (fun _=>.no "") (zaA P ops T0 z v mp (l.zip Bs) (i+1)) (fun _ _ _=>.no "");rw[q4]at hv ⊢;exact hv
      ·exact hk.elim
   ·obtain⟨tf',htf,hk⟩:=zeE (x:=zam) hg0 h.ms0 (.tup .nil:Rep R e (.tup []) zam) (fun hf=>by cases hf) hk;obtain⟨T2,t2,g1,g2,g3,g4,g5⟩:=zcb (x:=zam) hk h.ts (.tup .nil);rw[<- g5]at htf;refine rest (h.temps g1 htf hn g4 hN1) (RO.le.refl R) g2 ?_;unfold zgH;simp only[hgd];exact g3 _
theorem zov{gs:List Nat}{ops:List Oper}:∀{l:List Oper} {bs:List (List Bool)} {Bs:List Nat} {i:Nat} {D:DRg} {R:RO} {e:DEnv} {T:List SV} {O:List SObj} {s:DS} {K:List SV->List SObj->Prop} {KX:CV->List SV->List SObj->Prop},MasksR bs Bs->T0+(i+l.length)<=N->RI P G T0 N n0 i D R e T O s->GlbOk c.glb R->GlbOk c.glb G.R0->zfV P X c gs ops n0 l bs i D T O K KX ->
  (∃R' e' T' O' D' s' i',RI P G T0 N n0 i' D' R' e' T' O' s'/\R.le R'/\(∀o u,e o=some (PM.c u)->e' o=some (PM.c u))/\K T' O'/\Evt P X fun ih=>zaN P ih ops T0 (l.zip Bs) i s=.ok s') \/
  ∃R' e' T' O' s' x mp,R.le R'/\(∀o u,e o=some (PM.c u)->e' o=some (PM.c u))/\T'.length=s'.t.sz/\T'.all isJ=true/\MSat G R' e' O' mp/\zbp N s'.as ((0,s'.cl,s'.cur)::s'.hist)=true/\KX x T' O'/\Evt P X fun ih=>zaN P ih ops T0 (l.zip Bs) i s=.pan x mp s'
 |[],bs,Bs,i,D,R,e,T,O,s,K,KX,_,_,h,_,_,hk=>.inl ⟨R,e,T,O,D,s,i,h,RO.le.refl R,fun _ _ h=>h,hk,.all fun ih=>by cases Bs<;>rfl⟩
 |o::l,[],_,_,_,_,_,_,_,_,_,_,_,_,_,_,_,hk=>hk.elim
 |o::l,b::bs,[],_,_,_,_,_,_,_,_,_,hm,_,_,_,_,_=>hm.elim
 |o::l,b::bs,B::Bs,i,D,R,e,T,O,s,K,KX,hm,hN,h,hg,hg0,hk=>by
  obtain⟨hB,hms⟩:=hm;have hN1:T0+(i+1)<=N:=by simp only[ya7]at hN;omega
  have hN2:T0+(i+1+l.length)<=N:=by simp only[ya7]at hN;omega
  unfold zfV at hk;simp only[zf7]at hk;split at hk
  ·exact hk.elim
  rename_i hchk;simp only[ya2]at hchk;have hlen:=ya9 hchk.1;have hn:=hchk.2;have rest:∀{R1:RO} {e1:DEnv} {T1:List SV} {O1:List SObj} {D1:DRg} {s1:DS},RI P G T0 N n0 (i+1) D1 R1 e1 T1 O1 s1->R.le R1->(∀o u,e o=some (PM.c u)->e1 o=some (PM.c u))->zfV P X c gs ops n0 l bs (i+1) D1 T1 O1 K KX ->
    (Evt P X fun ih=>zaN P ih ops T0 ((o::l).zip (B::Bs)) i s=zaN P ih ops T0 (l.zip Bs) (i+1) s1) ->
    (∃R' e' T' O' D' s' i',RI P G T0 N n0 i' D' R' e' T' O' s'/\R.le R'/\(∀o u,e o=some (PM.c u)->e' o=some (PM.c u))/\K T' O'/\Evt P X fun ih=>zaN P ih ops T0 ((o::l).zip (B::Bs)) i s=.ok s') \/
    ∃R' e' T' O' s' x mp,R.le R'/\(∀o u,e o=some (PM.c u)->e' o=some (PM.c u))/\T'.length=s'.t.sz/\T'.all isJ=true/\MSat G R' e' O' mp/\zbp N s'.as ((0,s'.cl,s'.cur)::s'.hist)=true/\KX x T' O'/\Evt P X fun ih=>zaN P ih ops T0 ((o::l).zip (B::Bs)) i s=.pan x mp s':=by
   intro R1 e1 T1 O1 D1 s1 h1 h2 h3 h4 h5;rcases zov hms hN2 h1 (hg.mono h2) hg0 h4 with⟨R',e',T',O',D',s',i',q1,q2,q3,q4,q5⟩ |⟨R',e',T',O',s',x,mp,q2,q3,q4,q5,q6,q7,q8,q9⟩
   ·exact .inl ⟨R',e',T',O',D',s',i',q1,h2.trans q2,fun o u ho=>q3 o u (h3 o u ho),q4,(Evt.and h5 q5).mono fun ih hq=>hq.1.trans hq.2⟩
   ·exact .inr ⟨R',e',T',O',s',x,mp,h2.trans q2,fun o u ho=>q3 o u (h3 o u ho),q4,q5,q6,q7,q8,(Evt.and h5 q9).mono fun ih hq=>hq.1.trans hq.2⟩
  have start:(zfW (l.zip Bs) o B s=false)->∀ih:Task->Res,zaN P ih ops T0 ((o::l).zip (B::Bs)) i s=zcg P ih ops T0 o i B (zaN P ih ops T0 (l.zip Bs) (i+1)) (fun v m=>zaA P ops T0 i v m (l.zip Bs) (i+1)) s:=fun hlast ih=>by
   show zdk P ih ops T0 (l.zip Bs) o i B _ _ _=_;unfold zdk;rw[hlast];rfl
  have noStore:zre o.op=false->zfW (l.zip Bs) o B s=false:=fun hs=>by
   unfold zfW;split
   ·rw[hs];rfl
   ·rfl
  have noGuard:zaC ops s.t o.guard=some false->zfW (l.zip Bs) o B s=false:=fun hgd=>by
   unfold zfW;split
   ·have:ztj o.guard=false:=by
     cases hgo:o.guard with
     |none=>rw[hgo]at hgd;cases hgd
     |some p=>rfl
    rw[this];simp
   ·rfl
  rcases zec h.ts hk with⟨hgd,hk⟩ |⟨hgd,hk⟩
  ·split at hk
   ·rename_i hnw;obtain⟨R1,e1,T1,O1,D1,s1,q1,q2,q3,q4,q5⟩:=zow h hg hg0 hnw hn hN1 hk;refine rest q1 q2 q3 q4 (.all fun ih=>?_);rw[start (noStore (by cases ho:o.op<;>rw[ho]at hnw<;>first |rfl |(simp[zb8]at hnw)))];unfold zcg;simp only[hgd,hnw];exact q5 _
   ·rename_i hnw;have one:∀(ih:Task->Res) (k':DS->DRes) (kp:CV->Mem->DS->DRes),zcg P ih ops T0 o i B k' kp s=zc1 P ih o i B s k' kp (zaV (zaq B s.cl) s.as s.cur) (za4 P (zaV (zaq B s.cl) s.as s.cur).nxt o.op (zaV (zaq B s.cl) s.as s.cur) s.t):=fun ih k' kp=>by
     unfold zcg;simp only[hgd,hnw];rfl
    split at hk
    ·rename_i hp;obtain⟨_,v,x,h1,h2,h3⟩:=zhx hg h.ms h.ts hk;obtain⟨tf',htf,h3⟩:=zeE hg0 h.ms0 h2 (fun _ _=>h1) h3;obtain⟨T2,t2,g1,g2,g3,g4,g5⟩:=zcb h3 h.ts h2;rw[<- g5]at htf;refine rest (h.temps g1 htf hn g4 hN1) (RO.le.refl R) (fun _ _ h=>h) g2 (.all fun ih=>?_);rw[start (noStore (by cases ho:o.op<;>rw[ho]at hp<;>first |rfl |(simp[zcQ]at hp))),one];have hc:za4 P (zaV (zaq B s.cl) s.as s.cur).nxt o.op (zaV (zaq B s.cl) s.as s.cur) s.t=.val x:=by
      rw[zda (T':=(zcJ s).nxt) (m':=zcJ s) hp];exact h1
     rw[hc];show zbD P o i B s _ x=_;unfold zbD;simp only[hp];rw[g3]
    ·rename_i hp;split at hk
     ·rename_i hi;obtain⟨T1,D1,s1,q1,q2,q3,_⟩:=zlB h hg hg0 hB hnw hp hi hn hN1 hk;refine rest q1 (RO.le.refl R) (fun _ _ h=>h) q2 (.all fun ih=>?_);rw[start (noStore (by cases ho:o.op<;>rw[ho]at hi<;>first |rfl |(simp[isN]at hi))),one];exact q3 ih _ _
     ·rename_i hi;split at hk
      ·rename_i hdf;have wr:(zeH P X c gs o i b D T O fun D T O=>zfV P X c gs ops n0 l bs (Nat.succ i) D T O K KX)->(∃R' e' T' O' D' s' i',RI P G T0 N n0 i' D' R' e' T' O' s'/\R.le R'/\(∀o u,e o=some (PM.c u)->e' o=some (PM.c u))/\K T' O'/\Evt P X fun ih=>zaN P ih ops T0 ((o::l).zip (B::Bs)) i s=.ok s')\/∃R' e' T' O' s' x mp,R.le R'/\(∀o u,e o=some (PM.c u)->e' o=some (PM.c u))/\T'.length=s'.t.sz/\T'.all isJ=true/\MSat G R' e' O' mp/\zbp N s'.as ((0,s'.cl,s'.cur)::s'.hist)=true/\KX x T' O'/\Evt P X fun ih=>zaN P ih ops T0 ((o::l).zip (B::Bs)) i s=.pan x mp s':=fun hk=>by
        have hlast:zfW (l.zip Bs) o B s=false:=by
         unfold zfW;split
         ·have hch:zhL B s.hist=true:=by
           obtain⟨L,hk⟩:=ziN hk;unfold zhK at hk;rw[zf7]at hk;split at hk
           ·exact hk.elim
           ·rename_i hchk2;simp only[ya2]at hchk2;cases hhs:s.hist with
            |nil=>rfl
            |cons p r=>
             obtain⟨_,_,⟨w,h1,h2⟩,_⟩:=h.hf p (by rw[hhs];exact ya5 ..);obtain⟨pw,pc,pm⟩:=p;show zak B pw=true;rw[hB];have:=(zhi hchk2.2.1 w h1).1;rw[h2]at this;exact this
          rw[hch];simp
         ·rfl
        obtain⟨R1,e1,T1,O1,D1,s1,q1,q2,q3,q4,q5⟩:=zpJ h hg hg0 hB hlen hnw hp hi hdf hn hN1 hk;refine rest q1 q2 q3 q4 (q5.mono fun ih hq=>?_);rw[start hlast,one];exact hq _ _
       split at hk
       ·exact wr hk
       ·rcases zsL hg h.ts hk with⟨f,args,xs,hra,hcp,hk⟩ |hk
        ·rcases hk.or with hk |hk
         ·exact wr hk
         ·split at hk
          ·rename_i hws hps;have hhist:s.hist=[]:=by
            cases hhs:s.hist with
            |nil=>rfl
            |cons p r=>
             obtain⟨_,_,⟨w,h1,_⟩,_⟩:=h.hf p (by rw[hhs];exact ya5 ..);rw[hws]at h1;cases h1
           have hcl:∀j,zak s.cl j=false:=fun j=>by
            cases hc:zak s.cl j with
            |false=>rfl
            |true=>obtain⟨_,w,h1,_⟩:=h.cl j hc;rw[hws]at h1;cases h1
           have has:s.as=[]:=by
            cases hha:s.as with
            |nil=>rfl
            |cons p r=>
             obtain⟨q,h1,_⟩:=h.ps p (by rw[hha];exact ya5 ..) (hcl _);rw[hps]at h1;cases h1
           have hfull:zcJ s=s.cur:=by unfold zcJ;rw[has];rfl
           have hM:=h.ms;rw[hfull]at hM;obtain⟨y,m',R',e',T',O',g1,g2,g3,g4,hcase⟩:=zlT hg hM.rebase0 h.ts hra hk;rcases hcase with⟨_,_,_,g5⟩ |⟨g5,g6⟩
           ·exact g5.elim
           ·have hsk:RI P G T0 N n0 (i+1) D R e T O s:=h.temps (d:=none) (t':=s.t) h.ts h.ms0 rfl (fun _ _=>rfl) hN1;obtain⟨s',T1,k1,k2,k3,k4⟩:=zjT (P:=P) (X:=X) (z:=i) (v:=y) (mp:=m') hms hN2 hsk hg hg0 g6;rw[zso]at k3;refine .inr ⟨R',e',_,O',s',y,m',g1,g2,by rw[yb7];exact k4,ztR _,hM.unbase0 g1 g4,k2,k3,g5.mono fun ih hq=>?_⟩;have hlast:zfW (l.zip Bs) o B s=false:=by
             unfold zfW;rw[hhist];split
             ·show(_ && !true)=false;simp
             ·rfl
            rw[start hlast,one];have hm:zaV (zaq B s.cl) s.as s.cur=s.cur:=by rw[has];rfl
            rw[hm,hcp];show zg5 P i B o.dst s _ _ (ih (.call f xs s.cur))=_;rw[hq];show zkE B s (fun v m=>zaA P ops T0 i v m (l.zip Bs) (i+1)) y m'=_;unfold zkE;rw[hhist];exact k1
          ·exact hk.elim
        ·exact wr hk
      ·exact hk.elim
  ·obtain⟨tf',htf,hk⟩:=zeE (x:=zam) hg0 h.ms0 (.tup .nil:Rep R e (.tup []) zam) (fun hf=>by cases hf) hk;obtain⟨T2,t2,g1,g2,g3,g4,g5⟩:=zcb (x:=zam) hk h.ts (.tup .nil);rw[<- g5]at htf;refine rest (h.temps g1 htf hn g4 hN1) (RO.le.refl R) (fun _ _ h=>h) g2 (.all fun ih=>?_);rw[start (noGuard hgd)];unfold zcg;simp only[hgd];exact g3 _
end
end Go.Cx
namespace Go.Cx
open Go
theorem zrS{R R':RO}{e e':DEnv}(hR:R.le R'):∀(d:Nat) {v:SV} {x:CV},Rep R e v x->znH d v=true->(∀o u,o∈zaG d v->e o=some (PM.c u)->e' o=some (PM.c u))->Rep R' e' v x:=by
 intro d
 induction d with
 |zero=>
  intro v x h hp he;cases h<;>simp[znH]at hp
  case cv h=>exact .cv h
  case ptr h=>exact .ptr (he _ (.p _) (by simp[zaG]) h)
  case map h=>exact .map (he _ (.m _) (by simp[zaG]) h)
  case islN=>exact .islN
  case islV=>exact .islV
  case islS h1 h2 h3 h4 h0 h5=>exact(Rep.islS (e:=noE) h1 h2 h3 h4 h0 h5).mono hR fun _ _ hh=>by cases hh
  case islO h1 h2 h0 h3=>exact(Rep.islO (e:=noE) h1 h2 h0 h3).mono hR fun _ _ hh=>by cases hh
  case ipt h1 h2 h3 h0 h4=>exact(Rep.ipt (e:=noE) h1 h2 h3 h0 h4).mono hR fun _ _ hh=>by cases hh
 |succ d ih=>
  have hl:∀{vs:List SV} {xs:List CV},RepL R e vs xs->vs.all (znH d)=true->(∀o u,o∈vs.flatMap (zaG d)->e o=some (PM.c u)->e' o=some (PM.c u))->RepL R' e' vs xs:=by
   intro vs
   induction vs with
   |nil=>intro xs h _ _;cases h;exact .nil
   |cons v vs ihv=>
    intro xs h hi he;simp only[List.all_cons,ya2]at hi;cases h with
    |cons hv hs=>exact .cons (ih hv hi.1 fun o u ho=>he o u (by simp[ho])) (ihv hs hi.2 fun o u ho=>he o u (by rw[List.flatMap_cons];exact List.mem_append.2 (.inr ho)))
  intro v x h hp he;cases h<;>simp[znH]at hp
  case cv h=>exact .cv h
  case ptr h=>exact .ptr (he _ (.p _) (by simp[zaG]) h)
  case map h=>exact .map (he _ (.m _) (by simp[zaG]) h)
  case islN=>exact .islN
  case islV=>exact .islV
  case islS h1 h2 h3 h4 h0 h5=>exact(Rep.islS (e:=noE) h1 h2 h3 h4 h0 h5).mono hR fun _ _ hh=>by cases hh
  case islO h1 h2 h0 h3=>exact(Rep.islO (e:=noE) h1 h2 h0 h3).mono hR fun _ _ hh=>by cases hh
  case ipt h1 h2 h3 h0 h4=>exact(Rep.ipt (e:=noE) h1 h2 h3 h0 h4).mono hR fun _ _ hh=>by cases hh
  case agg h=>exact .agg (hl h (by simpa using hp) fun o u ho=>he o u (by simpa[zaG]using ho))
  case fn ha hb=>exact .fn (hl ha (by simpa using hp.1) fun o u ho=>he o u (by rw[zaG];exact List.mem_append.2 (.inl ho))) (hl hb (by simpa using hp.2) fun o u ho=>he o u (by rw[zaG];exact List.mem_append.2 (.inr ho)))
theorem zo7{R R':RO}{e e':DEnv}(hR:R.le R'):∀{vs:List SV} {xs:List CV},RepL R e vs xs->vs.all (znH zah)=true->(∀o u,o∈vs.flatMap (zaG zah)->e o=some (PM.c u)->e' o=some (PM.c u))->RepL R' e' vs xs
 |_,_,.nil,_,_=>.nil
 |v::vs,_,.cons hv hs,hi,he=>by
  simp only[List.all_cons,ya2]at hi;exact .cons (zrS hR zah hv hi.1 fun o u ho=>he o u (by rw[List.flatMap_cons];exact List.mem_append.2 (.inl ho))) (zo7 hR hs hi.2 fun o u ho=>he o u (by rw[List.flatMap_cons];exact List.mem_append.2 (.inr ho)))
inductive DSat (b:Option Nat) (R:RO) (m:Mem) (e:DEnv):List DDef->List CDef->Prop
 |nil:DSat b R m e [] []
 |fn {f args xs dd ds}:RepL R e args xs->args.all (znH zah)=true->DSat b R m e dd ds->DSat b R m e (.fn f args::dd) (.fn f xs::ds)
 |mark {b0 l dd ds}:b=some b0->b0<=l->m.get l=some (.dfr true)->R l=none->(∀k,CDef.mark k∈ds->k<l)->DSat b R m e dd ds->DSat b R m e dd (.mark l::ds)
theorem DSat.step{b:Option Nat}{R R':RO}{m m':Mem}{e e':DEnv}(hR:R.le R')(hm:Marks R m R' m'):∀{dd:List DDef} {ds:List CDef},DSat b R m e dd ds->(∀o u,o∈zb0 dd->e o=some (PM.c u)->e' o=some (PM.c u))->DSat b R' m' e' dd ds
 |_,_,.nil,_=>.nil
 |_,_,.fn ha hp h,he=>.fn (zo7 hR ha hp fun o u ho=>he o u (by rw[zb0];exact List.mem_append.2 (.inl ho))) hp (DSat.step hR hm h fun o u ho=>he o u (by rw[zb0];exact List.mem_append.2 (.inr ho)))
 |_,_,.mark h1 h2 h3 h4 h5 h,he=>.mark h1 h2 (hm _ h3 h4).1 (hm _ h3 h4).2 h5 (DSat.step hR hm h he)
theorem Marks.refl(R:RO)(m:Mem):Marks R m R m:=fun _ h k=>⟨h,k⟩
theorem Marks.trans{R R' R2:RO}{m m' m2:Mem}(h:Marks R m R' m')(k:Marks R' m' R2 m2):Marks R m R2 m2:=fun l a b=>k l (h l a b).1 (h l a b).2
theorem MSat.marks{G:Ctx}{R R':RO}{e e':DEnv}{O O':List SObj}{m m':Mem}(hM:MSat G R e O m)(h:MSat ⟨m,zac e (List.range O.length),R⟩ R' e' O' m'):Marks R m R' m':=(WStep.of hM h).marks hM.sk hM.tagW
structure HoldsD(b:Option Nat)(np:Nat)(B:Gh->Ctx->Prop)(R0:RO)(e0:DEnv)(K:DKK)(x:Res):Prop where
 ex:∃ex t ds m R e T O dd g G,x=.ex ex t ds m/\B g G/\R0.le R/\(∀o u,o<np->e0 o=some (PM.c u)->e o=some (PM.c u))/\TSat R e T t/\MSat G R e O m/\DSat b R m e dd ds/\K ex T O dd g
theorem HoldsD.from{b:Option Nat}{np:Nat}{B:Gh->Ctx->Prop}{R0 R1:RO}{e0 e1:DEnv}{K:DKK}{x:Res}(hR:R0.le R1)(he:∀o u,o<np->e0 o=some (PM.c u)->e1 o=some (PM.c u))(h:HoldsD b np B R1 e1 K x):HoldsD b np B R0 e0 K x:=by
 obtain⟨ex,t,ds,m,R,e,T,O,dd,g,G,q1,q0,q2,q3,q4⟩:=h.ex;exact⟨ex,t,ds,m,R,e,T,O,dd,g,G,q1,q0,hR.trans q2,fun o u ho hh=>q3 o u ho (he o u ho hh),q4⟩
structure WEnv(P:Program)(X:Ext)(c:DCfg)(md:Md)(r:Option Nat)(b:Option Nat)(B:Gh->Ctx->Prop):Prop where
 le:md≠.rd->md≠.ry->r=none/\(md≠.df->md≠.pf->∃b0,b=some b0/\∀g G,B g G->b0<=G.m0.nxt)
 ok:ylM md=true->WOk P X c.glb c.yl c.ys B
 rd:md=.rd\/md=.ry->b=none/\∃l0,r=some l0/\∀g G,B g G->l0<G.m0.nxt/\l0∉G.S0/\∃st pe t ps a bo d,G.m0.get l0=some (.loop st pe t ps a bo d)
 it:md=.it\/md=.ry->∃I b0 V0 R0 m0,YLaw P X c.yl c.ys b0 I/\(∀t,b0 t->t<m0.nxt)/\B=wB I b0 V0 R0 m0
def zck(P:Program)(X:Ext)(c:DCfg)(np:Nat)(code:Code)(md:Md)(f:DW):Prop:=
 ∀{b:Option Nat} {B:Gh->Ctx->Prop} {r:Option Nat} {G:Ctx} {R:RO} {e:DEnv} {T:List SV} {O:List SObj} {dd:List DDef} {g:Gh} {ds:List CDef} {m:Mem} {t:Tmps} {K:DKK},WEnv P X c md r b B->B g G->GlbOk c.glb R->f T O dd g K->TSat R e T t->MSat G R e O m->DSat b R m e dd ds->∃x,HoldsD b np B R e K x/\Ev P X (.code code t ds r m) x
section
variable{P:Program}{X:Ext}{c:DCfg}{np:Nat}{G:Ctx}{R:RO}{e:DEnv}{m:Mem}{t:Tmps}{T:List SV}{O:List SObj}{dd:List DDef}{ds:List CDef}
theorem zsN{e':DEnv}(h:∀o u,e o=some (PM.c u)->e' o=some (PM.c u)):∀o u,o<np->e o=some (PM.c u)->e' o=some (PM.c u):=fun o u _ hh=>h o u hh
theorem MSat.rebase(h:MSat G R e O m):MSat ⟨m,zac e (List.range O.length),R⟩ R e O m:=
 ⟨Fr.refl _ _,h.sk,RO.le.refl R,fun t o hh=>.inl hh,fun o x t hx ht=>⟨.inr (zaD (List.mem_range.2 (by
  obtain⟨so,h1,_⟩:=h.dom o x hx;exact(List.getElem?_eq_some_iff.1 h1).1)) hx ht),(h.own o x t hx ht).2⟩,h.inj,h.ob,h.dom⟩
theorem MSat.unbase(h:MSat G R e O m){l:List Nat}{m':Mem}{R':RO}{e':DEnv}{O':List SObj}(hR:R.le R')(h':MSat ⟨m,zac e l,R⟩ R' e' O' m'):MSat G R' e' O' m':=by
 have hown:∀t,(⟨m,zac e l,R⟩:Ctx).own t->G.own t:=fun t ht=>by
  rcases ht with ht |ht
  ·have:m.nxt<=t:=ht;exact .inl (by have:=h.fr.nxt;omega)
  ·obtain⟨i,x,_,h1,h3⟩:=zap ht;exact(h.own i x t h1 h3).1
 refine⟨Fr.call h'.fr (fun a ha=>?_) h.fr,h'.sk,h.le.trans hR,fun t o hh=>?_,fun o x t hx ht=>⟨hown t (h'.own o x t hx ht).1,(h'.own o x t hx ht).2⟩,h'.inj,h'.ob,h'.dom⟩
 ·obtain⟨i,x,_,h1,h3⟩:=zap ha;exact(h.own i x a h1 h3).1
 ·rcases h'.rn t o hh with h1 |h1
  ·exact h.rn t o h1
  ·exact .inr (hown t h1)
theorem zff{gs:List Nat}{md:Md}{r:Option Nat}{b:Option Nat}{B:Gh->Ctx->Prop}{op:Op}{dst:Option Tmp}{g:Gh}{K:List SV->List SObj->List DDef->Gh->Prop}(hw:WEnv P X c md r b B)(hB:B g G)(hg:GlbOk c.glb R)(h:zth P X c gs md op dst T O dd g K)(hT:TSat R e T t)(hM:MSat G R e O m)(hD:DSat b R m e dd ds):
  ∃t' ds' m' R' e' T' O' dd' g' G',B g' G'/\R.le R'/\(∀o u,e o=some (PM.c u)->e' o=some (PM.c u))/\TSat R' e' T' t'/\MSat G' R' e' O' m'/\DSat b R' m' e' dd' ds'/\K T' O' dd' g'/\Evt P X fun ih=>∀k,after ih r k dst t ds m (cop P op m t)=k t' ds' m':=by
 have key:(dop P X c op T O fun v T O=>zfi gs dst v T fun T=>K T O dd g)->∃t' ds' m' R' e' T' O' dd' g' G',B g' G'/\R.le R'/\(∀o u,e o=some (PM.c u)->e' o=some (PM.c u))/\TSat R' e' T' t'/\MSat G' R' e' O' m'/\DSat b R' m' e' dd' ds'/\K T' O' dd' g'/\Evt P X fun ih=>∀k,after ih r k dst t ds m (cop P op m t)=k t' ds' m':=fun h=>by
  obtain⟨x,m',h1,h2⟩:=zrE hg hM.rebase hT h;obtain⟨R',e',v,T',O',q1,q2,q3,q4,q5,q6⟩:=h2.ex;obtain⟨T2,t2,g1,g2,g3,_⟩:=zcy q6 q4 q3;exact⟨t2,ds,m',R',e',T2,O',dd,g,G,hB,q1,q2,g1,hM.unbase q1 q5,hD.step q1 (hM.marks q5) (fun o u _ hh=>q2 o u hh),g2,h1.after.mono fun ih he k=>(he r k dst ds).trans (g3 k ds m')⟩
 by_cases hdf:∃cl,op=.defer cl
 ·obtain⟨cl,rfl⟩:=hdf;simp only[zth]at h;unfold zqQ at h;have hmd:md≠.rd:=by rintro rfl;exact h.elim
  have hmf:md≠.df:=by rintro rfl;exact h.elim
  have hmy:md≠.ry:=by rintro rfl;exact h.elim
  obtain⟨hr,_⟩:=hw.le hmd hmy;have h:zej c T cl.args.toList fun args=>match cl.callee with
    |.value f=>zaU c T f fun f=>match f with
     |.fn h a b=>match(a++args++b).all (znH zah) with
      |true=>zfi gs dst (.tup []) T fun T=>K T O (.fn h (a++args++b)::dd) g
      |false=>False
     |_=>False
    |_=>False:=by cases md<;>first |exact h |exact absurd rfl hmd |exact absurd rfl hmf |exact absurd rfl hmy
  obtain⟨args,xs,ha,hra,h⟩:=zbz hg hT h;split at h
  ·rename_i f hf;obtain⟨u,y,hu,hru,h⟩:=zab hg hT h;split at h
   ·rename_i fi a bb;split at h
    ·rename_i hp;cases hru with
     | @fn _ _ _ _ ya yb hra' hrb=>
      have hall:=RepL.app (RepL.app hra' hra) hrb;obtain⟨T2,t2,g1,g2,g3,_⟩:=zcy (x:=zam) h hT (.tup .nil);refine⟨t2,_,m,R,e,T2,O,_,g,G,hB,RO.le.refl R,fun _ _ h=>h,g1,hM,.fn hall hp hD,g2,.all fun ih k=>?_⟩;have:cop P (.defer cl) m t=.defer fi (ya++xs++yb):=by
       show zbR cl m t=_;unfold zbR;simp only[ha,hf,hu,zmf]
      rw[this,hr];exact g3 k _ m
    ·exact h.elim
   ·exact h.elim
  ·exact h.elim
 by_cases hcl:∃cl,op=.call cl
 ·obtain⟨cl,rfl⟩:=hcl;simp only[zth]at h;split at h
  ·unfold zuz at h;split at h
   ·rename_i f hf;obtain⟨args,xs,hargs,hrargs,h⟩:=zbz hg hT h;obtain⟨u,y,hu,hru,h⟩:=zab hg hT h;have hc2:cop P (.call cl) m t=zpz y xs:=by
     show zbn P m.nxt cl m t=_;unfold zbn;simp only[hargs];rw[hf];show zeh f m t xs=_;unfold zeh;simp only[hu]
    have hW:=hw.ok (by assumption);split at h
    ·rename_i x;split at h
     ·rename_i l;cases hru;unfold zum at h;obtain⟨R1,e1,args1,T1,O1,p1,p2,p3,p4,p5,h⟩:=zcf 9 hrargs hT hM.rebase h;have hM1:=hM.unbase p1 p5;have hD1:=hD.step p1 (hM.marks p5) (fun o u _ hh=>p2 o u hh);split at h
      ·rename_i himm;obtain⟨⟨rfl,hst,hys⟩,hk1,hk2⟩:=h;obtain⟨gn,gst⟩:=g;have hst:gst=false:=hst;subst hst;obtain⟨bb,m',R',G',q1,q2,q3,q4,q5⟩:=hW.yl hB hM1 hys (p3.imm himm);have hk:zfi gs dst (.cv (.bool bb)) T1 fun T=>K T O1 dd (Gh.step gn bb):=by cases bb<;>assumption
       obtain⟨T2,t2,g1,g2,g3,_⟩:=zcy hk (p4.mono q2 (DEnv.le.refl _)) (Rep.cv (x:=.bool bb) rfl);refine⟨t2,ds,m',R',e1,T2,O1,dd,_,G',q4,p1.trans q2,p2,g1,q5,hD1.step q2 q3 (fun o u _ hh=>hh),g2,q1.mono fun ih he k=>?_⟩;rw[hc2];show zsr k dst t ds (zbN ih c.yl xs m)=_;rw[he];exact g3 k ds m'
      ·exact h.elim
     ·exact h.elim
    ·rename_i fi a bb;have body:znX P X c fi (a++args++bb) T O g (fun v T O g=>zfi gs dst v T fun T=>K T O dd g)->∃t' ds' m' R' e' T' O' dd' g' G',B g' G'/\R.le R'/\(∀o u,e o=some (PM.c u)->e' o=some (PM.c u))/\TSat R' e' T' t'/\MSat G' R' e' O' m'/\DSat b R' m' e' dd' ds'/\K T' O' dd' g'/\Evt P X fun ih=>∀k,after ih r k dst t ds m (cop P (.call cl) m t)=k t' ds' m':=fun h=>by
      cases hru with
      | @fn _ _ _ _ ya yb hra' hrb=>
       unfold znX at h;obtain⟨R1,e1,args1,T1,O1,p1,p2,p3,p4,p5,h⟩:=zcf 9 (RepL.app (RepL.app hra' hrargs) hrb) hT hM.rebase h;have hM1:=hM.unbase p1 p5;have hD1:=hD.step p1 (hM.marks p5) (fun o u _ hh=>p2 o u hh);split at h
       ·rename_i himm;obtain⟨fa,ys,post,hi,⟨hfa,hst,hys⟩,hk⟩:=h;obtain⟨gn,gst⟩:=g;have hst:gst=false:=hst;subst hst;obtain⟨y,m',R',G',g',v,q1,q2,q3,q4,q5,q6,q7⟩:=hW.it hB hM1 (hg.mono p1) hi hys (by rw[hfa];exact p3.imm himm);obtain⟨T2,t2,g1,g2,g3,_⟩:=zcy (hk g' v q7) (p4.mono q2 (DEnv.le.refl _)) (q6 e1);refine⟨t2,ds,m',R',e1,T2,O1,dd,_,G',q4,p1.trans q2,p2,g1,q5,hD1.step q2 q3 (fun o u _ hh=>hh),g2,Evt.mono q1 fun ih he k=>?_⟩;rw[hc2];show zjL k dst t ds (ih (.call fi (ya++xs++yb) m))=_;rw[he];exact g3 k ds m'
       ·obtain⟨rids,h⟩:=zca h;obtain⟨ids,h⟩:=zkb h;split at h
        ·rename_i hb;simp only[ya2]at hb;obtain⟨hd,hall⟩:=hb;rw[zat]at hall;have hlt:∀i∈ids,i<O1.length:=fun i him=>ya9 (List.all_eq_true.1 hall i him)
         rw[zaf (zbb _ zah),zfk]at h;obtain⟨fa,ys,post,hi,⟨hfa,hst,hys⟩,hk⟩:=h;obtain⟨gn,gst⟩:=g;have hst:gst=false:=hst;subst hst;have he:∀i j x,zes i ids 0=some j->e1 i=some x->inE e1 ids j=some x:=fun i j x h1 h2=>by
          have:=(zcv h1).2;rw[Nat.sub_zero]at this;unfold inE;rw[this];exact h2
         obtain⟨y,m',R',G',g',v,e2,O2,q1,q2,q3,q4,q5,q6,q7,q8,q9⟩:=hW.itO hB hM1 (hg.mono p1) hd hlt hi hys (by rw[hfa];exact p3.mv (RO.le.refl R1) he zah);have hk:=hk g' v O2 q9;rw[zbb,zaf (zbb _ zah),zaf (zcY _),zb3,zaf (zcY _),zc3,zat]at hk;have keep:∀o u,e1 o=some (PM.c u)->zix e1 e2 ids O1.length o=some (PM.c u):=fun o u ho=>by
          by_cases hm:o∈ids
          ·obtain⟨k,hk⟩:=zbB hm;exact zbr hd hlt (zcn hk) (q5 k u (by unfold inE;rw[hk];exact ho))
          ·obtain⟨so,h3,_⟩:=hM1.dom o _ ho;unfold zix;rw[zcx hm];show(if _ then _ else _)=_;rw[if_pos (List.getElem?_eq_some_iff.1 h3).1];exact ho
         obtain⟨T2,t2,g1,g2,g3,_⟩:=zcy hk (p4.mv q2 q6) (q8.mv (RO.le.refl R') (fun i j x hh hx=>zbr hd hlt hh hx) zah);refine⟨t2,ds,m',R',_,T2,_,dd,_,G',q4,p1.trans q2,fun o u hh=>keep o u (p2 o u hh),g1,q7,hD1.step q2 q3 (fun o u _ hh=>keep o u hh),g2,Evt.mono q1 fun ih he k=>?_⟩;rw[hc2];show zjL k dst t ds (ih (.call fi (ya++xs++yb) m))=_;rw[he];exact g3 k ds m'
        ·exact h.elim
     split at h
     ·exact body h
     ·split at h
      ·exact body h
      ·exact key h
    ·exact h.elim
   ·exact key h
  ·exact key h
 ·have hd:∀c,op≠.defer c:=fun c e=>hdf ⟨c,e⟩
  have hc:∀c,op≠.call c:=fun c e=>hcl ⟨c,e⟩
  refine key ?_;cases op<;>first |exact h |exact absurd rfl (hd _) |exact absurd rfl (hc _)
theorem zrU{gs:List Nat}{r:Option Nat}{b:Option Nat}{B:Gh->Ctx->Prop}{op:Op}{dst:Option Tmp}{g:Gh}{K:List SV->List SObj->List DDef->Gh->Prop}{KX:CV->List SV->List SObj->Prop}(hw:WEnv P X c .pf r b B)(hB:B g G)(hg:GlbOk c.glb R)(h:zq6 P X c gs op dst T O dd g K KX)(hT:TSat R e T t)(hM:MSat G R e O m)(hD:DSat b R m e dd ds):
  (∃t' ds' m' R' e' T' O' dd' g' G',B g' G'/\R.le R'/\(∀o u,e o=some (PM.c u)->e' o=some (PM.c u))/\TSat R' e' T' t'/\MSat G' R' e' O' m'/\DSat b R' m' e' dd' ds'/\K T' O' dd' g'/\Evt P X fun ih=>∀k,after ih r k dst t ds m (cop P op m t)=k t' ds' m') \/
  ∃x m' R' e' T' O',R.le R'/\(∀o u,e o=some (PM.c u)->e' o=some (PM.c u))/\TSat R' e' T' t/\MSat G R' e' O' m'/\DSat b R' m' e' dd ds/\KX x T' O'/\Evt P X fun ih=>∀k,after ih r k dst t ds m (cop P op m t)=.ex (.panic x) t ds m':=by
 have key:(dop P X c op T O fun v T O=>zfi gs dst v T fun T=>K T O dd g)->∃t' ds' m' R' e' T' O' dd' g' G',B g' G'/\R.le R'/\(∀o u,e o=some (PM.c u)->e' o=some (PM.c u))/\TSat R' e' T' t'/\MSat G' R' e' O' m'/\DSat b R' m' e' dd' ds'/\K T' O' dd' g'/\Evt P X fun ih=>∀k,after ih r k dst t ds m (cop P op m t)=k t' ds' m':=fun h=>by
  obtain⟨x,m',h1,h2⟩:=zrE hg hM.rebase hT h;obtain⟨R',e',v,T',O',q1,q2,q3,q4,q5,q6⟩:=h2.ex;obtain⟨T2,t2,g1,g2,g3,_⟩:=zcy q6 q4 q3;exact⟨t2,ds,m',R',e',T2,O',dd,g,G,hB,q1,q2,g1,hM.unbase q1 q5,hD.step q1 (hM.marks q5) (fun o u _ hh=>q2 o u hh),g2,h1.after.mono fun ih he k=>(he r k dst ds).trans (g3 k ds m')⟩
 by_cases hdf:∃cl,op=.defer cl
 ·obtain⟨cl,rfl⟩:=hdf;obtain⟨hr,_⟩:=hw.le (by simp) (by simp);have h:zej c T cl.args.toList fun args=>match cl.callee with
    |.value f=>zaU c T f fun f=>match f with
     |.fn h a b=>match(a++args++b).all (znH zah) with
      |true=>zfi gs dst (.tup []) T fun T=>K T O (.fn h (a++args++b)::dd) g
      |false=>False
     |_=>False
    |_=>False:=h
  obtain⟨args,xs,ha,hra,h⟩:=zbz hg hT h;split at h
  ·rename_i f hf;obtain⟨u,y,hu,hru,h⟩:=zab hg hT h;split at h
   ·rename_i fi a bb;split at h
    ·rename_i hp;cases hru with
     | @fn _ _ _ _ ya yb hra' hrb=>
      have hall:=RepL.app (RepL.app hra' hra) hrb;obtain⟨T2,t2,g1,g2,g3,_⟩:=zcy (x:=zam) h hT (.tup .nil);refine .inl ⟨t2,_,m,R,e,T2,O,_,g,G,hB,RO.le.refl R,fun _ _ h=>h,g1,hM,.fn hall hp hD,g2,.all fun ih k=>?_⟩;have:cop P (.defer cl) m t=.defer fi (ya++xs++yb):=by
       show zbR cl m t=_;unfold zbR;simp only[ha,hf,hu,zmf]
      rw[this,hr];exact g3 k _ m
    ·exact h.elim
   ·exact h.elim
  ·exact h.elim
 by_cases hpn:∃x,op=.panic x
 ·obtain⟨x,rfl⟩:=hpn;have h:zaU c T x fun v=>cvOfK zah v fun x=>match x with
   |.ifc a b=>KX (.ifc a b) T O
   |_=>False:=h
  obtain⟨v,y,hv,hr,h⟩:=zab hg hT h;have h:=zsX zah hr h;cases y<;>first |exact h.elim |skip
  rename_i ty z;refine .inr ⟨.ifc ty z,m,R,e,T,O,RO.le.refl R,fun _ _ h=>h,hT,hM,hD,h,.all fun ih k=>?_⟩;have:cop P (.panic x) m t=.panic (.ifc ty z):=za2 (f:=zot) rfl hv rfl;rw[this];rfl
 by_cases hcl:∃cl,op=.call cl
 ·obtain⟨cl,rfl⟩:=hcl;simp only[zq6]at h;split at h
  ·rename_i f hf;obtain⟨args,xs,hargs,hrargs,h⟩:=zbz hg hT h;obtain⟨u,y,hu,hru,h⟩:=zab hg hT h;have hc2:cop P (.call cl) m t=zpz y xs:=by
    show zbn P m.nxt cl m t=_;unfold zbn;simp only[hargs];rw[hf];show zeh f m t xs=_;unfold zeh;simp only[hu]
   split at h
   ·rename_i fi a bb;split at h
    ·cases hru with
     | @fn _ _ _ _ ya yb hra' hrb=>
      obtain⟨z,m',R',e',T',O',q1,q2,q3,q4,hcase⟩:=zlT hg hM.rebase hT (RepL.app (RepL.app hra' hrargs) hrb) h;have hD':=hD.step q1 (hM.marks q4) (fun o u _ hh=>q2 o u hh);have hM':=hM.unbase q1 q4;rcases hcase with⟨v,q5,q6,q7⟩ |⟨q5,q6⟩
      ·obtain⟨T2,t2,g1,g2,g3,_⟩:=zcy q7 q3 q6;refine .inl ⟨t2,ds,m',R',e',T2,O',dd,g,G,hB,q1,q2,g1,hM',hD',g2,Evt.mono q5 fun ih he k=>?_⟩;rw[hc2];show zjL k dst t ds (ih (.call fi (ya++xs++yb) m))=_;rw[he];exact g3 k ds m'
      ·refine .inr ⟨z,m',R',e',T',O',q1,q2,q3,hM',hD',q6,Evt.mono q5 fun ih he k=>?_⟩;rw[hc2];show zjL k dst t ds (ih (.call fi (ya++xs++yb) m))=_;rw[he];rfl
    ·exact .inl (key h)
   ·exact h.elim
  ·exact .inl (key h)
 ·have hd:∀c,op≠.defer c:=fun c e=>hdf ⟨c,e⟩
  have hc:∀c,op≠.call c:=fun c e=>hcl ⟨c,e⟩
  have hp:∀c,op≠.panic c:=fun c e=>hpn ⟨c,e⟩
  refine .inl (key ?_);cases op<;>first |exact h |exact absurd rfl (hd _) |exact absurd rfl (hc _) |exact absurd rfl (hp _)
theorem zuC{gs:List Nat}{md:Md}{r:Option Nat}{b:Option Nat}{B:Gh->Ctx->Prop}{op:Op}{dst:Option Tmp}{g:Gh}{K:List SV->List SObj->List DDef->Gh->Prop}{KX:CV->List SV->List SObj->Prop}(hw:WEnv P X c md r b B)(hB:B g G)(hg:GlbOk c.glb R)(h:done P X c gs md op dst T O dd g K KX)(hT:TSat R e T t)(hM:MSat G R e O m)(hD:DSat b R m e dd ds):
  (∃t' ds' m' R' e' T' O' dd' g' G',B g' G'/\R.le R'/\(∀o u,e o=some (PM.c u)->e' o=some (PM.c u))/\TSat R' e' T' t'/\MSat G' R' e' O' m'/\DSat b R' m' e' dd' ds'/\K T' O' dd' g'/\Evt P X fun ih=>∀k,after ih r k dst t ds m (cop P op m t)=k t' ds' m') \/
  ∃x m' R' e' T' O',R.le R'/\(∀o u,e o=some (PM.c u)->e' o=some (PM.c u))/\TSat R' e' T' t/\MSat G R' e' O' m'/\DSat b R' m' e' dd ds/\KX x T' O'/\Evt P X fun ih=>∀k,after ih r k dst t ds m (cop P op m t)=.ex (.panic x) t ds m':=by
 unfold done at h;cases md with
 |pf=>exact zrU hw hB hg h hT hM hD
 |fn=>exact .inl (zff hw hB hg h hT hM hD)
 |it=>exact .inl (zff hw hB hg h hT hM hD)
 |rd=>exact .inl (zff hw hB hg h hT hM hD)
 |df=>exact .inl (zff hw hB hg h hT hM hD)
 |ry=>exact .inl (zff hw hB hg h hT hM hD)
theorem znf{gs:List Nat}{ops:List Oper}{md:Md}{r:Option Nat}{b:Option Nat}{B:Gh->Ctx->Prop}(hw:WEnv P X c md r b B):∀{l:List Oper} {G:Ctx} {R:RO} {e:DEnv} {T:List SV} {O:List SObj} {dd:List DDef} {g:Gh} {ds:List CDef} {m:Mem} {t:Tmps} {K:DKK},B g G->GlbOk c.glb R->zvZ P X c gs ops md l T O dd g K->TSat R e T t->MSat G R e O m->DSat b R m e dd ds->∃x,HoldsD b np B R e K x/\Evt P X fun ih=>zdg P ih ops r l t ds m=x
 |[],G,R,e,T,O,dd,g,ds,m,t,K,hB,hg,h,hT,hM,hD=>⟨_,⟨_,_,_,_,R,e,T,O,dd,g,G,rfl,hB,RO.le.refl R,fun _ _ _ h=>h,hT,hM,hD,h⟩,.all fun ih=>rfl⟩
 |o::l,G,R,e,T,O,dd,g,ds,m,t,K,hB,hg,h,hT,hM,hD=>by
  unfold zvZ at h;rcases zec hT h with⟨hgd,h⟩ |⟨hgd,h⟩
  ·rcases zuC hw hB hg h hT hM hD with⟨t',ds',m',R',e',T',O',dd',g',G',q0,q1,q2,q3,q4,q5,q6,q7⟩ |⟨x,m',R',e',T',O',q1,q2,q3,q4,q5,q6,q7⟩
   ·obtain⟨x,hx,he⟩:=znf hw q0 (hg.mono q1) q6 q3 q4 q5;refine⟨x,hx.from q1 (zsN q2),(q7.and he).mono fun ih hq=>?_⟩;show zcR P ih ops r o (zdg P ih ops r l) t ds m=x;unfold zcR;rw[hgd];exact(hq.1 _).trans hq.2
   ·refine⟨.ex (.panic x) t ds m',⟨_,t,ds,m',R',e',T',O',dd,g,G,rfl,hB,q1,fun o u _ hh=>q2 o u hh,q3,q4,q5,q6⟩,q7.mono fun ih hq=>?_⟩;show zcR P ih ops r o (zdg P ih ops r l) t ds m=_;unfold zcR;rw[hgd];exact hq _
  ·obtain⟨T2,t2,g1,g2,g3,_⟩:=zcy (x:=zam) h hT (.tup .nil);obtain⟨x,hx,he⟩:=znf hw hB hg g2 g1 hM hD;refine⟨x,hx,he.mono fun ih hq=>?_⟩;show zcR P ih ops r o (zdg P ih ops r l) t ds m=x;unfold zcR;rw[hgd];exact(g3 _ ds m).trans hq
theorem zfL:∀{os:List Oper} {bs bs':List Nat},zer os bs=some bs'->bs'.length=bs.length+os.length
 |[],bs,bs',h=>by simp[zer]at h;rw[<- h];rfl
 |o::os,bs,bs',h=>by
  unfold zer at h;split at h
  ·rw[zfL h];simp;omega
  ·cases h
theorem MSat.bump(h:MSat G R e O m){n:Nat}(hn:m.nxt<=n):MSat G R e O ⟨n,m.tr⟩:=by
 have hw:∀w:Wf m,Wf ⟨n,m.tr⟩:=fun w t ht=>w t (Nat.le_trans hn ht)
 refine⟨⟨Nat.le_trans h.fr.nxt hn,fun t ht hS=>h.fr.get t ht hS,fun w=>hw (h.fr.wf w)⟩,⟨hw h.sk.wf,fun t o hh=>h.sk.ro t o hh⟩,h.le,h.rn,h.own,h.inj,fun o so ho=>?_,h.dom⟩;rcases h.ob o so ho with h1 |⟨x,h1,h2⟩
 ·exact .inl h1
 ·exact .inr ⟨x,h1,h2.mono (RO.le.refl R) (DEnv.le.refl _) fun _ _=>rfl⟩
theorem zk9{ih:Task->Res}{ops:List Oper}{T0:Nat}{r:List (Oper×Nat)}{o:Oper}{i b:Nat}{k:DS->DRes}{kp:CV->Mem->DS->DRes}{s:DS}(hs:s.hist=[]):zdk P ih ops T0 r o i b k kp s=zcg P ih ops T0 o i b k kp s:=by
 unfold zdk;have:zfW r o b s=false:=by
  unfold zfW;split
  ·rw[hs];simp[zhL]
  ·rfl
 rw[this]
theorem zgO{gs:List Nat}{ops:List Oper}{T0:Nat}(hg:GlbOk c.glb R)(hM:MSat G R e O m):∀{l:List Oper} {bs:List Nat} {i:Nat} {T:List SV} {t:Tmps} {ns:List (Nat×Oper×Nat×CV)} {K:List SV->Prop},bs.length=l.length->zpG P c gs ops O l T K->TSat R e T t ->
  ∃T' t' ns',TSat R e T' t'/\K T'/\∀ih:Task->Res,zaN P ih ops T0 (l.zip bs) i ⟨t,m,0,[],[],ns⟩=.ok ⟨t',m,0,[],[],ns'⟩
 |[],bs,i,T,t,ns,K,_,h,hT=>⟨T,t,ns,hT,h,fun ih=>by cases bs<;>rfl⟩
 |o::l,[],_,_,_,_,_,hl,_,_=>by simp at hl
 |o::l,b::bs,i,T,t,ns,K,hl,h,hT=>by
  have hl':bs.length=l.length:=by simpa using hl
  unfold zpG at h;have start:∀ih:Task->Res,zaN P ih ops T0 ((o::l).zip (b::bs)) i ⟨t,m,0,[],[],ns⟩=zcg P ih ops T0 o i b (zaN P ih ops T0 (l.zip bs) (i+1)) (fun v m=>zaA P ops T0 i v m (l.zip bs) (i+1)) ⟨t,m,0,[],[],ns⟩:=fun ih=>zk9 rfl
  rcases zec hT h with⟨hgd,h⟩ |⟨hgd,h⟩
  ·obtain⟨hnew,v,x,h1,h2,h3⟩:=zhx hg hM hT h;obtain⟨T2,t2,g1,g2,_,g4⟩:=zcy h3 hT h2;have hc:za4 P m.nxt o.op m t=.val x:=h1;have one:∀ih:Task->Res,zcg P ih ops T0 o i b (zaN P ih ops T0 (l.zip bs) (i+1)) (fun v m=>zaA P ops T0 i v m (l.zip bs) (i+1)) ⟨t,m,0,[],[],ns⟩=zbD P o i b ⟨t,m,0,[],[],ns⟩ (zaN P ih ops T0 (l.zip bs) (i+1)) x:=fun ih=>by
    unfold zcg;simp only[hgd,hnew];show zc1 P ih o i b _ _ _ m (za4 P m.nxt o.op m t)=_;rw[hc];rfl
   cases hp:zcQ o.op with
   |true=>
    obtain⟨T3,t3,ns3,q1,q2,q3⟩:=zgO (i:=i+1) (ns:=ns) hg hM hl' g2 g1;refine⟨T3,t3,ns3,q1,q2,fun ih=>?_⟩;rw[start,one];unfold zbD;rw[hp];exact(g4 _).trans (q3 ih)
   |false=>
    obtain⟨T3,t3,ns3,q1,q2,q3⟩:=zgO (i:=i+1) (ns:=(i,o,b,x)::ns) hg hM hl' g2 g1;refine⟨T3,t3,ns3,q1,q2,fun ih=>?_⟩;rw[start,one];unfold zbD;rw[hp];exact(g4 _).trans (q3 ih)
  ·obtain⟨T2,t2,g1,g2,_,g4⟩:=zcy (x:=zam) h hT (.tup .nil);obtain⟨T3,t3,ns3,q1,q2,q3⟩:=zgO (i:=i+1) (ns:=ns) hg hM hl' g2 g1;refine⟨T3,t3,ns3,q1,q2,fun ih=>?_⟩;rw[start];unfold zcg;simp only[hgd];exact(g4 _).trans (q3 ih)
theorem zlz:∀{ss:List Nat} {k:List SV->Prop},zoD T ss k->TSat R e T t->∃vs:List SV,k vs/\∀(i s:Nat) (v:SV),ss[i]? = some s->vs[i]? = some v->∃x,t.get s=some x/\Rep R e v x
 |[],k,h,_=>⟨[],h,fun i s v hs=>by simp at hs⟩
 |s::ss,k,h,hT=>by
  simp only[zoD]at h;obtain⟨hn,h⟩:=zcN h;obtain⟨vs,h1,h2⟩:=zlz h hT;refine⟨zdR T s::vs,h1,fun i s' v' hs hv=>?_⟩;cases i with
  |zero=>
   simp at hs hv;subst hs;subst hv;rw[zcC,ya8]at hn ⊢;cases hT':T[s]? with
   |none=>rw[hT']at hn;exact absurd rfl hn
   |some u=>
    rw[hT']at hn;rcases hT.get s u hT' with h3 |h3
    ·exact absurd h3 hn
    ·exact h3
  |succ i=>exact h2 i s' v' (by simpa using hs) (by simpa using hv)
theorem TSat.junk(hT:TSat R e T t)(i:Nat):TSat R e (T.set i .junk) t:=⟨by rw[hT.sz,List.length_set],fun j v hv=>by
 rw[yc8]at hv;split at hv
 ·split at hv
  ·cases hv;exact .inl rfl
  ·cases hv
 ·exact hT.get j v hv⟩
theorem TSat.junks:∀(l:List Nat) {T:List SV},TSat R e T t->TSat R e (junks T l) t
 |[],_,h=>h
 |i::r,_,h=>TSat.junks r (h.junk i)
theorem TSat.drop(hT:TSat R e T t):TSat R e (T.map ztC) t:=⟨by rw[hT.sz,yb7],fun j v hv=>by
 rw[yb9]at hv;cases hT':T[j]? with
 |none=>rw[hT']at hv;cases hv
 |some u=>
  rw[hT']at hv;cases hv;unfold ztC;split
  ·exact hT.get j u hT'
  ·exact .inl rfl⟩
theorem zeG:∀{ss:List Nat} {vs:List SV} {T:List SV} {k:List SV->Prop},zeW T ss vs k->TSat R e T t->(∀(i s:Nat) (v:SV),ss[i]? = some s->vs[i]? = some v->∃x,t.get s=some x/\Rep R e v x)->∃T',TSat R e T' t/\k T'
 |[],[],T,k,h,hT,_=>⟨T,hT,h⟩
 |[],_::_,_,_,h,_,_=>h.elim
 |_::_,[],_,_,h,_,_=>h.elim
 |s::ss,v::vs,T,k,h,hT,hv=>by
  simp only[zeW]at h;obtain⟨hs,h⟩:=zcT h;obtain⟨x,h1,h2⟩:=hv 0 s v rfl rfl;refine zeG h ⟨by rw[hT.sz,List.length_set],fun i u hi=>?_⟩ fun i s' v' a b=>hv (i+1) s' v' (by simpa using a) (by simpa using b)
  rw[yc8]at hi;by_cases hq:s=i
  ·subst hq;rw[if_pos rfl,if_pos hs]at hi;cases hi;exact .inr ⟨x,h1,h2⟩
  ·rw[if_neg hq]at hi;exact hT.get i u hi
theorem zdU:∀{n:Nat} {L:List Nat},zhy n L=true->∀o,o<n->zaH o L=true
 |n+1,L,h,o,ho=>by
  unfold zhy at h;split at h
  ·rename_i hm;rcases Nat.lt_or_ge o n with h1 |h1
   ·exact zdU h o h1
   ·rw[show o=n by omega];exact hm
  ·cases h
theorem zkq{ms ss:List Nat}{k:List SV->List SV->List SObj->Prop}(h:zq4 np ms ss dd T O k)(hT:TSat R e T t)(hM:MSat G R e O m){b:Option Nat}(hD:DSat b R m e dd ds):
  ∃e' T' vs O',(∀o u,o<np->e o=some (PM.c u)->e' o=some (PM.c u))/\TSat R e' T' t/\MSat G R e' O' m/\DSat b R m e' dd ds/\k T' vs O'/\∀(i s:Nat) (v:SV),ss[i]? = some s->vs[i]? = some v->∃x,t.get s=some x/\Rep R e' v x:=by
 unfold zq4 at h;obtain⟨vs,h,hvs⟩:=zlz h hT;rw[zkC,zkC,zaf zqu]at h;obtain⟨L,h⟩:=zca h;split at h
 ·rename_i hb;simp only[ya2]at hb;rw[zaf (zek L zah),zaf (zek L zah),zbS]at h;have he:∀i x,zaH i L=true->e i=some x->e.only L i=some x:=fun i x=>DEnv.only_of
  refine⟨e.only L,_,_,_,fun o u ho hh=>he o _ (zdU hb.1 o ho) hh,(((hT.junks ms).junks ss).drop).rs he,hM.only L,hD.step (RO.le.refl R) (Marks.refl R m) (fun o u ho hh=>he o _ (List.all_eq_true.1 hb.2 o ho) hh),h,fun i s v hs hv=>?_⟩;rw[yb9]at hv;cases hv':vs[i]? with
  |none=>rw[hv']at hv;cases hv
  |some u=>
   rw[hv']at hv;cases hv;obtain⟨x,h1,h2⟩:=hvs i s u hs hv';exact⟨x,h1,h2.rs he zah⟩
 ·exact h.elim
theorem MSat.newNil(hM:MSat G R e O m)(ty:TypeId)(sz:Nat)(el:Nat->List SV):e.le (e.put O.length (some .nils))/\MSat G R (e.put O.length (some .nils)) (O++[.list ty sz 0 el]) m:=by
 have hle:=DEnv.le_put (hM.free (Nat.le_refl _)) (some .nils);refine⟨hle,hM.fr,hM.sk,hM.le,hM.rn,fun o y t hy ht=>?_,fun o o' y y' t hy hy' ht ht'=>?_,fun o so ho=>?_,fun o y hy=>?_⟩
 ·unfold DEnv.put at hy;split at hy
  ·cases hy;cases ht
  ·exact hM.own o y t hy ht
 ·unfold DEnv.put at hy hy';split at hy<;>split at hy'
  ·omega
  ·cases hy;cases ht
  ·cases hy';cases ht'
  ·exact hM.inj o o' y y' t hy hy' ht ht'
 ·rcases Nat.lt_trichotomy o O.length with hq |hq |hq
  ·rw[yb8 hq]at ho;rcases hM.ob o so ho with h1 |⟨y,h1,h2⟩
   ·exact .inl h1
   ·exact .inr ⟨y,by rw[DEnv.put_ne _ _ (by omega)];exact h1,h2.mono (RO.le.refl R) hle fun _ _=>rfl⟩
  ·subst hq;simp at ho;subst ho;exact .inr ⟨.nils,DEnv.put_self ..,OR.mkE (.inl rfl)⟩
  ·rw[List.getElem?_eq_none (by simp;omega)]at ho;cases ho
 ·unfold DEnv.put at hy;split at hy
  ·rename_i hq;subst hq;exact⟨_,by simp;rfl,by simp⟩
  ·obtain⟨so',h1,h2⟩:=hM.dom o y hy;exact⟨so',by rw[yb8 (List.getElem?_eq_some_iff.1 h1).1];exact h1,h2⟩
theorem MSat.recell(hM:MSat G R e O m){o t:Nat}{ty:TypeId}{cs:List SV}{xs:List CV}(hx:e o=some (.ptr t 0))(hg:m.get t=some (.cells ty xs))(hcs:RepL R e cs xs):MSat G R e (O.set o (.cells ty cs)) m:=by
 have hlo:o<O.length:=by
  obtain⟨so',h1,_⟩:=hM.dom o _ hx;exact(List.getElem?_eq_some_iff.1 h1).1
 refine⟨hM.fr,hM.sk,hM.le,hM.rn,hM.own,hM.inj,fun i so hi=>?_,fun i z hz=>?_⟩
 ·rw[yc8]at hi;by_cases hq:o=i
  ·subst hq;rw[if_pos rfl,if_pos hlo]at hi;cases hi;exact .inr ⟨_,hx,t,xs,rfl,hg,hcs⟩
  ·rw[if_neg hq]at hi;exact hM.ob i so hi
 ·obtain⟨so,h1,h2⟩:=hM.dom i z hz;by_cases hq:o=i
  ·subst hq;exact⟨_,by rw[yc8,if_pos rfl,if_pos hlo],by simp⟩
  ·exact⟨so,by rw[yc8,if_neg hq];exact h1,h2⟩
theorem zs0{A:Type}{l:List A}{i:Nat}{x:A}(h:l[i]? = some x):l.set i x=l:=by
 apply List.ext_getElem?;intro j;rw[yc8];by_cases hq:i=j
 ·subst hq;rw[if_pos rfl,if_pos (List.getElem?_eq_some_iff.1 h).1,h]
 ·rw[if_neg hq]
theorem zfv:∀{l:List (DPlc×TypeId×Nat)} {e:DEnv} {T:List SV} {O:List SObj} {k:List SV->List SObj->Prop},zlj l T O k->TSat R e T t->MSat G R e O m->∃e' T' O',e.le e'/\TSat R e' T' t/\MSat G R e' O' m/\k T' O'
 |[],e,T,O,k,h,hT,hM=>⟨e,T,O,DEnv.le.refl e,hT,hM,h⟩
 |(.slot s,ty,sz)::r,e,T,O,k,h,hT,hM=>by
  unfold zlj at h;split at h
  ·rename_i x hs;split at h
   ·rw[zbE]at h;obtain⟨h1,h2⟩:=zcT h;obtain⟨hle,hM'⟩:=hM.newNil ty sz fun _=>[]
    have hv:T[s]? = some (.cv .nils):=by
     rw[zcC,ya8]at hs;cases hT':T[s]? with
     |none=>rw[hT']at hs;cases hs
     |some u=>rw[hT']at hs;simpa using hs
    rcases hT.get s _ hv with h3 |⟨y,h3,h4⟩
    ·cases h3
    ·cases h4;have hT2:TSat R (e.put O.length (some .nils)) (T.set s (.lst O.length)) t:=by
      have hT1:=hT.mono (RO.le.refl R) hle;refine⟨by rw[hT1.sz,List.length_set],fun i u hi=>?_⟩;rw[yc8]at hi;by_cases hq:s=i
      ·subst hq;rw[if_pos rfl,if_pos h1]at hi;cases hi;exact .inr ⟨.nils,h3,.lstN (DEnv.put_self ..)⟩
      ·rw[if_neg hq]at hi;exact hT1.get i u hi
     obtain⟨e',T',O',g1,g2,g3,g4⟩:=zfv h2 hT2 hM';exact⟨e',T',O',hle.trans g1,g2,g3,g4⟩
   ·exact h.elim
  ·exact zfv h hT hM
  ·exact h.elim
 |(.cell o off,ty,sz)::r,e,T,O,k,h,hT,hM=>by
  unfold zlj at h;split at h
  ·rename_i ty' cs ho;split at h
   ·rename_i x hs;split at h
    ·obtain⟨h1,h2⟩:=zcT h;rw[zav,zkG,zat]at h2;obtain⟨t',xs,q1,q2,q3⟩:=hM.cells (zay ho (by simp));obtain⟨hle,hM'⟩:=hM.newNil ty sz fun _=>[]
     have hv:cs[off]? = some (.cv .nils):=by
      rw[zcC,ya8]at hs;cases hT':cs[off]? with
      |none=>rw[hT']at hs;cases hs
      |some u=>rw[hT']at hs;simpa using hs
     obtain⟨y,h3,h4⟩:=q3.get hv;cases h4;have hcs:RepL R (e.put O.length (some .nils)) (cs.set off (.lst O.length)) xs:=by
      have:=(q3.mono (RO.le.refl R) hle).set off (v:=.lst O.length) (x:=.nils) (.lstN (DEnv.put_self ..));rw[zs0 h3]at this;exact this
     have hlo:o<O.length:=(List.getElem?_eq_some_iff.1 (zay ho (by simp))).1;have hM2:=hM'.recell (hle _ _ q1) q2 hcs;rw[List.set_append_left _ _ hlo]at hM2;obtain⟨e',T',O',g1,g2,g3,g4⟩:=zfv h2 (hT.mono (RO.le.refl R) hle) hM2;exact⟨e',T',O',hle.trans g1,g2,g3,g4⟩
    ·exact h.elim
   ·exact zfv h hT hM
   ·exact h.elim
  ·exact h.elim
theorem HoldsD.mono{b:Option Nat}{B:Gh->Ctx->Prop}{K K':DKK}{x:Res}{R0:RO}{e0:DEnv}(h:HoldsD b np B R0 e0 K x)(k:∀ex T O dd g,K ex T O dd g->K' ex T O dd g):HoldsD b np B R0 e0 K' x:=by
 obtain⟨ex,t,ds,m,R,e,T,O,dd,g,G,q1,q0,q2,q3,q4,q5,q6,q7⟩:=h.ex;exact⟨ex,t,ds,m,R,e,T,O,dd,g,G,q1,q0,q2,q3,q4,q5,q6,k _ _ _ _ _ q7⟩
theorem zsb{a b:Code}{md:Md}{fa fb:DW}(ha:zck P X c np a md fa)(hb:zck P X c np b md fb):zck P X c np (.seq a b) md (zxk c np a b fa fb):=by
 intro bb B r G R e T O dd g ds m t K hw hB hg h hT hM hD;have key:∀{K':DKK},fa T O dd g K'->(∀ex T O dd g,ex≠.normal->K' ex T O dd g->K ex T O dd g) ->
   (∀R1 e1 T O dd g G ds m t,R.le R1->B g G->TSat R1 e1 T t->MSat G R1 e1 O m->DSat bb R1 m e1 dd ds->K' .normal T O dd g->∃x,HoldsD bb np B R1 e1 K x/\Ev P X (.code b t ds r m) x)->∃x,HoldsD bb np B R e K x/\Ev P X (.code (.seq a b) t ds r m) x:=by
  intro K' h h1 h2;obtain⟨x,hx,hev⟩:=ha hw hB hg h hT hM hD;obtain⟨ex,t',ds',m',R',e',T',O',dd',g',G',rfl,q0,q2,q3,q4,q5,q6,q7⟩:=hx.ex;by_cases he:ex=.normal
  ·subst he;obtain⟨y,hy,hy2⟩:=h2 R' e' T' O' dd' g' G' ds' m' t' q2 q0 q4 q5 q6 q7;refine⟨y,hy.from q2 q3,Ev.step ((Evt.and hev hy2).mono fun ih hq=>?_)⟩;show zgx ih b r (ih (.code a t ds r m))=y;rw[hq.1];exact hq.2
  ·refine⟨.ex ex t' ds' m',⟨ex,t',ds',m',R',e',T',O',dd',g',G',rfl,q0,q2,q3,q4,q5,q6,h1 _ _ _ _ _ he q7⟩,Ev.step (Evt.mono hev fun ih hq=>?_)⟩;show zgx ih b r (ih (.code a t ds r m))=_;rw[hq];cases ex<;>first |rfl |exact absurd rfl he
 unfold zxk at h;split at h
 ·refine key h (fun ex T O dd g he hk=>?_) (fun R1 e1 T O dd g G ds m t hR hB hT hM hD hk=>hb hw hB (hg.mono hR) hk hT hM hD);cases ex<;>first |exact hk |exact absurd rfl he
 ·rename_i ss;obtain⟨J,h1,h2⟩:=h;refine key h1 (fun ex T O dd g he hk=>?_) (fun R1 e1 T' O' dd' g' G' ds' m' t' hR hB' hT' hM' hD' hk=>?_)
  ·cases ex<;>first |exact hk |exact absurd rfl he
  ·obtain⟨rfl,hk⟩:=hk;obtain⟨e2,T2,vs,O2,g1,g2,g3,g4,g5,g6⟩:=zkq hk hT' hM' hD';obtain⟨T3,g7,g8⟩:=zeG (h2 T2 vs O2 g' g5) g2 g6;obtain⟨x,hx,hx2⟩:=hb hw hB' (hg.mono hR) g8 g7 g3 g4;exact⟨x,hx.from (RO.le.refl _) g1,hx2⟩
theorem zpj{x:Operand}{a b:Code}{md:Md}{fa fb:DW}(ha:zck P X c np a md fa)(hb:zck P X c np b md fb):zck P X c np (.cond x a b) md (zvs c x fa fb):=by
 intro bd B r G R e T O dd g ds m t K hw hB hg h hT hM hD;unfold zvs at h;obtain⟨v,y,hv,hr,h⟩:=zab hg hT h;have hput:∀(bb:Bool) (f:DW),y=.bool bb->zty x bb T (fun T=>f T O dd g K)->∃T',TSat R e T' t/\f T' O dd g K:=by
  intro bb f hy h;cases x with
  |tmp d=>
   simp only[zty]at h;obtain⟨hd,h⟩:=zcT h;refine⟨_,⟨by rw[hT.sz,List.length_set],fun i u hi=>?_⟩,h⟩;rw[yc8]at hi;by_cases hq:d=i
   ·subst hq;rw[if_pos rfl,if_pos hd]at hi;cases hi;exact .inr ⟨y,hv,by rw[hy];exact .cv rfl⟩
   ·rw[if_neg hq]at hi;exact hT.get i u hi
  |const _=>exact⟨T,hT,h⟩
  |global _=>exact⟨T,hT,h⟩
  |func _=>exact⟨T,hT,h⟩
 split at h
 ·rename_i bb;cases hr;cases bb with
  |true=>
   obtain⟨T',h1,h2⟩:=hput true fa rfl h;obtain⟨z,hz,hz2⟩:=ha hw hB hg h2 h1 hM hD;refine⟨z,hz,Ev.step (Evt.mono hz2 fun ih hq=>?_)⟩;show zpM ih a b t ds r m (evO t x)=z;rw[hv];exact hq
  |false=>
   obtain⟨T',h1,h2⟩:=hput false fb rfl h;obtain⟨z,hz,hz2⟩:=hb hw hB hg h2 h1 hM hD;refine⟨z,hz,Ev.step (Evt.mono hz2 fun ih hq=>?_)⟩;show zpM ih a b t ds r m (evO t x)=z;rw[hv];exact hq
 ·exact h.elim
theorem znB{id:Nat}{b:Code}{md:Md}{fb:DW}(hb:zck P X c np b md fb):zck P X c np (.block id b) md (fun T O dd g K=>fb T O dd g (zmM id K)):=by
 intro bd B r G R e T O dd g ds m t K hw hB hg h hT hM hD;obtain⟨x,hx,hev⟩:=hb hw hB hg h hT hM hD;obtain⟨ex,t',ds',m',R',e',T',O',dd',g',G',rfl,q0,q2,q3,q4,q5,q6,q7⟩:=hx.ex;cases ex with
 |exit i=>
  simp only[zmM]at q7;cases hq:Nat.beq i id with
  |true=>
   simp only[hq]at q7;exact⟨_,⟨_,_,_,_,R',e',T',O',dd',g',G',rfl,q0,q2,q3,q4,q5,q6,q7⟩,Ev.step (Evt.mono hev fun ih hi=>by
    show zgt id (ih (.code b t ds r m))=_;rw[hi];simp only[zgt,hq])⟩
  |false=>
   simp only[hq]at q7;exact⟨_,⟨_,_,_,_,R',e',T',O',dd',g',G',rfl,q0,q2,q3,q4,q5,q6,q7⟩,Ev.step (Evt.mono hev fun ih hi=>by
    show zgt id (ih (.code b t ds r m))=_;rw[hi];simp only[zgt,hq])⟩
 |_=>exact⟨_,⟨_,_,_,_,R',e',T',O',dd',g',G',rfl,q0,q2,q3,q4,q5,q6,q7⟩,Ev.step (Evt.mono hev fun ih hi=>by show zgt id (ih (.code b t ds r m))=_;rw[hi];rfl)⟩
theorem znk{b:Code}{md:Md}{fb:DW}(hb:zck P X c np b md fb):zck P X c np (.scope b) md (fun T O dd g K=>fb T O dd g (zrX K)):=by
 intro bd B r G R e T O dd g ds m t K hw hB hg h hT hM hD;obtain⟨x,hx,hev⟩:=hb hw hB hg h hT hM hD;obtain⟨ex,t',ds',m',R',e',T',O',dd',g',G',rfl,q0,q2,q3,q4,q5,q6,q7⟩:=hx.ex;cases ex with
 |goto l=>exact q7.elim
 |_=>exact⟨_,⟨_,_,_,_,R',e',T',O',dd',g',G',rfl,q0,q2,q3,q4,q5,q6,q7⟩,Ev.step (Evt.mono hev fun ih hi=>by show zo5 (ih (.code b t ds r m))=_;rw[hi];rfl)⟩
theorem zpn{b:Code}{md:Md}{fb:DW}(hb:zck P X c np b md fb):zck P X c np (.loop b) md (zvA c np b fb):=by
 intro bd B r G R0 e0 T O dd g ds m t K hw hB hg h hT hM hD;unfold zvA at h;split at h
 ·exact h.elim
 rename_i ss hss;obtain⟨en,Tn,On,hen,hT,hM,h⟩:=zfv h hT hM;have hD:=hD.step (RO.le.refl R0) (Marks.refl R0 m) (fun o u _ ho=>hen _ _ ho);obtain⟨e1,T0,vs0,O0,g1',g2,g3,g4,⟨J, μ,hJ0,hstep⟩,g6⟩:=zkq h hT hM hD;have g1:∀o u,o<np->e0 o=some (PM.c u)->e1 o=some (PM.c u):=fun o u ho hh=>g1' o u ho (hen _ _ hh)
 have main:∀n vs O g G R e m t ds,J vs O g -> μ vs O=n->B g G->R0.le R->(∀o u,o<np->e0 o=some (PM.c u)->e o=some (PM.c u))->TSat R e T0 t->MSat G R e O m->DSat bd R m e dd ds->(∀(i s:Nat) (v:SV),ss[i]? = some s->vs[i]? = some v->∃x,t.get s=some x/\Rep R e v x)->∃x,HoldsD bd np B R0 e0 K x/\Ev P X (.code (.loop b) t ds r m) x:=by
  intro n
  induction n using Nat.strongRecOn with
  |_ n ih=>
   intro vs O g G R e m t ds hJ hμ hB hR hk hT hM hD hv;obtain⟨T2,h1,h2⟩:=zeG (hstep vs O g hJ) hT hv;obtain⟨x,hx,hev⟩:=hb hw hB (hg.mono hR) h2 h1 hM hD;obtain⟨ex,t',ds',m',R',e',T',O',dd',g',G',rfl,q0,q2,q3,q4,q5,q6,q7⟩:=hx.ex;have hkk:∀o u,o<np->e0 o=some (PM.c u)->e' o=some (PM.c u):=fun o u ho hh=>q3 o u ho (hk o u ho hh)
   by_cases he:ex=.normal
   ·subst he;obtain⟨rfl,q7⟩:=q7;obtain⟨e2,T3,vs',O3,p1,p2,p3,p4,⟨rfl,p5,p6⟩,p7⟩:=zkq q7 q4 q5 q6;obtain⟨y,hy,hy2⟩:=ih _ (by rw[<- hμ];exact p6) vs' O3 g' G' R' e2 m' t' ds' p5 rfl q0 (hR.trans q2) (fun o u ho hh=>p1 o u ho (hkk o u ho hh)) p2 p3 p4 p7;refine⟨y,hy,Ev.step ((Evt.and hev hy2).mono fun ih hq=>?_)⟩;show zgx ih (.loop b) r (ih (.code b t ds r m))=y;rw[hq.1];exact hq.2
   ·refine⟨.ex ex t' ds' m',⟨ex,t',ds',m',R',e',T',O',dd',g',G',rfl,q0,hR.trans q2,hkk,q4,q5,q6,?_⟩,Ev.step (Evt.mono hev fun ih hq=>?_)⟩
    ·cases ex<;>first |exact q7 |exact absurd rfl he
    ·show zgx ih (.loop b) r (ih (.code b t ds r m))=_;rw[hq];cases ex<;>first |rfl |exact absurd rfl he
 exact main _ vs0 O0 g G R0 e1 m t ds hJ0 rfl hB (RO.le.refl _) g1 g2 g3 g4 g6
theorem znR{ops:List Oper}{l:List (Oper×Nat)}(hpl:zgJ ops=some l):∃bs,l=ops.zip bs/\bs.length=ops.length:=by
 unfold zgJ at hpl;split at hpl
 ·cases hpl
 ·rename_i bs hbs;split at hpl
  ·cases hpl;exact⟨bs,rfl,by rw[zfL hbs];simp⟩
  ·cases hpl
theorem zkY{id:Nat}{ops:Array Oper}{draw:Bool}{md:Md}:zck P X c np (.region id ops draw) md (fun T O dd g K=>match draw with
  |false=>zvZ P X c (zsA ops.toList ops.toList) ops.toList md ops.toList T O dd g K
  |true=>match zwX ops.toList with
   |false=>ClosedB (zgJ ops.toList).isSome/\zpG P c (zsA ops.toList ops.toList) ops.toList O ops.toList T fun T=>K .normal T O dd g
   |true=>ClosedB (zgJ ops.toList).isSome/\zly ops.toList [] fun bs=>zbq (zw6 O) T fun tf=>zbq o1K O fun o0=>zfV P X c (zsA ops.toList ops.toList) ops.toList (zcd O) ops.toList bs 0 ⟨[],[],[],tf,o0⟩ T O (fun T O=>K .normal T O dd g) fun x T O=>match zxt md with
    |true=>K (.panic x) T O dd g
    |false=>False):=by
 intro bd B r G R e T O dd g ds m t K hw hB hg h hT hM hD;cases draw with
 |false=>
  obtain⟨x,h1,h2⟩:=znf hw hB hg h hT hM hD;exact⟨x,h1,Ev.step (h2.mono fun ih hq=>hq)⟩
 |true=>
  have hM':=hM.bump (n:=Nat.add m.nxt ops.toList.length) (Nat.le_add_right _ _);have hD':=hD.step (m:=m) (m':=⟨Nat.add m.nxt ops.toList.length,m.tr⟩) (RO.le.refl R) (fun k a b=>⟨a,b⟩) (fun o u _ hh=>hh);simp only at h;split at h
  ·obtain⟨hp,h⟩:=h;have hp:=hp.out;cases hpl:zgJ ops.toList with
   |none=>rw[hpl]at hp;cases hp
   |some l=>
    obtain⟨bs,rfl,hlen⟩:=znR hpl;obtain⟨T1,t1,ns1,h1,h2,h3⟩:=zgO (T0:=m.nxt) (i:=0) (ns:=[]) hg hM' hlen h hT;refine⟨_,⟨_,_,_,_,R,e,T1,O,dd,g,G,rfl,hB,RO.le.refl R,fun _ _ _ h=>h,h1,hM',hD',h2⟩,Ev.step (.all fun ih=>?_)⟩;show ziq P ih ops.toList t ds m=_;unfold ziq;rw[hpl];simp only;rw[h3];unfold zkv zgG;simp only;have:zbp (Nat.add m.nxt ops.toList.length) [] [(0,0,(⟨Nat.add m.nxt ops.toList.length,m.tr⟩:Mem))]=true:=by
     unfold zbp;rw[yb1 (Nat.le_refl _)];rfl
    rw[this];rfl
  ·obtain⟨hp,h⟩:=h;have hp:=hp.out;cases hpl:zgJ ops.toList with
   |none=>rw[hpl]at hp;cases hp
   |some l=>
    obtain⟨bs0,h0,hlen⟩:=znR hpl;subst h0;obtain⟨bs,Bs,h1,h2,h3⟩:=zk6 (bs:=[]) (Bs:=[]) trivial h;have hBs:Bs=bs0:=by
     unfold zgJ at hpl;rw[h1]at hpl;simp only at hpl;split at hpl
     ·simp only[ya0]at hpl;have hl1:Bs.length=ops.toList.length:=by have:=zfL h1;simpa using this
      have:(ops.toList.zip Bs).map (·.2)=(ops.toList.zip bs0).map (·.2):=by rw[hpl]
      rw[List.map_snd_zip,List.map_snd_zip]at this
      ·exact this
      ·rw[hlen];exact Nat.le_refl _
      ·rw[hl1];exact Nat.le_refl _
     ·cases hpl
    subst hBs;have hw:=hM.sk.wf
    let m0:Mem:=⟨Nat.add m.nxt ops.toList.length,m.tr⟩
    have hget:∀a,m0.get a=m.get a:=fun a=>rfl
    have hMb:MSat ⟨m,zac e (List.range O.length),R⟩ R e O m0:=hM.rebase.bump (n:=Nat.add m.nxt ops.toList.length) (Nat.le_add_right _ _);rw[zaf (zvf O),zaf zt7]at h3;have hri:RI P ⟨m,zac e (List.range O.length),R⟩ m.nxt (Nat.add m.nxt ops.toList.length) O.length 0 ⟨[],[],[],T.map (tf1 O),O.map o1⟩ R e T O ⟨t,m0,0,[],[],[]⟩:=
     RI.empty hMb hT rfl (Nat.le_refl _) (Nat.le_add_right _ _) (Nat.le_refl _) (fun j _=>by rw[hget];exact hw _ (Nat.le_add_right _ _)) (fun o x a hx ha=>by
      obtain⟨_,_,_,hl⟩:=hM.lt hx ha;exact hl) (Old0.start hMb rfl hT) (fun a z hz=>hw.lt (hM.sk.ro a z hz))
    rw[zat]at h3;rcases zov (T0:=m.nxt) (N:=Nat.add m.nxt ops.toList.length) h2 (by rw[Nat.zero_add];exact Nat.le_refl _) hri hg hg h3 with⟨R1,e1,T1,O1,D1,s1,i1,q1,q2,q3,q4,q5⟩ |⟨R1,e1,T1,O1,s1,x,mp,q2,q3,q4,q5,q6,q7,q8,q9⟩
    ·refine⟨.ex .normal s1.t ds (zcJ s1),⟨.normal,s1.t,ds,zcJ s1,R1,e1,T1,O1,dd,g,G,rfl,hB,q2,fun o u _ ho=>q3 o u ho,q1.ts,hM.unbase q2 q1.ms,hD.step q2 (hM.marks q1.ms) (fun o u _ ho=>q3 o u ho),q4⟩,Ev.step (q5.mono fun ih hq=>?_)⟩;show ziq P ih ops.toList t ds m=_;unfold ziq;rw[hpl];simp only;rw[show zaN P ih ops.toList m.nxt (ops.toList.zip Bs) 0 ⟨t,⟨Nat.add m.nxt ops.toList.length,m.tr⟩,0,[],[],[]⟩=.ok s1 from hq];unfold zkv zgG;simp only;rw[q1.free];rfl
    ·split at q8
     ·have hT1:TSat R1 e1 T1 (ziZ (zgv ops.toList 0) s1.t):=⟨by rw[(zeM _ _).1];exact q4.symm,fun i v hv=>.inl (by
       have:=List.all_eq_true.1 q5 v (List.mem_of_getElem? hv);cases v<;>first |rfl |(simp[isJ]at this))⟩
      refine⟨.ex (.panic x) (ziZ (zgv ops.toList 0) s1.t) ds mp,⟨.panic x,_,ds,mp,R1,e1,T1,O1,dd,g,G,rfl,hB,q2,fun o u _ ho=>q3 o u ho,hT1,hM.unbase q2 q6,hD.step q2 (hM.marks q6) (fun o u _ ho=>q3 o u ho),q8⟩,Ev.step (q9.mono fun ih hq=>?_)⟩;show ziq P ih ops.toList t ds m=_;unfold ziq;rw[hpl];simp only;rw[show zaN P ih ops.toList m.nxt (ops.toList.zip Bs) 0 ⟨t,⟨Nat.add m.nxt ops.toList.length,m.tr⟩,0,[],[],[]⟩=.pan x mp s1 from hq];unfold zkv zgG;simp only;rw[q7]
     ·exact q8.elim
def AllP(T:List SV):Prop:=∀(i:Nat) (v:SV),T[i]? = some v->v=.junk\/znH zah v=true
theorem zbQ(T:List SV):AllP (T.map dropP):=fun i v h=>by
 rw[yb9]at h;cases hT:T[i]? with
 |none=>rw[hT]at h;cases h
 |some u=>
  rw[hT]at h;cases h;unfold dropP;split
  ·rename_i hp;exact .inr hp
  ·exact .inl rfl
theorem TSat.dropP(hT:TSat R e T t):TSat R e (T.map Go.Cx.dropP) t:=⟨by rw[hT.sz,yb7],fun j v hv=>by
 rw[yb9]at hv;cases hT':T[j]? with
 |none=>rw[hT']at hv;cases hv
 |some u=>
  rw[hT']at hv;cases hv;unfold Go.Cx.dropP;split
  ·exact hT.get j u hT'
  ·exact .inl rfl⟩
theorem TSat.ptr{R':RO}{e':DEnv}(hT:TSat R e T t)(hp:AllP T)(hR:R.le R')(he:∀o u,o∈T.flatMap (zaG zah)->e o=some (PM.c u)->e' o=some (PM.c u)):TSat R' e' T t:=⟨hT.sz,fun i v hv=>by
 rcases hp i v hv with h1 |h1
 ·exact .inl h1
 ·rcases hT.get i v hv with h2 |⟨x,h2,h3⟩
  ·exact .inl h2
  ·exact .inr ⟨x,h2,zrS hR zah h3 h1 fun o u ho=>he o u (List.mem_flatMap.2 ⟨v,List.mem_of_getElem? hv,ho⟩)⟩⟩
theorem zkj:∀{ps:List Tmp} {vs:List SV} {xs:List CV} {T:List SV} {t:Tmps} {k:List SV->Prop},zl7 ps vs T k->RepL R e vs xs->TSat R e T t->∃T' t',ze3 ps xs t=some t'/\TSat R e T' t'/\k T'
 |[],[],xs,T,t,k,h,hr,hT=>by cases hr;exact⟨T,t,rfl,hT,h⟩
 |p::ps,v::vs,xs,T,t,k,h,hr,hT=>by
  cases hr with
  |cons hv hs=>
   simp only[zl7]at h;obtain⟨h1,h2⟩:=zcT h;obtain⟨T',t',q1,q2,q3⟩:=zkj h2 hs (hT.set hv h1);refine⟨T',t',?_,q2,q3⟩;show(match Nat.blt p t.sz with |true=>ze3 ps _ (t.set p _) |false=>none)=some t';rw[show Nat.blt p t.sz=true from yb1 (by rw[hT.sz];exact h1)];exact q1
 |[],_::_,_,_,_,_,h,_,_=>h.elim
 |_::_,[],_,_,_,_,h,_,_=>h.elim
theorem zjN{k:List SObj->Prop}(h:zv3 np T dd O k)(hM:MSat G R e O m)(hT:TSat R e T t)(hp:AllP T):
  ∃e' O',MSat G R e' O' m/\k O'/\TSat R e' T t/\(∀o u,o<np\/o∈zb0 dd++T.flatMap (zaG zah)->e o=some (PM.c u)->e' o=some (PM.c u))/\∀x∈zac e' (List.range O'.length),x∈zac e (List.range O.length):=by
 unfold zv3 at h;obtain⟨L,h⟩:=zca h;split at h
 ·rename_i hb;simp only[ya2]at hb;rw[zbS]at h;have he:∀o u,o<np\/o∈zb0 dd++T.flatMap (zaG zah)->e o=some (PM.c u)->e.only L o=some (PM.c u):=fun o u ho hh=>by
   rcases ho with ho |ho
   ·exact DEnv.only_of (zdU hb.1 o ho) hh
   ·exact DEnv.only_of (List.all_eq_true.1 hb.2 o ho) hh
  refine⟨e.only L,_,hM.only L,h,hT.ptr hp (RO.le.refl R) fun o u ho hh=>he o u (.inr (List.mem_append.2 (.inr ho))) hh,he,fun x hx=>?_⟩;obtain⟨i,y,_,h1,h2⟩:=zap hx;have h3:=(DEnv.only_some h1).2;obtain⟨so,h4,_⟩:=hM.dom i y h3;exact zaD (List.mem_range.2 (List.getElem?_eq_some_iff.1 h4).1) h3 h2
 ·exact h.elim
theorem zuN{ids:List Nat}{k:List SObj->Prop}(h:zxL np ids T dd O k)(hM:MSat G R e O m)(hT:TSat R e T t)(hp:AllP T):
  ∃e' O',MSat G R e' O' m/\k O'/\TSat R e' T t/\(∀o u,o<np\/o∈zb0 dd++T.flatMap (zaG zah)->e o=some (PM.c u)->e' o=some (PM.c u))/\∀i x,e' i=some x->e i=some x/\i∉ids:=by
 unfold zxL at h;obtain⟨L0,h⟩:=zca h;obtain⟨L,h,hL⟩:=zjJ h;split at h
 ·rename_i hb;simp only[ya2]at hb;rw[zbS]at h;have he:∀o u,o<np\/o∈zb0 dd++T.flatMap (zaG zah)->e o=some (PM.c u)->e.only L o=some (PM.c u):=fun o u ho hh=>by
   rcases ho with ho |ho
   ·exact DEnv.only_of (zdU hb.1 o ho) hh
   ·exact DEnv.only_of (List.all_eq_true.1 hb.2 o ho) hh
  refine⟨e.only L,_,hM.only L,h,hT.ptr hp (RO.le.refl R) fun o u ho hh=>he o u (.inr (List.mem_append.2 (.inr ho))) hh,he,fun i x hi=>?_⟩;obtain⟨h1,h2⟩:=DEnv.only_some hi;refine⟨h2,fun hm=>?_⟩;have:=hL i (memN_iff.1 h1);rw[memN_iff.2 hm]at this;cases this
 ·exact h.elim
theorem AllP.dropId{ids:List Nat}(h:AllP T):AllP (T.map (Go.Cx.dropId ids)):=fun i v hv=>by
 rw[yb9]at hv;cases hT:T[i]? with
 |none=>rw[hT]at hv;cases hv
 |some u=>
  rw[hT]at hv;cases hv;unfold Go.Cx.dropId;split
  ·exact h i u hT
  ·exact .inl rfl
theorem TSat.dropId{ids:List Nat}(hT:TSat R e T t):TSat R e (T.map (Go.Cx.dropId ids)) t:=⟨by rw[hT.sz,yb7],fun j v hv=>by
 rw[yb9]at hv;cases hT':T[j]? with
 |none=>rw[hT']at hv;cases hv
 |some u=>
  rw[hT']at hv;cases hv;unfold Go.Cx.dropId;split
  ·exact hT.get j u hT'
  ·exact .inl rfl⟩
theorem MSat.farTo{R':RO}{m':Mem}{b:Old}{W:List Nat}(hM:MSat G R e O m)(hf:Far b W R m R' m')(hW:∀t∈zac e (List.range O.length),t∈W)(hb:∀t,t<G.m0.nxt->t∉G.S0->b t):MSat G R' e O m':=by
 have hmem:∀i x t,e i=some x->tg x=some t->t∈W:=fun i x t h1 h2=>by
  obtain⟨so,h4,_⟩:=hM.dom i x h1;exact hW t (zaD (List.mem_range.2 (List.getElem?_eq_some_iff.1 h4).1) h1 h2)
 refine⟨⟨Nat.le_trans hM.fr.nxt hf.nxt,fun t ht hs=>?_,fun _=>hf.sk.wf⟩,hf.sk,hM.le.trans hf.le,fun t o hh=>?_,fun i x t h1 h2=>⟨(hM.own i x t h1 h2).1,hf.w t (hmem i x t h1 h2)⟩,hM.inj,fun i so hi=>?_,hM.dom⟩
 ·rw[hf.get t (.inl (hb t ht hs))];exact hM.fr.get t ht hs
 ·rcases hf.rn t o hh with h1 |h1
  ·exact hM.rn t o h1
  ·refine .inr ?_;by_cases h2:t∈G.S0
   ·exact .inr h2
   ·exact .inl (Nat.le_of_not_lt fun h3=>h1 (hb t h3 h2))
 ·rcases hM.ob i so hi with h1 |⟨x,h1,h2⟩
  ·exact .inl h1
  ·exact .inr ⟨x,h1,h2.mono hf.le (DEnv.le.refl _) fun t ht=>hf.get t (.inr (hmem i x t h1 ht))⟩
theorem MSat.newRec{m':Mem}{l:Nat}{o:CO}(hM:MSat G R e O m)(hn:New m l o m'):MSat G R e O m':=by
 refine⟨hM.fr.new hn,hM.sk.new hn,hM.le,hM.rn,hM.own,hM.inj,fun i so hi=>?_,hM.dom⟩;rcases hM.ob i so hi with h1 |⟨x,h1,h2⟩
 ·exact .inl h1
 ·refine .inr ⟨x,h1,h2.mono (RO.le.refl R) (DEnv.le.refl _) fun t ht=>?_⟩;obtain⟨_,_,_,hl⟩:=hM.lt h1 ht;have:=hn.tag;rw[hn.get,if_neg (by omega)]
theorem DSat.lt{b:Option Nat}(hw:Wf m):∀{dd:List DDef} {ds:List CDef},DSat b R m e dd ds->∀k,CDef.mark k∈ds->k<m.nxt
 |_,_,.nil,k,h=>by cases h
 |_,_,.fn _ _ h,k,hk=>by
  rcases List.mem_cons.1 hk with hk |hk
  ·cases hk
  ·exact DSat.lt hw h k hk
 |_,_,.mark _ _ h3 _ _ h,k,hk=>by
  rcases List.mem_cons.1 hk with hk |hk
  ·cases hk;exact hw.lt h3
  ·exact DSat.lt hw h k hk
def zxF(G:Ctx)(R0:RO)(e0:DEnv)(S:Nat->Prop)(l:Nat)(rec:LoopState->Option Code->CO)(J:Nat->List SObj->Prop)(Kp:CEx->List SObj->Prop):Inv:=fun g W R m=>
 ∃e O,W=l::zac e (List.range O.length)/\MSat G R e O m/\R0.le R/\(∀o u,S o->e0 o=some (PM.c u)->e o=some (PM.c u))/\R l=none /\
  ((g.st=false/\m.get l=some (rec .ready none)/\J g.n O)\/(g.st=true/\∃x cd,zfm x=some (some cd)/\m.get l=some (rec .done (some cd))/\Kp x O))
theorem zpe{R0:RO}{e0:DEnv}{l np':Nat}{b:Old}{ys:Nat->Option (List SV)}{J:Nat->List SObj->Prop}{K:DKK}{g0:Gh}{fa fb:DW}{asg body:Code}{ps:List Tmp}{d:Nat}
  (hl:G.m0.nxt<=l) (hb:∀t,t<G.m0.nxt->t∉G.S0->b t) (hg:GlbOk c.glb R0) (hT0:TSat R0 e0 T t) (hp:AllP T)
  (hS:∀o u,o<np\/o∈zb0 dd++T.flatMap (zaG zah)->e0 o=some (PM.c u)->o<np')
  (ha:zck P X c np' asg .rd fa) (hbd:zck P X c np' body .rd fb)
  (hstep:∀n O' vs,J n O'->ys n=some vs->zl7 ps vs T fun T1=>fa T1 O' [] g0 (zrg fb (zjC np T dd g0 (J (n+1)) K))):
  YLaw P X l ys b (zxF G R0 e0 (fun o=>o<np\/o∈zb0 dd++T.flatMap (zaG zah)) l (fun st pe=>.loop st pe t ps asg body d) J fun x O=>K x T O dd g0):=by
 refine⟨fun hi hf=>?_,fun{n W R m vs xs} hi hW hmk hys hr=>?_⟩
 ·obtain⟨e,O,rfl,h1,h2,h3,h4,h5⟩:=hi;have hget:=hf.get l (.inr (ya5 ..));refine⟨e,O,rfl,h1.farTo hf (fun t ht=>ya4 _ ht) hb,h2.trans hf.le,h3,hf.w l (ya5 ..),?_⟩;rw[hget];exact h5
 ·obtain⟨e,O,rfl,hM,hR0,hK,hRl,⟨_,hget,hJ⟩ |⟨hst,_⟩⟩:=hi
  ·have hT:TSat R e T t:=hT0.ptr hp hR0 fun o u ho hh=>hK o u (.inr (List.mem_append.2 (.inr ho))) hh
   obtain⟨T1,t1,z1,z2,z3⟩:=zkj (hstep n O vs hJ hys) (hr.mono (RO.le.refl R) fun _ _ hh=>by cases hh) hT;have hlt:=hmk.wf.lt hget;have hwa:WEnv P X c .rd (some l) none (fun g' G'=>g'=g0/\G'=(⟨m,zac e (List.range O.length),R⟩:Ctx)):=⟨fun h=>absurd rfl h,fun h=>(by cases h),fun _=>⟨rfl,l,rfl,fun g' G' hh=>by
    obtain⟨_,rfl⟩:=hh;exact⟨hlt,hM.tagN hget rfl,_,_,_,_,_,_,_,hget⟩⟩,fun h=>(by rcases h with h |h<;>cases h)⟩
   obtain⟨x1,hx1,hev1⟩:=ha hwa ⟨rfl,rfl⟩ (hg.mono hR0) z3 z2 hM.rebase .nil;obtain⟨ex1,t2,ds1,m1,R1,e1,T2,O1,dd1,g1,G1,rfl,⟨rfl,rfl⟩,q2,q3,q4,q5,q6,q7⟩:=hx1.ex;have hex1:ex1=.normal:=by cases ex1<;>first |rfl |exact q7.elim
   subst hex1;have hdd1:dd1=[]:=by cases dd1 with |nil=>rfl |cons a b=>exact q7.elim
   subst hdd1;have hds1:ds1=[]:=by cases q6 with |nil=>rfl |mark h=>cases h
   subst hds1;have q7:fb T2 O1 [] g1 (zjC np T dd g1 (J (n+1)) K):=q7;have hM1:=hM.unbase q2 q5;have s1:=(WStep.of hM q5).cons hlt hRl (by rw[hget];simp) (hM.tagN hget rfl);have hget1:m1.get l=some (.loop .ready none t ps asg body d):=by rw[q5.fr.get l hlt (hM.tagN hget rfl)];exact hget
   have hRl1:R1 l=none:=(s1.w l (ya5 ..)).2.2.1;have hlt1:=hM1.sk.wf.lt hget1;have s2:=s1.trans (WStep.recd (o:=.loop .busy none t ps asg body d) hM1.sk (fun t ht=>(s1.w t ht).2) (ya5 ..) (by simp));have hM2:=hM1.recd (o:=.loop .busy none t ps asg body d) hget1 rfl hRl1 (.inl hl);have hget2:(m1.put l (.loop .busy none t ps asg body d)).get l=some (.loop .busy none t ps asg body d):=by rw[Mem.get_put,if_pos rfl]
   generalize hm2:m1.put l (.loop .busy none t ps asg body d)=m2 at *;have hlt2:=hM2.sk.wf.lt hget2;have hwb:WEnv P X c .rd (some l) none (fun g' G'=>g'=g1/\G'=(⟨m2,zac e1 (List.range O1.length),R1⟩:Ctx)):=⟨fun h=>absurd rfl h,fun h=>(by cases h),fun _=>⟨rfl,l,rfl,fun g' G' hh=>by
    obtain⟨_,rfl⟩:=hh;exact⟨hlt2,hM2.tagN hget2 rfl,_,_,_,_,_,_,_,hget2⟩⟩,fun h=>(by rcases h with h |h<;>cases h)⟩
   obtain⟨x2,hx2,hev2⟩:=hbd hwb ⟨rfl,rfl⟩ (hg.mono (hR0.trans q2)) q7 q4 hM2.rebase .nil;obtain⟨ex2,t3,ds2,m3,R3,e3,T3,O3,dd3,g3,G3,rfl,⟨rfl,rfl⟩,p2,p3,p4,p5,p6,p7⟩:=hx2.ex;have hM3:=hM2.unbase p2 p5;have s3:=s2.trans ((WStep.of hM2 p5).cons hlt2 hRl1 (by rw[hget2];simp) (hM2.tagN hget2 rfl));have hget3:m3.get l=some (.loop .busy none t ps asg body d):=by rw[p5.fr.get l hlt2 (hM2.tagN hget2 rfl)];exact hget2
   have hRl3:R3 l=none:=(s3.w l (ya5 ..)).2.2.1;have hR3:R0.le R3:=hR0.trans (q2.trans p2);have hK3:∀o u,o<np\/o∈zb0 dd++T.flatMap (zaG zah)->e0 o=some (PM.c u)->e3 o=some (PM.c u):=fun o u ho hh=>p3 o u (hS o u ho hh) (q3 o u (hS o u ho hh) (hK o u ho hh))
   have hy:∀ex m4 v,zfm ex=some v->(∀ih:Task->Res,zbf l m3 v=m4)->ex2=ex->Evt P X fun ih=>zbN ih l xs m=m4:=fun ex m4 v hj he hx=>(Evt.and hev1 hev2).mono fun ih hq=>by
    subst hx;unfold zbN;rw[hget];simp only[z1];rw[hq.1];unfold zjU;simp only[hget1];rw[hm2,hq.2];unfold zg0;simp only[hj];exact he ih
   have stop:∀cd,zfm ex2=some (some cd)->K ex2 T O3 dd g3->∃bb m' R' W',Evt P X (fun ih=>zbN ih l xs m=.ret (.bool bb) m')/\zxF G R0 e0 (fun o=>o<np\/o∈zb0 dd++T.flatMap (zaG zah)) l (fun st pe=>.loop st pe t ps asg body d) J (fun x O=>K x T O dd g3) (Gh.step n bb) W' R' m'/\WStep (l::zac e (List.range O.length)) R m W' R' m':=fun cd hj hk=>by
    refine⟨false,m3.put l (.loop .done (some cd) t ps asg body d),R3,_,hy ex2 _ _ hj (fun ih=>by unfold zbf;rw[hget3]) rfl,⟨e3,O3,rfl,hM3.recd hget3 rfl hRl3 (.inl hl),hR3,hK3,hRl3,.inr ⟨rfl,ex2,cd,hj,by rw[Mem.get_put,if_pos rfl],hk⟩⟩,s3.trans (WStep.recd hM3.sk (fun t ht=>(s3.w t ht).2) (ya5 ..) (by simp))⟩
   cases ex2 with
   |normal=>
    obtain⟨e4,O4,h1,h2,_,h4,h5⟩:=zjN p7 hM3 (hT0.ptr hp hR3 fun o u ho hh=>hK3 o u (.inr (List.mem_append.2 (.inr ho))) hh) hp;refine⟨true,m3.put l (.loop .ready none t ps asg body d),R3,_,hy .normal _ _ rfl (fun ih=>by unfold zbf;rw[hget3]) rfl,⟨e4,O4,rfl,h1.recd hget3 rfl hRl3 (.inl hl),hR3,fun o u ho hh=>h4 o u ho (hK3 o u ho hh),hRl3,.inl ⟨rfl,by rw[Mem.get_put,if_pos rfl],h2⟩⟩,(s3.trans (WStep.recd hM3.sk (fun t ht=>(s3.w t ht).2) (ya5 ..) (by simp))).sub fun x hx=>?_⟩;rcases List.mem_cons.1 hx with rfl |hx
    ·exact ya5 ..
    ·exact ya4 _ (h5 x hx)
   |ret=>exact stop _ rfl p7
   |exit i=>exact stop _ rfl p7
   |panic v=>exact p7.elim
   |goto i=>exact p7.elim
  ·cases hst
def zwl(I:Inv)(bb:Old)(V0:List Nat)(Rz:RO)(m0:Mem)(R0:RO)(e0:DEnv)(S:Nat->Prop)(l:Nat)(rec:LoopState->Option Code->CO)(J:Nat->List SObj->Gh->Prop)(Kp:CEx->List SObj->Gh->Prop):Inv:=fun g W R m=>
 ∃e O gO Wo,W=zac e (List.range O.length)++(l::Wo)/\MSat ⟨m,zac e (List.range O.length),R⟩ R e O m/\I gO Wo R m/\WStep V0 Rz m0 W R m/\(∀t∈Wo,t∉zac e (List.range O.length)/\t≠l)/\(∀t∈zac e (List.range O.length),¬bb t)/\R0.le R/\(∀o u,S o->e0 o=some (PM.c u)->e o=some (PM.c u))/\R l=none /\
  ((g.st=false/\m.get l=some (rec .ready none)/\J g.n O gO)\/(g.st=true/\∃x cd,zfm x=some (some cd)/\m.get l=some (rec .done (some cd))/\Kp x O gO))
theorem zsm{I:Inv}{bb b:Old}{V0:List Nat}{Rz:RO}{m0:Mem}{R0:RO}{e0:DEnv}{l np':Nat}{ys:Nat->Option (List SV)}{J:Nat->List SObj->Gh->Prop}{K:DKK}{fa fb:DW}{asg body:Code}{ps:List Tmp}{d:Nat}
  (hI:YLaw P X c.yl c.ys bb I) (hb0:∀t,bb t->t<m0.nxt) (hl:¬bb l) (hbb:∀t,bb t->b t) (hq:∀t,t<m0.nxt->t∉V0->b t) (hg:GlbOk c.glb R0) (hT0:TSat R0 e0 T t) (hp:AllP T)
  (hS:∀o u,o<np\/o∈zb0 dd++T.flatMap (zaG zah)->e0 o=some (PM.c u)->o<np')
  (ha:zck P X c np' asg .rd fa) (hbd:zck P X c np' body .ry fb)
  (hstep:∀n O' g' vs,J n O' g'->ys n=some vs->zl7 ps vs T fun T1=>fa T1 O' [] g' (zrg fb (znc np T dd (J (n+1)) K))):
  YLaw P X l ys b (zwl I bb V0 Rz m0 R0 e0 (fun o=>o<np\/o∈zb0 dd++T.flatMap (zaG zah)) l (fun st pe=>.loop st pe t ps asg body d) J fun x O g=>K x T O dd g):=by
 refine⟨fun hi hf=>?_,fun{n W R m vs xs} hi hW hmk hys hr=>?_⟩
 ·obtain⟨e,O,gO,Wo,rfl,hM,h1,h2,h3,h4,h5,h6,h7,h8⟩:=hi;have hget:=hf.get l (.inr (by simp));have hf0:=hf.sub (b':=bb) (V:=Wo) hbb fun t ht=>yc3 _ (ya4 _ ht)
  refine⟨e,O,gO,Wo,rfl,hM.farNow hf (fun t ht=>List.mem_append_left _ ht),hI.far h1 hf0,h2.far hf hq,h3,h4,h5.trans hf.le,h6,hf.w l (by simp),?_⟩;rw[hget];exact h8
 ·obtain⟨e,O,gO,Wo,rfl,hM,h1,h2,h3,h4,h5,h6,h7,⟨_,hget,hJ⟩ |⟨hst,_⟩⟩:=hi
  ·have hT:TSat R e T t:=hT0.ptr hp h5 fun o u ho hh=>h6 o u (.inr (List.mem_append.2 (.inr ho))) hh
   obtain⟨T1,t1,z1,z2,z3⟩:=zkj (hstep n O gO vs hJ hys) (hr.mono (RO.le.refl R) fun _ _ hh=>by cases hh) hT;have hlt:=hmk.wf.lt hget;have hln:l∉zac e (List.range O.length):=hM.tagN hget rfl;have hwa:WEnv P X c .rd (some l) none (fun g' G'=>g'=gO/\G'=(⟨m,zac e (List.range O.length),R⟩:Ctx)):=⟨fun h=>absurd rfl h,fun h=>(by cases h),fun _=>⟨rfl,l,rfl,fun g' G' hh=>by
    obtain⟨_,rfl⟩:=hh;exact⟨hlt,hln,_,_,_,_,_,_,_,hget⟩⟩,fun h=>(by rcases h with h |h<;>cases h)⟩
   obtain⟨x1,hx1,hev1⟩:=ha hwa ⟨rfl,rfl⟩ (hg.mono h5) z3 z2 hM .nil;obtain⟨ex1,t2,ds1,m1,R2,e2,T2,O2,dd1,g1,G1,rfl,⟨rfl,rfl⟩,q2,q3,q4,q5,q6,q7⟩:=hx1.ex;have hex1:ex1=.normal:=by cases ex1<;>first |rfl |exact q7.elim
   subst hex1;have hdd1:dd1=[]:=by cases dd1 with |nil=>rfl |cons a b=>exact q7.elim
   subst hdd1;have hds1:ds1=[]:=by cases q6 with |nil=>rfl |mark h=>cases h
   subst hds1;have q7:fb T2 O2 [] g1 (znc np T dd (J (n+1)) K):=q7;have hWo:∀t∈l::Wo,t<m.nxt/\R t=none/\m.get t≠some (.dfr true):=fun t ht=>hW t (yc3 _ ht)
   have hWd:∀t∈l::Wo,t∉zac e (List.range O.length):=fun t ht=>by
    rcases List.mem_cons.1 ht with rfl |ht
    ·exact hln
    ·exact(h3 t ht).1
   have s1:WStep (zac e (List.range O.length)++(l::Wo)) R m (zac e2 (List.range O2.length)++(l::Wo)) R2 m1:=WStep.own2 q5 fun t ht=>⟨(hWo t ht).1,hWd t ht,(hWo t ht).2.1,(hWo t ht).2.2⟩
   have hget1:m1.get l=some (.loop .ready none t ps asg body d):=by rw[q5.fr.get l hlt hln];exact hget
   have hRl2:R2 l=none:=(s1.w l (by simp)).2.2.1;have hlt1:=q5.sk.wf.lt hget1;have s2:=s1.trans (WStep.recd (o:=.loop .busy none t ps asg body d) q5.sk (fun t ht=>(s1.w t ht).2) (l:=l) (by simp) (by simp));have hM2:=(q5.more (S':=l::zac e (List.range O.length)) fun t ht=>ya4 _ ht).recd (o:=.loop .busy none t ps asg body d) hget1 rfl hRl2 (.inr ya5);have hget2:(m1.put l (.loop .busy none t ps asg body d)).get l=some (.loop .busy none t ps asg body d):=by rw[Mem.get_put,if_pos rfl]
   generalize hm2:m1.put l (.loop .busy none t ps asg body d)=m2 at *;have hf2:Far bb Wo R m R2 m2:=hM2.far (b:=bb) (W:=Wo) (fun t ht=>Nat.lt_of_lt_of_le (hb0 t ht) h2.fr.nxt) (fun t ht=>by
    rcases List.mem_cons.1 ht with rfl |ht
    ·exact hl
    ·exact h4 t ht) fun t ht=>⟨(hWo t (ya4 _ ht)).1,fun hh=>(List.mem_cons.1 hh).elim (h3 t ht).2 (h3 t ht).1,(hWo t (ya4 _ ht)).2.1⟩
   have i2:=hI.far h1 hf2;have htag2:∀t∈zac e2 (List.range O2.length),¬bb t:=fun t ht hbt=>by
    rcases q5.tagOwn t ht with a3 |a3
    ·have a3:m.nxt<=t:=a3;have:=hb0 t hbt;have:=h2.fr.nxt;omega
    ·exact h4 t a3 hbt
   have hWd2:∀t∈l::Wo,t∉zac e2 (List.range O2.length):=fun t ht hh=>by
    rcases q5.tagOwn t hh with a3 |a3
    ·have a3:m.nxt<=t:=a3;have:=(hWo t ht).1;omega
    ·exact hWd t ht a3
   have hB2:wB (IL l (.loop .busy none t ps asg body d) I) bb (zac e2 (List.range O2.length)++(l::Wo)) R2 m2 g1 ⟨m2,zac e2 (List.range O2.length),R2⟩:=⟨l::Wo,⟨Wo,rfl,i2,hget2,fun hh=>(h3 l hh).2 rfl⟩,WStep.refl hM2.sk (fun t ht=>(s2.w t ht).2),hWd2,htag2⟩
   have hbm2:∀t,bb t->t<m2.nxt:=fun t ht=>by
    have:=hb0 t ht;have:=h2.fr.nxt;have:=s2.fr.nxt;omega
   have hwb:WEnv P X c .ry (some l) none (wB (IL l (.loop .busy none t ps asg body d) I) bb (zac e2 (List.range O2.length)++(l::Wo)) R2 m2):=⟨fun _ h=>absurd rfl h,fun _=>zxh (zuv hI) hbm2,fun _=>⟨rfl,l,rfl,fun g' G' hh=>by
    obtain⟨W3,⟨W1,rfl,b1,b2,b3⟩,b4,b5,b6⟩:=hh;exact⟨(ztU b4 b5 l ya5).1,b5 l ya5,_,_,_,_,_,_,_,b2⟩⟩,fun _=>⟨_,_,_,_,_,zuv hI,hbm2,rfl⟩⟩
   obtain⟨x2,hx2,hev2⟩:=hbd hwb hB2 (hg.mono (h5.trans q2)) q7 q4 hM2.rebase .nil;obtain⟨ex2,t3,ds2,m3,R3,e3,T3,O3,dd3,g3,G3,rfl,⟨W4,⟨W3,rfl,b1,b6,bl⟩,b3,b4,b5⟩,p2,p3,p4,p5,p6,p7⟩:=hx2.ex;have hW3:=ztU b3 b4;have s3:=s2.trans (ziL b3 b4 p5);have d3:=znW b3 b4 p5;have t3':=zn8 hbm2 b3 b5 p5;have f3:Far bb W3 G3.R0 G3.m0 R3 m3:=(zlM hbm2 b3 b4 b5 p5).sub (fun _ h=>h) fun t ht=>ya4 _ ht
   have i3:=hI.far b1 f3;have hget3:m3.get l=some (.loop .busy none t ps asg body d):=by rw[p5.fr.get l (hW3 l ya5).1 (b4 l ya5)];exact b6
   have hRl3:R3 l=none:=(s3.w l (by simp)).2.2.1;have hR3:R0.le R3:=h5.trans (q2.trans p2);have hK3:∀o u,o<np\/o∈zb0 dd++T.flatMap (zaG zah)->e0 o=some (PM.c u)->e3 o=some (PM.c u):=fun o u ho hh=>p3 o u (hS o u ho hh) (q3 o u (hS o u ho hh) (h6 o u ho hh))
   have hWd3:∀t∈W3,t∉zac e3 (List.range O3.length)/\t≠l:=fun t ht=>⟨d3 t (ya4 _ ht),fun hh=>bl (hh ▸ ht)⟩
   have w3:∀t∈W3,t<m3.nxt/\R3 t=none:=fun t ht=>⟨(s3.w t (yc3 _ (ya4 _ ht))).2.1,(s3.w t (yc3 _ (ya4 _ ht))).2.2.1⟩
   have put:∀(e4:DEnv) (O4:List SObj) (o:CO),o≠.dfr true->MSat ⟨m3,zac e3 (List.range O3.length),R3⟩ R3 e4 O4 m3->(∀x∈zac e4 (List.range O4.length),x∈zac e3 (List.range O3.length)) ->
     MSat ⟨m3.put l o,zac e4 (List.range O4.length),R3⟩ R3 e4 O4 (m3.put l o)/\I g3 W3 R3 (m3.put l o)/\WStep (zac e (List.range O.length)++(l::Wo)) R m (zac e4 (List.range O4.length)++(l::W3)) R3 (m3.put l o):=fun e4 O4 o ho h8 hsub=>by
    have g1:=(h8.more (S':=l::zac e3 (List.range O3.length)) fun t ht=>ya4 _ ht).recd (o:=o) hget3 rfl hRl3 (.inr ya5);have g2:Far bb W3 R3 m3 R3 (m3.put l o):=g1.far (b:=bb) (W:=W3) (fun t ht=>by have:=hbm2 t ht;have:=b3.fr.nxt;have:=p5.fr.nxt;show t<m3.nxt;omega) (fun t ht=>by
     rcases List.mem_cons.1 ht with rfl |ht
     ·exact hl
     ·exact t3' t ht) fun t ht=>⟨(w3 t ht).1,fun hh=>(List.mem_cons.1 hh).elim (hWd3 t ht).2 (hWd3 t ht).1,(w3 t ht).2⟩
    refine⟨g1.rebase,hI.far i3 g2,(s3.trans (WStep.recd (o:=o) p5.sk (fun t ht=>(s3.w t ht).2) (l:=l) (by simp) ho)).sub fun t ht=>?_⟩;rcases List.mem_append.1 ht with ht |ht
    ·exact List.mem_append_left _ (hsub t ht)
    ·exact yc3 _ ht
   have hy:∀ex m4 v,zfm ex=some v->(∀ih:Task->Res,zbf l m3 v=m4)->ex2=ex->Evt P X fun ih=>zbN ih l xs m=m4:=fun ex m4 v hj he hx=>(Evt.and hev1 hev2).mono fun ih hq=>by
    subst hx;unfold zbN;rw[hget];simp only[z1];rw[hq.1];unfold zjU;simp only[hget1];rw[hm2,hq.2];unfold zg0;simp only[hj];exact he ih
   have stop:∀cd,zfm ex2=some (some cd)->K ex2 T O3 dd g3->∃bb2 m' R' W',Evt P X (fun ih=>zbN ih l xs m=.ret (.bool bb2) m')/\zwl I bb V0 Rz m0 R0 e0 (fun o=>o<np\/o∈zb0 dd++T.flatMap (zaG zah)) l (fun st pe=>.loop st pe t ps asg body d) J (fun x O g=>K x T O dd g) (Gh.step n bb2) W' R' m'/\WStep (zac e (List.range O.length)++(l::Wo)) R m W' R' m':=fun cd hj hk=>by
    obtain⟨k1,k2,k4⟩:=put e3 O3 (.loop .done (some cd) t ps asg body d) (by simp) p5.rebase fun x hx=>hx
    exact⟨false,m3.put l (.loop .done (some cd) t ps asg body d),R3,_,hy ex2 _ _ hj (fun ih=>by unfold zbf;rw[hget3]) rfl,⟨e3,O3,g3,W3,rfl,k1,k2,h2.trans k4,hWd3,t3',hR3,hK3,hRl3,.inr ⟨rfl,ex2,cd,hj,by rw[Mem.get_put,if_pos rfl],hk⟩⟩,k4⟩
   cases ex2 with
   |normal=>
    obtain⟨e4,O4,y1,y2,_,y4,y5⟩:=zjN p7 p5.rebase (hT0.ptr hp hR3 fun o u ho hh=>hK3 o u (.inr (List.mem_append.2 (.inr ho))) hh) hp;obtain⟨k1,k2,k4⟩:=put e4 O4 (.loop .ready none t ps asg body d) (by simp) y1 y5;exact⟨true,m3.put l (.loop .ready none t ps asg body d),R3,_,hy .normal _ _ rfl (fun ih=>by unfold zbf;rw[hget3]) rfl,⟨e4,O4,g3,W3,rfl,k1,k2,h2.trans k4,fun t ht=>⟨fun hh=>(hWd3 t ht).1 (y5 t hh),(hWd3 t ht).2⟩,fun t ht=>t3' t (y5 t ht),hR3,fun o u ho hh=>y4 o u ho (hK3 o u ho hh),hRl3,.inl ⟨rfl,by rw[Mem.get_put,if_pos rfl],y2⟩⟩,k4⟩
   |ret=>exact stop _ rfl p7
   |exit i=>exact stop _ rfl p7
   |panic v=>exact p7.elim
   |goto i=>exact p7.elim
  ·cases hst
theorem zh5{ih:Task->Res}{x:CEx}{cd:Code}{r:Option Nat}(h:zfm x=some (some cd)):zny P X ih (.code cd t ds r m)=.ex x t ds m:=by
 cases x<;>simp[zfm]at h<;>subst h<;>rfl
theorem znK{md:Md}{b:Option Nat}{B:Gh->Ctx->Prop}{r:Option Nat}{g:Gh}{gf:Operand}{ps:List Tmp}{asg body:Code}(hdf:md≠.df)(hpf:md≠.pf)(hw:WEnv P X c md r b B)(hB:B g G)(hM:MSat G R e O m)(hD:DSat b R m e dd ds):
  ∃m1 l d ds',(∀ih:Task->Res,ze2 ih gf ps asg body t ds m r=zdn ih l t ds' r m1 (evO t gf))/\m.nxt<=l/\m1.get l=some (.loop .ready none t ps asg body d)/\(∀{G':Ctx} {R':RO} {e':DEnv} {O':List SObj},MSat G' R' e' O' m->R' l=none/\MSat G' R' e' O' m1) /\
   ∀{R':RO} {e':DEnv},R.le R'->Mk R' m->(∀k,m.get k=some (.dfr true)->R k=none->R' k=none)->(∀o u,o∈zb0 dd->e o=some (PM.c u)->e' o=some (PM.c u))->DSat b R' m1 e' dd ds':=by
 by_cases hmd:md=.rd\/md=.ry
 ·obtain⟨hbn,l0,rfl,hl0⟩:=hw.rd hmd;obtain⟨h1,h2,st,pe,t0,ps0,a0,b0,d0,h3⟩:=hl0 g G hB;have hgl:m.get l0=some (.loop st pe t0 ps0 a0 b0 d0):=by rw[hM.fr.get l0 h1 h2];exact h3
  have hn:=New.mk' m (.loop .ready none t ps asg body d0);refine⟨_,m.nxt,d0,ds,fun ih=>?_,Nat.le_refl _,hn.self,fun h=>⟨h.sk.none (Nat.le_refl _),h.newRec hn⟩,fun hR hk hm he=>hD.step hR (fun k h4 h5=>⟨?_,hm k h4 h5⟩) he⟩
  ·unfold ze2;simp only[hgl]
  ·have:=hM.sk.wf.lt h4;rw[hn.get,if_neg (by omega)];exact h4
 ·obtain⟨rfl,hlex⟩:=hw.le (fun h=>hmd (.inl h)) (fun h=>hmd (.inr h));obtain⟨b0,rfl,hle⟩:=hlex hdf hpf;have hn1:=New.mk' m (.dfr true);have hn2:=New.mk' (m.new (.dfr true)) (.loop .ready none t ps asg body m.nxt);have hnx:(m.new (.dfr true)).nxt=m.nxt+1:=hn1.nxt;have hmk:∀k,k<m.nxt+1->((m.new (.dfr true)).new (.loop .ready none t ps asg body m.nxt)).get k=(m.new (.dfr true)).get k:=fun k hk=>by rw[hn2.get,if_neg (by omega)]
  refine⟨_,m.nxt+1,m.nxt,.mark m.nxt::ds,fun ih=>rfl,by omega,?_,fun h=>⟨h.sk.none (by omega),(h.newRec hn1).newRec hn2⟩,fun hR hk hm he=>.mark rfl (Nat.le_trans (hle g G hB) hM.fr.nxt) ?_ (hk.none (Nat.le_refl _)) (DSat.lt hM.sk.wf hD) (hD.step hR (fun k h4 h5=>⟨?_,hm k h4 h5⟩) he)⟩
  ·have:=hn2.self;rw[hnx]at this;exact this
  ·rw[hmk _ (by omega)];exact hn1.self
  ·have:=hM.sk.wf.lt h4;rw[hmk _ (by omega),hn1.get,if_neg (by omega)];exact h4
theorem zoE{L:List SV}(hT:TSat R e T t)(hL:∀v∈L,v∈[]\/v∈T):∃xs,RepL R e L xs:=by
 induction L with
 |nil=>exact⟨_,.nil⟩
 |cons w L ih=>
  obtain⟨xs,h1⟩:=ih fun w hw=>hL w (ya4 _ hw)
  have hw:w∈T:=(hL w ya5).resolve_left (by simp);obtain⟨i,hi⟩:=List.mem_iff_getElem?.1 hw;rcases hT.get i w hi with rfl |⟨x,_,hx⟩
  ·exact⟨.nils::xs,.cons .junk h1⟩
  ·exact⟨x::xs,.cons hx h1⟩
theorem zjg{b:Option Nat}{B:Gh->Ctx->Prop}{r:Option Nat}{g:Gh}{K:DKK}{gf:Operand}{ps:Array Tmp}{asg body:Code}{f:FuncId}{xa xb:List CV}{R1 R2:RO}{e2:DEnv}{m1 m2:Mem}{T2:List SV}{l d:Nat}{ds':List CDef}{J:Nat->List SObj->Prop}{gf':Gh}{W2:List Nat}{y':CV}
  (hv:evO t gf=some (.fn f xa xb)) (ha1:∀ih:Task->Res,ze2 ih gf ps.toList asg body t ds m r=zdn ih l t ds' r m1 (evO t gf)) (hl:G.m0.nxt<=l) (a6:DSat b R1 m1 e2 dd ds') (hT2:TSat R1 e2 T2 t) (hp2:AllP T2)
  (q1:Ev P X (.call f (xa++[.yld l]++xb) m1) (.ret y' m2))
  (q2:zxF G R1 e2 (fun o=>o<np\/o∈zb0 dd++T2.flatMap (zaG zah)) l (fun st pe=>.loop st pe t ps.toList asg body d) J (fun x O=>K x T2 O dd g) gf' W2 R2 m2)
  (hm:Marks R1 m1 R2 m2) (hfin:∀O',gf'.st=false->J gf'.n O'->K .normal T2 O' dd g) (hB:B g G) (hR:R.le R1) (hkeep:∀o u,o<np->e o=some (PM.c u)->e2 o=some (PM.c u)):
  ∃x,HoldsD b np B R e K x/\Ev P X (.code (.rangeFunc gf ps asg body) t ds r m) x:=by
 obtain⟨e3,O3,rfl,hM3,hR3,hK3,hl3,hcase⟩:=q2;have hT3:TSat R2 e3 T2 t:=hT2.ptr hp2 hR3 fun o u ho hh=>hK3 o u (.inr (List.mem_append.2 (.inr ho))) hh
 have fin:∀co,zcl co=true->m2.get l=some co->∀o,o≠.dfr true->MSat G R2 e3 O3 (m2.put l o)/\DSat b R2 (m2.put l o) e3 dd ds':=fun co hr hget o ho=>by
  refine⟨hM3.recd hget hr hl3 (.inl hl),a6.step hR3 (Marks.trans hm fun k h4 h5=>⟨?_,h5⟩) (fun o u ho hh=>hK3 o u (.inr (List.mem_append.2 (.inl ho))) hh)⟩;by_cases hk:k=l
  ·subst hk;rcases hcase with⟨_,h6,_⟩ |⟨_,_,_,_,h6,_⟩
   all_goals (rw[h4]at h6;cases h6)
  ·rw[Mem.get_put,if_neg hk];exact h4
 have kept:∀o u,o<np->e o=some (PM.c u)->e3 o=some (PM.c u):=fun o u ho hh=>hK3 o u (.inl ho) (hkeep o u ho hh)
 have go:∀(ih:Task->Res),ih (.call f (xa++[.yld l]++xb) m1)=.ret y' m2->zny P X ih (.code (.rangeFunc gf ps asg body) t ds r m)=zeb ih l t ds' r m2 (m2.get l):=fun ih hq=>by
  show ze2 ih gf ps.toList asg body t ds m r=_;rw[ha1,hv];show ze4 ih l t ds' r (ih (.call f (xa++[.yld l]++xb) m1))=_;rw[hq];rfl
 rcases hcase with⟨hst,hget,hJ⟩ |⟨hst,x,cd,hj,hget,hk⟩
 ·obtain⟨f1,f2⟩:=fin _ rfl hget (.loop .exhausted none t ps.toList asg body d) (by simp);exact⟨.ex .normal t ds' (m2.put l (.loop .exhausted none t ps.toList asg body d)),⟨_,t,ds',_,R2,e3,_,O3,dd,g,G,rfl,hB,hR.trans hR3,kept,hT3,f1,f2,hfin O3 hst hJ⟩,Ev.step (Evt.mono q1 fun ih hq=>by rw[go ih hq,hget];rfl)⟩
 ·obtain⟨f1,f2⟩:=fin _ rfl hget (.loop .exhausted (some cd) t ps.toList asg body d) (by simp);have hrun:Ev P X (.code cd t ds' r (m2.put l (.loop .exhausted (some cd) t ps.toList asg body d))) (.ex x t ds' (m2.put l (.loop .exhausted (some cd) t ps.toList asg body d))):=Ev.step (.all fun ih=>zh5 hj);exact⟨.ex x t ds' (m2.put l (.loop .exhausted (some cd) t ps.toList asg body d)),⟨_,t,ds',_,R2,e3,_,O3,dd,g,G,rfl,hB,hR.trans hR3,kept,hT3,f1,f2,hk⟩,Ev.step ((Evt.and q1 hrun).mono fun ih hq=>by rw[go ih hq.1,hget];exact hq.2)⟩
theorem zhC{gf:Operand}{ps:Array Tmp}{asg body:Code}{md:Md}(hdf:md≠.df)(hpf:md≠.pf){fa fb:Nat->DW}(ha:∀np,zck P X c np asg .rd (fa np))(hb:∀np,zck P X c np body .rd (fb np)):zck P X c np (.rangeFunc gf ps asg body) md (zqj P X c np gf ps.toList fa fb):=by
 intro b B r G R e T O dd g ds m t K hw hB hg h hT hM hD;unfold zqj at h;obtain⟨v,y,hv,hr,h⟩:=zab hg hT h;obtain⟨L,h,hL⟩:=zgU h;obtain⟨xsL,hLx⟩:=zoE hT hL;obtain⟨R1,e1,l1,T1,O1,p1,p2,p3,p4,p5,h⟩:=zcf 30 (RepL.cons hr hLx) hT hM.rebase h;have hM1:=hM.unbase p1 p5;have hmk1:=hM.marks p5;have hD1:=hD.step p1 hmk1 (fun o u _ hh=>p2 o u hh);obtain⟨m1,l,d,ds',a1,al,a3,anew,adef⟩:=znK (gf:=gf) (ps:=ps.toList) (asg:=asg) (body:=body) (t:=t) hdf hpf hw hB hM hD;have hl:G.m0.nxt<=l:=Nat.le_trans hM.fr.nxt al;split at h
 ·split at h
  ·rename_i f a bb;split at h
   ·rename_i himm;simp only[ya2]at himm;cases p3 with
    |cons p3 _=>
     cases p3 with
     | @fn _ _ _ _ xa xb hra hrb=>
      rw[zaf zhb]at h;obtain⟨e2,O2,hM2,⟨ys,post,hdi,J,hJ0,hstep,hfin⟩,hT2,keep2,sub2⟩:=zjN h hM1 p4.dropP (zbQ _);rw[zat]at hstep;obtain⟨a4,a5⟩:=anew hM2;have a6:DSat b R1 m1 e2 dd ds':=adef p1 hM2.sk (fun k h4 h5=>(hmk1 k h4 h5).2) fun o u ho hh=>keep2 o u (.inr (List.mem_append.2 (.inl ho))) (p2 o u hh)
      have hlt:=a5.sk.wf.lt a3;have hdom:∀o u,o<np\/o∈zb0 dd++(List.map dropP T1).flatMap (zaG zah)->e2 o=some (PM.c u)->o<O2.length:=fun o u _ hh=>by
       obtain⟨so,h4,_⟩:=a5.dom o _ hh;exact(List.getElem?_eq_some_iff.1 h4).1
      have law:=zpe (P:=P) (X:=X) (c:=c) (G:=G) (np:=np) (dd:=dd) (R0:=R1) (e0:=e2) (l:=l) (b:=fun t=>t<m1.nxt) (np':=O2.length) (ys:=ys) (J:=J) (K:=K) (g0:=g) (d:=d) hl (fun t ht _=>by have:=a5.fr.nxt;omega) (hg.mono p1) hT2 (zbQ _) hdom (ha _) (hb _) hstep;have hWall:∀t∈l::zac e2 (List.range O2.length),t<m1.nxt/\R1 t=none/\m1.get t≠some (.dfr true):=fun t ht=>by
       rcases List.mem_cons.1 ht with rfl |ht
       ·exact⟨hlt,a4,by rw[a3];simp⟩
       ·exact a5.tagW t ht
      obtain⟨y',m2,R2,W2,gf',v',q1,q2,q3,q4,q5⟩:=hdi.run law (fun t ht=>ht) (hg.mono p1) a5.sk (W:=l::zac e2 (List.range O2.length)) ⟨e2,O2,rfl,a5,RO.le.refl _,fun _ _ _ h=>h,a4,.inl ⟨rfl,a3,hJ0⟩⟩ hWall (RepL.app (RepL.app (hra.imm himm.1) (RepL.cons (Rep.cv (x:=.yld l) rfl) .nil)) (hrb.imm himm.2));exact zjg hv a1 hl a6 hT2 (zbQ _) q1 q2 (q3.marks a5.sk hWall) (fun O' hst hJ=>hfin gf'.n O' v' hJ (by
       obtain⟨gn,gst⟩:=gf';have hst:gst=false:=hst;subst hst;exact q5)) hB p1 fun o u ho hh=>keep2 o u (.inl ho) (p2 o u hh)
   ·obtain⟨rids,h⟩:=zca h;obtain⟨ids,h⟩:=zkb h;split at h
    ·rename_i hbd;simp only[ya2]at hbd;obtain⟨hd,hall⟩:=hbd;rw[zat]at hall;have hlt0:∀i∈ids,i<O1.length:=fun i him=>ya9 (List.all_eq_true.1 hall i him)
     rw[zaf (zbb _ zah),zaf (zbb _ zah),zfk]at h;rw[zaf zhb,zaf (zpV ids)]at h;cases p3 with
     |cons p3 _=>
      cases p3 with
      | @fn _ _ _ _ xa xb hra hrb=>
       have he:∀i j x,zes i ids 0=some j->e1 i=some x->inE e1 ids j=some x:=fun i j x h1 h2=>by
        have:=(zcv h1).2;rw[Nat.sub_zero]at this;unfold inE;rw[this];exact h2
       obtain⟨e2,O2,hM2,⟨ys,post,hdi,J,hJ0,hstep,hfin⟩,hT2,keep2,sub2⟩:=zuN h hM1 p4.dropP.dropId (zbQ _).dropId;rw[zat]at hstep;obtain⟨a4,a5⟩:=anew hM2;have a6:DSat b R1 m1 e2 dd ds':=adef p1 hM2.sk (fun k h4 h5=>(hmk1 k h4 h5).2) fun o u ho hh=>keep2 o u (.inr (List.mem_append.2 (.inl ho))) (p2 o u hh)
       have hlt:=a5.sk.wf.lt a3;have hdom:∀o u,o<np\/o∈zb0 dd++((List.map dropP T1).map (dropId ids)).flatMap (zaG zah)->e2 o=some (PM.c u)->o<O2.length:=fun o u _ hh=>by
        obtain⟨so,h4,_⟩:=a5.dom o _ hh;exact(List.getElem?_eq_some_iff.1 h4).1
       have hE:=(anew (hM1.enter hd).rebase0).2.rebase0;have hsub:∀t∈zac (inE e1 ids) (List.range (ids.map fun i=>mvO (fun n=>zes n ids 0) (zbt O1 i)).length),∃i x,i∈ids/\e1 i=some x/\tg x=some t:=fun t ht=>by
        obtain⟨j,x,_,b1,b2⟩:=zap ht;obtain⟨i,b3,b4⟩:=zed b1;exact⟨i,x,(zdH b3).2,b4,b2⟩
       have hES:=hE.tagW;generalize hS:zac (inE e1 ids) (List.range (ids.map fun i=>mvO (fun n=>zes n ids 0) (zbt O1 i)).length)=S at *;have hSl:∀t∈S,t≠l:=fun t ht hh=>by
        obtain⟨i,x,_,b1,b2⟩:=hsub t ht;obtain⟨_,_,_,b3⟩:=hM1.lt b1 b2;omega
       have hSo:∀t∈S,t∉zac e2 (List.range O2.length):=fun t ht hh=>by
        obtain⟨i,x,b0,b1,b2⟩:=hsub t ht;obtain⟨j,z,_,b3,b4⟩:=zap hh;obtain⟨b5,b6⟩:=sub2 j z b3;exact b6 (by rw[<- hM1.inj i j x z t b1 b5 b2 b4];exact b0)
       have law:=zpe (P:=P) (X:=X) (c:=c) (G:=G) (np:=np) (dd:=dd) (R0:=R1) (e0:=e2) (l:=l) (b:=fun t=>t<m1.nxt/\t∉S) (np':=O2.length) (ys:=ys) (J:=J) (K:=K) (g0:=g) (d:=d) hl (fun t ht hn=>⟨by have:=a5.fr.nxt;omega,fun hh=>by
        obtain⟨i,x,_,b1,b2⟩:=hsub t hh;rcases(hM1.own i x t b1 b2).1 with b3 |b3
        ·omega
        ·exact hn b3⟩) (hg.mono p1) hT2 (zbQ _).dropId hdom (ha _) (hb _) hstep
       have hWall:∀t∈l::zac e2 (List.range O2.length),t<m1.nxt/\R1 t=none/\m1.get t≠some (.dfr true):=fun t ht=>by
        rcases List.mem_cons.1 ht with rfl |ht
        ·exact⟨hlt,a4,by rw[a3];simp⟩
        ·exact a5.tagW t ht
       obtain⟨y',m2,R2,W2,e',gf',v',Oz,q1,q2,q3,q4,q5,q6,q7,q8⟩:=hdi.run law (fun t ht=>ht.1) (hg.mono p1) (W:=l::zac e2 (List.range O2.length)) ⟨e2,O2,rfl,a5,RO.le.refl _,fun _ _ _ h=>h,a4,.inl ⟨rfl,a3,hJ0⟩⟩ hWall (by
        rw[hS];exact fun t ht=>⟨fun hh=>hh.2 ht,fun hh=>(List.mem_cons.1 hh).elim (hSl t ht) (hSo t ht)⟩) (by rw[hS];exact hE) (RepL.app (RepL.app (hra.mv (RO.le.refl R1) he zah) (RepL.cons (Rep.cv (x:=.yld l) rfl) .nil)) (hrb.mv (RO.le.refl R1) he zah))
       rw[hS]at q3;exact zjg hv a1 hl a6 hT2 (zbQ _).dropId q1 q2 (q3.marks a5.sk fun t ht=>(List.mem_append.1 ht).elim (hES t) (hWall t)) (fun O' hst hJ=>hfin gf'.n O' v' Oz hJ (by
        obtain⟨gn,gst⟩:=gf';have hst:gst=false:=hst;subst hst;exact q8)) hB p1 fun o u ho hh=>keep2 o u (.inl ho) (p2 o u hh)
    ·exact h.elim
  ·exact h.elim
 ·exact h.elim
theorem zg8{gf:Operand}{ps:Array Tmp}{asg body:Code}{md:Md}(hdf:md≠.df)(hpf:md≠.pf)(hmd:md=.it\/md=.ry){fa fb:Nat->DW}(ha:∀np,zck P X c np asg .rd (fa np))(hb:∀np,zck P X c np body .ry (fb np)):zck P X c np (.rangeFunc gf ps asg body) md (zjE P X c np gf ps.toList fa fb):=by
 intro b B r G R e T O dd g ds m t K hw hB hg h hT hM hD;obtain⟨I,b0,V0,Rz,m0,hI,hb0,rfl⟩:=hw.it hmd;unfold zjE at h;obtain⟨v,y,hv,hr,h⟩:=zab hg hT h;obtain⟨L,h,hL⟩:=zgU h;obtain⟨xsL,hLx⟩:=zoE hT hL;obtain⟨R1,e1,l1,T1,O1,p1,p2,p3,p4,p5,h⟩:=zcf 30 (RepL.cons hr hLx) hT hM.rebase h;have hM1:=hM.unbase p1 p5;have hmk1:=hM.marks p5;have hD1:=hD.step p1 hmk1 (fun o u _ hh=>p2 o u hh);obtain⟨m1,l,d,ds',a1,al,a3,anew,adef⟩:=znK (gf:=gf) (ps:=ps.toList) (asg:=asg) (body:=body) (t:=t) hdf hpf hw hB hM hD;have hl:G.m0.nxt<=l:=Nat.le_trans hM.fr.nxt al;split at h
 ·split at h
  ·rename_i f a bb;split at h
   ·rename_i himm;simp only[ya2]at himm;cases p3 with
    |cons p3 _=>
     cases p3 with
     | @fn _ _ _ _ xa xb hra hrb=>
      rw[zaf zhb]at h;obtain⟨e2,O2,hM2,⟨ys,post,hdi,J,hJ0,hstep,hfin⟩,hT2,keep2,sub2⟩:=zjN h hM1 p4.dropP (zbQ _);rw[zat]at hstep;obtain⟨W,b1,b2,b3,b4⟩:=hB;obtain⟨a4,a5⟩:=anew hM2;have a6:DSat b R1 m1 e2 dd ds':=adef p1 hM2.sk (fun k h4 h5=>(hmk1 k h4 h5).2) fun o u ho hh=>keep2 o u (.inr (List.mem_append.2 (.inl ho))) (p2 o u hh)
      have hlt:=a5.sk.wf.lt a3;have hdom:∀o u,o<np\/o∈zb0 dd++(List.map dropP T1).flatMap (zaG zah)->e2 o=some (PM.c u)->o<O2.length:=fun o u _ hh=>by
       obtain⟨so,h4,_⟩:=a5.dom o _ hh;exact(List.getElem?_eq_some_iff.1 h4).1
      have i1:=hI.far b1 (zlM hb0 b2 b3 b4 a5);have w1:=ziL b2 b3 a5;have hdis:=znW b2 b3 a5;have htag:=zn8 hb0 b2 b4 a5;have hnl:m0.nxt<=l:=by have:=b2.fr.nxt;omega
      have hWl:∀t∈W,t≠l:=fun t ht hh=>by have:=(ztU b2 b3 t ht).1;omega
      have hbl:¬b0 l:=fun hh=>by have:=hb0 l hh;omega
      have hWall:∀t∈zac e2 (List.range O2.length)++(l::W),t<m1.nxt/\R1 t=none/\m1.get t≠some (.dfr true):=fun t ht=>by
       rcases List.mem_append.1 ht with ht |ht
       ·exact a5.tagW t ht
       rcases List.mem_cons.1 ht with rfl |ht
       ·exact⟨hlt,a4,by rw[a3];simp⟩
       ·exact(w1.w t (yc3 _ ht)).2
      have w2:WStep V0 Rz m0 (zac e2 (List.range O2.length)++(l::W)) R1 m1:=⟨w1.fr,w1.le,w1.sk,fun t ht=>⟨by
       rcases List.mem_append.1 ht with ht |ht
       ·exact(w1.w t (List.mem_append_left _ ht)).1
       rcases List.mem_cons.1 ht with rfl |ht
       ·exact .inr hnl
       ·exact(w1.w t (yc3 _ ht)).1,hWall t ht⟩,w1.rn⟩
      have law:=zsm (P:=P) (X:=X) (c:=c) (np:=np) (dd:=dd) (bb:=b0) (V0:=V0) (Rz:=Rz) (m0:=m0) (R0:=R1) (e0:=e2) (l:=l) (b:=fun t=>t<m1.nxt) (np':=O2.length) (ys:=ys) (J:=J) (K:=K) (d:=d) hI hb0 hbl (fun t ht=>by have:=hb0 t ht;have:=w1.fr.nxt;omega) (fun t ht _=>by have:=w1.fr.nxt;omega) (hg.mono p1) hT2 (zbQ _) hdom (ha _) (hb _) hstep;obtain⟨y',m2,R2,W2,gf',v',q1,q2,q3,q4,q5⟩:=hdi.run law (fun t ht=>ht) (hg.mono p1) a5.sk (W:=zac e2 (List.range O2.length)++(l::W)) ⟨e2,O2,g,W,rfl,a5.rebase,i1,w2,fun t ht=>⟨hdis t ht,hWl t ht⟩,htag,RO.le.refl _,fun _ _ _ h=>h,a4,.inl ⟨rfl,a3,hJ0⟩⟩ hWall (RepL.app (RepL.app (hra.imm himm.1) (RepL.cons (Rep.cv (x:=.yld l) rfl) .nil)) (hrb.imm himm.2));have hmarks:=q3.marks a5.sk hWall;obtain⟨e3,O3,gO,Wo,rfl,hM3,i3,w3,d3,t3,hR3,hK3,hl3,hcase⟩:=q2;have hT3:TSat R2 e3 (List.map dropP T1) t:=hT2.ptr (zbQ _) hR3 fun o u ho hh=>hK3 o u (.inr (List.mem_append.2 (.inr ho))) hh
      have fin:∀co,zcl co=true->m2.get l=some co->∀o,o≠.dfr true->wB I b0 V0 Rz m0 gO ⟨m2.put l o,zac e3 (List.range O3.length),R2⟩/\MSat ⟨m2.put l o,zac e3 (List.range O3.length),R2⟩ R2 e3 O3 (m2.put l o)/\DSat b R2 (m2.put l o) e3 dd ds':=fun co hr hget o ho=>by
       have g1:=(hM3.more (S':=l::zac e3 (List.range O3.length)) fun t ht=>ya4 _ ht).recd (o:=o) hget hr hl3 (.inr ya5);have w4:=w3.trans (WStep.recd (o:=o) hM3.sk (fun t ht=>(w3.w t ht).2) (l:=l) (by simp) ho);have g2:Far b0 Wo R2 m2 R2 (m2.put l o):=g1.far (b:=b0) (W:=Wo) (fun t ht=>by have:=hb0 t ht;have:=w3.fr.nxt;show t<m2.nxt;omega) (fun t ht=>by
        rcases List.mem_cons.1 ht with rfl |ht
        ·exact hbl
        ·exact t3 t ht) fun t ht=>⟨(w3.w t (yc3 _ (ya4 _ ht))).2.1,fun hh=>(List.mem_cons.1 hh).elim (d3 t ht).2 (d3 t ht).1,(w3.w t (yc3 _ (ya4 _ ht))).2.2.1⟩
       refine⟨⟨Wo,hI.far i3 g2,w4.sub fun t ht=>?_,fun t ht=>(d3 t ht).1,t3⟩,g1.rebase,a6.step hR3 (Marks.trans hmarks fun k h4 h5=>⟨?_,h5⟩) (fun o u ho hh=>hK3 o u (.inr (List.mem_append.2 (.inl ho))) hh)⟩
       ·rcases List.mem_append.1 ht with ht |ht
        ·exact List.mem_append_left _ ht
        ·exact yc3 _ (ya4 _ ht)
       ·by_cases hk:k=l
        ·subst hk;rcases hcase with⟨_,h6,_⟩ |⟨_,_,_,_,h6,_⟩
         all_goals (rw[h4]at h6;cases h6)
        ·rw[Mem.get_put,if_neg hk];exact h4
      have kept:∀o u,o<np->e o=some (PM.c u)->e3 o=some (PM.c u):=fun o u ho hh=>hK3 o u (.inl ho) (keep2 o u (.inl ho) (p2 o u hh))
      have go:∀(ih:Task->Res),ih (.call f (xa++[.yld l]++xb) m1)=.ret y' m2->zny P X ih (.code (.rangeFunc gf ps asg body) t ds r m)=zeb ih l t ds' r m2 (m2.get l):=fun ih hq=>by
       show ze2 ih gf ps.toList asg body t ds m r=_;rw[a1,hv];show ze4 ih l t ds' r (ih (.call f (xa++[.yld l]++xb) m1))=_;rw[hq];rfl
      obtain⟨gn,gst⟩:=gf';rcases hcase with⟨hst,hget,hJ⟩ |⟨hst,x,cd,hj,hget,hk⟩
      ·have hst:gst=false:=hst;subst hst;obtain⟨f0,f1,f2⟩:=fin _ rfl hget (.loop .exhausted none t ps.toList asg body d) (by simp);exact⟨.ex .normal t ds' (m2.put l (.loop .exhausted none t ps.toList asg body d)),⟨_,t,ds',_,R2,e3,_,O3,dd,gO,_,rfl,f0,p1.trans hR3,kept,hT3,f1,f2,hfin gn O3 gO v' hJ q5⟩,Ev.step (Evt.mono q1 fun ih hq=>by rw[go ih hq,hget];rfl)⟩
      ·obtain⟨f0,f1,f2⟩:=fin _ rfl hget (.loop .exhausted (some cd) t ps.toList asg body d) (by simp);have hrun:Ev P X (.code cd t ds' r (m2.put l (.loop .exhausted (some cd) t ps.toList asg body d))) (.ex x t ds' (m2.put l (.loop .exhausted (some cd) t ps.toList asg body d))):=Ev.step (.all fun ih=>zh5 hj);exact⟨.ex x t ds' (m2.put l (.loop .exhausted (some cd) t ps.toList asg body d)),⟨_,t,ds',_,R2,e3,_,O3,dd,gO,_,rfl,f0,p1.trans hR3,kept,hT3,f1,f2,hk⟩,Ev.step ((Evt.and q1 hrun).mono fun ih hq=>by rw[go ih hq.1,hget];exact hq.2)⟩
   ·exact h.elim
  ·exact h.elim
 ·exact h.elim
theorem zaX:∀(code:Code) (np:Nat) (md:Md),zck P X c np code md (dwp P X c code np md)
 |.skip,np,md=>by
  intro hw hB hg h hT hM hD;exact⟨_,⟨_,_,_,_,_,_,_,_,_,_,_,rfl,hB,RO.le.refl _,fun _ _ _ h=>h,hT,hM,hD,h⟩,Ev.step (.all fun ih=>rfl)⟩
 |.label l,np,md=>by
  intro hw hB hg h hT hM hD;exact⟨_,⟨_,_,_,_,_,_,_,_,_,_,_,rfl,hB,RO.le.refl _,fun _ _ _ h=>h,hT,hM,hD,h⟩,Ev.step (.all fun ih=>rfl)⟩
 |.ret,np,md=>by
  intro hw hB hg h hT hM hD;exact⟨_,⟨_,_,_,_,_,_,_,_,_,_,_,rfl,hB,RO.le.refl _,fun _ _ _ h=>h,hT,hM,hD,h⟩,Ev.step (.all fun ih=>rfl)⟩
 |.exit id,np,md=>by
  intro hw hB hg h hT hM hD;exact⟨_,⟨_,_,_,_,_,_,_,_,_,_,_,rfl,hB,RO.le.refl _,fun _ _ _ h=>h,hT,hM,hD,h⟩,Ev.step (.all fun ih=>rfl)⟩
 |.region id ops draw,np,md=>zkY
 |.seq a b,np,md=>zsb (zaX a np md) (zaX b np md)
 |.cond x a b,np,md=>zpj (zaX a np md) (zaX b np md)
 |.block id b,np,md=>znB (zaX b np md)
 |.loop b,np,md=>zpn (zaX b np md)
 |.scope b,np,md=>znk (zaX b np md)
 |.rangeFunc g ps asg body,np,md=>by
  cases md with
  |df=>intro hw hB hg h hT hM hD;exact h.elim
  |pf=>intro hw hB hg h hT hM hD;exact h.elim
  |ry=>exact zg8 (by simp) (by simp) (.inr rfl) (fun np=>zaX asg np .rd) (fun np=>zaX body np .ry)
  |fn=>exact zhC (by simp) (by simp) (fun np=>zaX asg np .rd) (fun np=>zaX body np .rd)
  |it=>exact zg8 (by simp) (by simp) (.inl rfl) (fun np=>zaX asg np .rd) (fun np=>zaX body np .ry)
  |rd=>exact zhC (by simp) (by simp) (fun np=>zaX asg np .rd) (fun np=>zaX body np .rd)
 |.goto l,np,md=>by intro hw hB hg h hT hM hD;exact h.elim
 |.refuse w,np,md=>by intro hw hB hg h hT hM hD;exact h.elim
end
end Go.Cx
namespace Go.Cx
open Go
def zp4:Nat->SV->Option Nat
 |_,.ptr o _=>some o
 |d+1,.agg cs=>cs.findSome? (zp4 d)
 |d+1,.tup cs=>cs.findSome? (zp4 d)
 |d+1,.fn _ a b=>match a.findSome? (zp4 d) with
  |some o=>some o
  |none=>b.findSome? (zp4 d)
 |d+1,.ifc _ v=>zp4 d v
 |_,_=>none
def pcLeaf(o:Nat)(cs:List SV):SV->SV
 |.ptr i off=>match Nat.beq i o with
  |true=>.ipt cs off
  |false=>.ptr i off
 |v=>sbLeaf o .junk v
def pc(o:Nat)(cs:List SV):Nat->SV->SV
 |0,v=>pcLeaf o cs v
 |d+1,.agg l=>.agg (l.map (pc o cs d))
 |d+1,.tup l=>.tup (l.map (pc o cs d))
 |d+1,.fn f a b=>.fn f (a.map (pc o cs d)) (b.map (pc o cs d))
 |d+1,.ifc ty v=>.ifc ty (pc o cs d v)
 |_+1,v=>pcLeaf o cs v
def zw9(np:Nat):Nat->SV->List SObj->(SV->List SObj->Prop)->Prop
 |0,v,O,k=>k v O
 |n+1,v,O,k=>match zp4 zah v with
  |none=>k v O
  |some o=>match Nat.ble np o with
   |false=>k v O
   |true=>match zbt O o with
    |.cells _ cs=>match cs.all (zeg zah)&&cs.all zv0 with
     |true=>zbq (zwQ o .junk) O fun O=>zcI O o .dead fun O=>zw9 np n (pc o cs zah v) O k
     |false=>k v O
    |_=>k v O
section
variable{R R':RO}{e e':DEnv}{o:Nat}{cs:List SV}{G:Ctx}{O:List SObj}{m:Mem}
theorem Rep.pcLeaf(hR:R.le R')(he:∀i x,i≠o->e i=some x->e' i=some x)(hp:∀off x,Rep R e (.ptr o off) x->Rep R' e' (.ipt cs off) x){v:SV}{x:CV}(h:Rep R e v x):Rep R' e' (pcLeaf o cs v) x:=by
 have hj:Rep R' e' (sbLeaf o .junk v) x:=Rep.leaf hR he (fun _ _=>.junk) h;cases v<;>try exact hj
 case ptr i off=>
  simp only[Go.Cx.pcLeaf,zdG];split
  ·rename_i hq;simp at hq;subst hq;exact hp _ _ h
  ·rename_i hq;have hq:¬i=o:=by simpa using hq
   cases h with |ptr h=>exact .ptr (he _ _ hq h)
theorem Rep.pc(hR:R.le R')(he:∀i x,i≠o->e i=some x->e' i=some x)(hp:∀off x,Rep R e (.ptr o off) x->Rep R' e' (.ipt cs off) x):∀(d:Nat) {v:SV} {x:CV},Rep R e v x->Rep R' e' (pc o cs d v) x
 |0,_,_,h=>h.pcLeaf hR he hp
 |d+1,v,x,h=>by
  have hl:∀{vs:List SV} {xs:List CV},RepL R e vs xs->RepL R' e' (vs.map (Go.Cx.pc o cs d)) xs:=by
   intro vs
   induction vs with
   |nil=>intro xs h;cases h;exact .nil
   |cons v vs ih=>intro xs h;cases h with |cons hv hs=>exact .cons (Rep.pc hR he hp d hv) (ih hs)
  cases v
  case agg l=>cases h with |agg h=>exact .agg (hl h)
  case tup l=>cases h with |tup h=>exact .tup (hl h)
  case fn f a b=>cases h with |fn ha hb=>exact .fn (hl ha) (hl hb)
  case ifc ty v=>cases h with |ifc h=>exact .ifc (Rep.pc hR he hp d h)
  all_goals exact h.pcLeaf hR he hp
theorem MSat.freezeC(h:MSat G R e O m){ty:TypeId}(ho:O[o]? = some (.cells ty cs))(himm:cs.all (zeg zah)=true)(hone:cs.all zv0=true):
  ∃R',R.le R'/\(∀off x,Rep R e (.ptr o off) x->Rep R' (e.put o none) (.ipt cs off) x)/\(∀i x,i≠o->e i=some x->e.put o none i=some x)/\MSat G R' (e.put o none) ((O.map (sbO o .junk)).set o .dead) m:=by
 obtain⟨t,xs,hx,hg,hr⟩:=h.cells ho;have hlo:o<O.length:=(List.getElem?_eq_some_iff.1 ho).1;have hRt:=(h.own o _ t hx rfl).2;have hle:=RO.le_add (R:=R) (a:=t) (o:=.cells ty xs) hRt;have hR':∀t' oo,(R.add t (.cells ty xs)) t'=some oo->R t'=some oo\/(t'=t/\m.get t'=some oo):=fun t' oo h=>by
  unfold RO.add at h;split at h
  ·rename_i hq;subst hq;cases h;exact .inr ⟨rfl,hg⟩
  ·exact .inl h
 have he:∀i x,i≠o->e i=some x->e.put o none i=some x:=fun i z hi hz=>by rw[DEnv.put_ne _ _ hi];exact hz
 have hall:∀{vs:List SV} {xs:List CV},RepL R e vs xs->vs.all zv0=true->xs.all one=true:=by
  intro vs
  induction vs with
  |nil=>intro xs h _;cases h;rfl
  |cons v vs ih=>
   intro xs h hh;simp only[List.all_cons,ya2]at hh;cases h with
   |cons hv hs=>simp only[List.all_cons,ya2];exact⟨hv.one hh.1,ih hs hh.2⟩
 refine⟨R.add t (.cells ty xs),hle,fun off x hxx=>?_,he,h.fr,⟨h.sk.wf,fun t' oo hh=>?_⟩,h.le.trans hle,fun t' oo hh=>?_,fun i z t' hz ht=>?_,fun i j z w t' hz hw hzt hwt=>?_,fun i so hi=>?_,fun i z hz=>?_⟩
 ·cases hxx with
  |ptr h1=>
   rw[hx]at h1;cases h1;have hseg:seg xs 0 cs.length=xs:=by
    unfold seg;rw[List.drop_zero,hr.length,List.take_length]
   have:=Rep.ipt (R:=R.add t (.cells ty xs)) (e:=e.put o none) (cs:=cs) (off:=off) (b:=0) (xs:=xs) RO.add_self rfl (by rw[hr.length];omega) (hall hr hone) (by rw[hseg];exact(hr.imm himm).mono hle (DEnv.le.refl _));rw[Nat.zero_add]at this;exact this
 ·rcases hR' t' oo hh with h1 |⟨_,h1⟩
  ·exact h.sk.ro t' oo h1
  ·exact h1
 ·rcases hR' t' oo hh with h1 |⟨rfl,_⟩
  ·exact h.rn t' oo h1
  ·exact .inr (h.own o _ _ hx rfl).1
 ·unfold DEnv.put at hz;split at hz
  ·cases hz
  ·rename_i hq;refine⟨(h.own i z t' hz ht).1,?_⟩;cases hh:(R.add t (.cells ty xs)) t' with
   |none=>rfl
   |some oo=>
    rcases hR' t' oo hh with h1 |⟨rfl,_⟩
    ·rw[(h.own i z t' hz ht).2]at h1;cases h1
    ·exact absurd (h.inj i o z _ _ hz hx ht rfl) hq
 ·unfold DEnv.put at hz hw;split at hz<;>split at hw<;>first |(cases hz;done) |(cases hw;done) |exact h.inj i j z w t' hz hw hzt hwt
 ·rw[yc8]at hi;by_cases hq:o=i
  ·subst hq;rw[if_pos rfl,if_pos (by simpa using hlo)]at hi;cases hi;exact .inl rfl
  ·rw[if_neg hq,yb9]at hi;cases hO:O[i]? with
   |none=>rw[hO]at hi;cases hi
   |some s0=>
    rw[hO]at hi;cases hi;rcases h.ob i s0 hO with rfl |⟨z,h1,h2⟩
    ·exact .inl rfl
    ·refine .inr ⟨z,he i z (fun hh=>hq hh.symm) h1,?_⟩;cases s0 with
     |dead=>exact h2
     |cells ty' cs'=>
      obtain⟨t',xs',rfl,h3,h4⟩:=h2;exact⟨t',xs',rfl,h3,h4.sb hle he (fun _ _=>.junk) zah⟩
     |list ty' sz n el=>exact OR.mono (e:=e) (e':=e) hle (DEnv.le.refl _) h2 fun _ _=>rfl
     |map c f st=>exact OR.mono (e:=e) (e':=e) hle (DEnv.le.refl _) h2 fun _ _=>rfl
 ·unfold DEnv.put at hz;split at hz
  ·cases hz
  ·rename_i hq;obtain⟨s0,h1,h2⟩:=h.dom i z hz;refine⟨sbO o .junk s0,by rw[yc8,if_neg (fun hh=>hq hh.symm),yb9,h1];rfl,?_⟩;cases s0<;>simp[sbO]at h2 ⊢
theorem zrC{np:Nat}:∀(n:Nat) {v:SV} {x:CV} {O:List SObj} {R:RO} {e:DEnv} {k:SV->List SObj->Prop},Rep R e v x->MSat G R e O m->zw9 np n v O k ->
  ∃R' e' v' O',R.le R'/\(∀o u,o<np->e o=some (PM.c u)->e' o=some (PM.c u))/\Rep R' e' v' x/\MSat G R' e' O' m/\k v' O'
 |0,v,x,O,R,e,k,hv,hM,h=>⟨R,e,v,O,RO.le.refl R,fun _ _ _ h=>h,hv,hM,h⟩
 |n+1,v,x,O,R,e,k,hv,hM,h=>by
  unfold zw9 at h;have stay:k v O->∃R' e' v' O',R.le R'/\(∀o u,o<np->e o=some (PM.c u)->e' o=some (PM.c u))/\Rep R' e' v' x/\MSat G R' e' O' m/\k v' O':=fun h=>⟨R,e,v,O,RO.le.refl R,fun _ _ _ h=>h,hv,hM,h⟩
  split at h
  ·exact stay h
  ·rename_i o _;split at h
   ·exact stay h
   ·rename_i hnp;have hnp:=ya9 hnp;split at h
    ·rename_i ty cs ho;split at h
     ·rename_i hb;simp only[ya2]at hb;rw[zaf (zqg o _),zav]at h;obtain⟨R1,h1,h2,h3,h4⟩:=hM.freezeC (zay ho (by simp)) hb.1 hb.2;obtain⟨R2,e2,v2,O2,g1,g2,g3,g4,g5⟩:=zrC n (hv.pc h1 h3 h2 zah) h4 h;exact⟨R2,e2,v2,O2,h1.trans g1,fun i u hi hh=>g2 i u hi (h3 i _ (by omega) hh),g3,g4,g5⟩
     ·exact stay h
    ·exact stay h
end
noncomputable def zpD(P:Program)(T:List SV)(O:List SObj):List ResultVar->(List SV->Prop)->Prop
 |[],k=>k []
 |.tmp i::rs,k=>knK (zdR T i) fun v=>zpD P T O rs fun vs=>k (v::vs)
 |.cell a ty::rs,k=>knK (zdR T a) fun p=>zr2 P ty O p fun v=>zpD P T O rs fun vs=>k (v::vs)
def zu5(k:SV->Prop):List SV->Prop
 |[v]=>k v
 |vs=>k (.tup vs)
def zsZ(np:Nat)(O:List SObj)(post:SV->List SObj->Prop)(v:SV):Prop:=
 zcV 60 O (List.range np++zaG zah v) [] fun L=>match zhy np L with
  |true=>rsK L zah v fun v=>ze7 L 0 O fun O=>post v O
  |false=>False
noncomputable def zeI(P:Program)(X:Ext)(c:DCfg)(fz:Bool)(np:Nat)(rs:List ResultVar)(post:SV->List SObj->Prop):List DDef->List SV->List SObj->Prop
 |[],T,O=>zpD P T O rs (zu5 fun v=>match fz with
  |true=>zmp 9 [v] T O fun l _ O=>match l with
   |[v]=>zw9 np 6 v O fun v O=>zsZ np O post v
   |_=>False
  |false=>zsZ np O post v)
 |.fn f args::dd,T,O=>zg1 (zwF P X c.glb f) args T O fun _ T O=>zeI P X c fz np rs post dd T O
noncomputable def zxu(P:Program)(X:Ext)(c:DCfg)(fz:Bool)(np:Nat)(rs:List ResultVar)(post:SV->List SObj->Prop):DKK:=fun x T O dd _=>match x with
 |.normal=>zeI P X c fz np rs post dd T O
 |.ret=>zeI P X c fz np rs post dd T O
 |_=>False
def zoM:List SV->Nat->(List SV->Prop)->Prop
 |[],0,k=>k []
 |[],n+1,k=>zoM [] n fun T=>k (.junk::T)
 |_::_,0,_=>False
 |v::vs,n+1,k=>zoM vs n fun T=>k (v::T)
noncomputable def zxY(P:Program)(X:Ext)(c:DCfg)(fz:Bool)(fn:Func)(args:List SV)(objs:List SObj)(post:SV->List SObj->Prop):Prop:=
 match fn.body with
 |none=>False
 |some code=>zoM args fn.ntmps fun T=>dwp P X c code (zcd objs) .fn T objs [] gh0 (zxu P X c fz (zcd objs) fn.results.toList post)
where
 svPLK (f:CV->(SV->Prop)->Prop):List CV->(List SV->Prop)->Prop
 |[],k=>k []
 |x::r,k=>f x fun v=>svPLK f r fun vs=>k (v::vs)
section
variable{P:Program}{X:Ext}{c:DCfg}{np:Nat}{G:Ctx}{R:RO}{e:DEnv}{m:Mem}{t:Tmps}{T:List SV}{O:List SObj}
theorem TSat.knGet(hT:TSat R e T t){i:Nat}{k:SV->Prop}(h:knK (zdR T i) k):∃v x,t.get i=some x/\Rep R e v x/\k v:=by
 obtain⟨hn,h⟩:=zcN h;rw[zcC,ya8]at hn h;cases hT':T[i]? with
 |none=>rw[hT']at hn;exact absurd rfl hn
 |some u=>
  rw[hT']at hn h;rcases hT.get i u hT' with h3 |⟨x,h3,h4⟩
  ·exact absurd h3 hn
  ·exact⟨u,x,h3,h4,h⟩
theorem zj9(hT:TSat R e T t)(hM:MSat G R e O m):∀{rs:List ResultVar} {k:List SV->Prop},zpD P T O rs k->∃vs xs,zmq P t m rs=some xs/\RepL R e vs xs/\k vs
 |[],k,h=>⟨[],[],rfl,.nil,h⟩
 |.tmp i::rs,k,h=>by
  simp only[zpD]at h;obtain⟨v,x,h1,h2,h⟩:=hT.knGet h;obtain⟨vs,xs,h3,h4,h5⟩:=zj9 hT hM h;exact⟨v::vs,x::xs,by simp only[zmq,h1,h3],.cons h2 h4,h5⟩
 |.cell a ty::rs,k,h=>by
  simp only[zpD]at h;obtain⟨p,y,h1,h2,h⟩:=hT.knGet h;obtain⟨v,x,h6,h7,h⟩:=zkh hM h2 h;obtain⟨vs,xs,h3,h4,h5⟩:=zj9 hT hM h;exact⟨v::vs,x::xs,by simp only[zmq,h1,h6,h3],.cons h7 h4,h5⟩
theorem ztv{vs:List SV}{xs:List CV}{k:SV->Prop}(hr:RepL R e vs xs)(h:zu5 k vs):∃v,Rep R e v (zic xs)/\k v:=by
 unfold zu5 at h;split at h
 ·cases hr with
  |cons h1 h2=>cases h2;exact⟨_,h1,h⟩
 ·rename_i hn;refine⟨_,?_,h⟩;have:zic xs=.tup xs:=by
   cases hr with
   |nil=>rfl
   |cons h1 h2=>cases h2 with
    |nil=>exact absurd rfl (hn _)
    |cons _ _=>rfl
  rw[this];exact .tup hr
theorem zoB{post:SV->List SObj->Prop}{v:SV}{x:CV}(hM:MSat G R e O m)(hv:Rep R e v x)(h:zsZ np O post v):
  ∃e' v' O',(∀o u,o<np->e o=some (PM.c u)->e' o=some (PM.c u))/\Rep R e' v' x/\MSat G R e' O' m/\post v' O':=by
 unfold zsZ at h;obtain⟨L,h⟩:=zca h;split at h
 ·rename_i hb;rw[zek,zbS]at h;have he:∀i x,zaH i L=true->e i=some x->e.only L i=some x:=fun i x=>DEnv.only_of
  exact⟨e.only L,_,_,fun o u ho hh=>he o _ (zdU hb o ho) hh,hv.rs he zah,hM.only L,h⟩
 ·exact h.elim
theorem zhU:∀{args:List SV} {n:Nat} {k:List SV->Prop},zoM args n k->args.length<=n/\k (args++List.replicate (n - args.length) .junk)
 |[],0,k,h=>⟨Nat.le_refl _,h⟩
 |[],n+1,k,h=>by
  obtain⟨h1,h2⟩:=zhU (args:=[]) (n:=n) h;refine⟨Nat.zero_le _,?_⟩;simpa[List.replicate_succ]using h2
 |v::vs,0,k,h=>h.elim
 |v::vs,n+1,k,h=>by
  obtain⟨h1,h2⟩:=zhU (args:=vs) (n:=n) h;refine⟨by simp;omega,?_⟩;simpa using h2
theorem zjm:∀(vs:List CV) (i j:Nat) (tr:Tr CV),(zb6 i vs tr).get j=if i<=j/\j<i+vs.length then vs[j - i]? else tr.get j
 |[],i,j,tr=>by simp only[zb6,yb2];rw[if_neg (by omega)]
 |v::vs,i,j,tr=>by
  simp only[zb6];rw[zjm vs (i+1) j,Tr.get_set _ _ _ _ _ (by omega)];simp only[ya7];by_cases h1:i+1<=j/\j<i+1+vs.length
  ·rw[if_pos h1,if_pos (by omega),show j - i=(j - (i+1))+1 by omega,yc6]
  ·rw[if_neg h1];by_cases h2:j=i
   ·subst h2;rw[if_pos rfl,if_pos (by omega)];simp
   ·rw[if_neg h2,if_neg (by omega)]
theorem zrN{args:List SV}{xs:List CV}{n:Nat}(hr:RepL R e args xs)(hn:args.length<=n):TSat R e (args++List.replicate (n - args.length) .junk) ⟨n,zb6 0 xs .nil⟩:=by
 refine⟨by simp;omega,fun i v hv=>?_⟩;rcases Nat.lt_or_ge i args.length with hi |hi
 ·rw[yb8 hi]at hv;obtain⟨x,h1,h2⟩:=hr.get hv;refine .inr ⟨x,?_,h2⟩;have hx:i<xs.length:=(List.getElem?_eq_some_iff.1 h1).1;show Bool.rec (motive:=fun _=>Option CV) none ((zb6 0 xs .nil).get i) (Nat.ble (Nat.succ i) n)=some x;rw[show Nat.ble (Nat.succ i) n=true from yb1 (by omega),zjm,if_pos (by omega)];exact h1
 ·rw[yd0 hi]at hv;rw[List.getElem?_replicate]at hv;split at hv
  ·cases hv;exact .inl rfl
  ·cases hv
structure MarksOff(b0:Nat)(R:RO)(m m2:Mem):Prop where
 nxt:m2.nxt=m.nxt
 get:∀t,m2.get t=m.get t\/(b0<=t/\m.get t=some (.dfr true)/\R t=none)
theorem MarksOff.mk2{b0:Nat}{m2:Mem}(h:MarksOff b0 R m m2)(hm:Mk R m):Mk R m2:=by
 refine⟨fun t ht=>?_,fun t o hh=>?_⟩
 ·rcases h.get t with h1 |⟨_,h1,_⟩
  ·rw[h1];exact hm.wf t (by rw[<- h.nxt];exact ht)
  ·have:=hm.wf.lt h1;have:=h.nxt;omega
 ·rcases h.get t with h1 |⟨_,_,h1⟩
  ·rw[h1];exact hm.ro t o hh
  ·rw[h1]at hh;cases hh
theorem MarksOff.obj{b0:Nat}{m2:Mem}(h:MarksOff b0 R m m2)(hM:MSat G R e O m){i t:Nat}{x:CV}(hx:e i=some x)(ht:tg x=some t):m2.get t=m.get t:=by
 rcases h.get t with h1 |⟨_,h1,_⟩
 ·exact h1
 ·obtain⟨o,h2,h3,_⟩:=hM.lt hx ht;rw[h1]at h2;cases h2;cases h3
theorem MSat.off{b0:Nat}{m2:Mem}(hM:MSat G R e O m)(h:MarksOff b0 R m m2)(hb:G.m0.nxt<=b0):MSat G R e O m2:=by
 refine⟨⟨by rw[h.nxt];exact hM.fr.nxt,fun t ht hs=>?_,fun _=>(h.mk2 hM.sk).wf⟩,h.mk2 hM.sk,hM.le,hM.rn,hM.own,hM.inj,fun i so hi=>?_,hM.dom⟩
 ·rcases h.get t with h1 |⟨h1,_⟩
  ·rw[h1];exact hM.fr.get t ht hs
  ·omega
 ·rcases hM.ob i so hi with h1 |⟨x,h1,h2⟩
  ·exact .inl h1
  ·exact .inr ⟨x,h1,h2.mono (RO.le.refl R) (DEnv.le.refl _) fun t ht=>h.obj hM h1 ht⟩
theorem DSat.offMark{b0 l:Nat}:∀{dd:List DDef} {ds:List CDef},DSat (some b0) R m e dd ds->(∀k,CDef.mark k∈ds->k<l)->DSat (some b0) R (m.put l (.dfr false)) e dd ds:=by
 intro dd ds h
 induction h with
 |nil=>intro _;exact .nil
 |fn ha hp h ih=>intro hk;exact .fn ha hp (ih fun k hh=>hk k (ya4 _ hh))
 |mark g1 g2 g3 g4 g5 h ih=>
  intro hk;refine .mark g1 g2 ?_ g4 g5 (ih fun k hh=>hk k (ya4 _ hh));have:=hk _ (ya5 ..);rw[Mem.get_put,if_neg (by omega)];exact g3
theorem MarksOff.mark{b0 l:Nat}{m2:Mem}(h2:b0<=l)(h3:m.get l=some (.dfr true))(h4:R l=none)(q:MarksOff b0 R (m.put l (.dfr false)) m2):MarksOff b0 R m m2:=by
 refine⟨by rw[q.nxt];rfl,fun t'=>?_⟩;by_cases ht:t'=l
 ·subst ht;exact .inr ⟨h2,h3,h4⟩
 ·rcases q.get t' with g1 |⟨g1,g2,g3⟩
  ·left;rw[g1,Mem.get_put,if_neg ht]
  ·rw[Mem.get_put,if_neg ht]at g2;exact .inr ⟨g1,g2,g3⟩
theorem zhP{b0:Nat}{rs:List ResultVar}:∀{ds:List CDef} {m:Mem},DSat (some b0) R m e [] ds->∃m2,(∀ih,leave P ih rs t ds m=leave P ih rs t [] m2)/\MarksOff b0 R m m2
 |_,m,.nil=>⟨m,fun ih=>rfl,rfl,fun t=>.inl rfl⟩
 |_,m,@DSat.mark _ _ _ _ b1 l _ ds h1 h2 h3 h4 h5 h=>by
  cases h1;obtain⟨m2,q1,q2⟩:=zhP (rs:=rs) (h.offMark h5);refine⟨m2,fun ih=>?_,q2.mark h2 h3 h4⟩;rw[<- q1 ih];show(match m.get l with |some (.dfr true)=>leave P ih rs t ds (m.put l (.dfr false)) |_=>.no "mark")=_;rw[h3]
theorem zgs{b0:Nat}{rs:List ResultVar}{f:FuncId}{args:List SV}{dd:List DDef}:∀{ds:List CDef} {m:Mem},DSat (some b0) R m e (.fn f args::dd) ds->∃m2 xs ds2,(∀ih,leave P ih rs t ds m=zhq (leave P ih rs t ds2) (ih (.dcall f xs m2)))/\MarksOff b0 R m m2/\RepL R e args xs/\DSat (some b0) R m2 e dd ds2
 |_,m,.fn ha hp h=>⟨m,_,_,fun ih=>rfl,⟨rfl,fun t=>.inl rfl⟩,ha,h⟩
 |_,m,@DSat.mark _ _ _ _ b1 l _ ds h1 h2 h3 h4 h5 h=>by
  cases h1;obtain⟨m2,xs,ds2,q1,q2,q3⟩:=zgs (rs:=rs) (h.offMark h5);refine⟨m2,xs,ds2,fun ih=>?_,q2.mark h2 h3 h4,q3⟩;rw[<- q1 ih];show(match m.get l with |some (.dfr true)=>leave P ih rs t ds (m.put l (.dfr false)) |_=>.no "mark")=_;rw[h3]
theorem zi7{b0:Nat}{fz:Bool}{rs:List ResultVar}{post:SV->List SObj->Prop}(hb:G.m0.nxt<=b0):∀{dd:List DDef} {ds:List CDef} {R:RO} {e:DEnv} {T:List SV} {O:List SObj} {m:Mem},GlbOk c.glb R->zeI P X c fz np rs post dd T O->TSat R e T t->MSat G R e O m->DSat (some b0) R m e dd ds ->
  ∃y m2,(Evt P X fun ih=>leave P ih rs t ds m=.ret y m2)/\∃R' e' v O',R.le R'/\(∀o u,o<np->e o=some (PM.c u)->e' o=some (PM.c u))/\Rep R' e' v y/\MSat G R' e' O' m2/\post v O'
 |[],ds,R,e,T,O,m,hg,h,hT,hM,hD=>by
  obtain⟨m2,k1,k2⟩:=zhP (P:=P) (t:=t) (rs:=rs) hD;have hM2:=hM.off k2 hb;unfold zeI at h;obtain⟨vs,ys,h1,h2,h⟩:=zj9 hT hM2 h;obtain⟨v,h3,h⟩:=ztv h2 h;have hev:Evt P X fun ih=>leave P ih rs t ds m=.ret (zic ys) m2:=.all fun ih=>by
   rw[k1];show(match zmq P t m2 rs with |some vs=>Res.ret (zic vs) m2 |none=>.no "results")=_;rw[h1]
  cases fz with
  |false=>
   obtain⟨e2,v2,O2,g1,g2,g3,g4⟩:=zoB hM2 h3 h;exact⟨_,_,hev,R,e2,v2,O2,RO.le.refl R,g1,g2,g3,g4⟩
  |true=>
   obtain⟨R2,e2,l,T2,O2,p1,p2,p3,p4,p5,h⟩:=zcf 9 (RepL.cons h3 .nil) hT hM2 h;split at h
   ·cases p3 with
    |cons p3 _=>
     obtain⟨R4,e4,v4,O4,f1,f2,f3,f4,h⟩:=zrC 6 p3 p5 h;obtain⟨e3,v3,O3,g1,g2,g3,g4⟩:=zoB f4 f3 h;exact⟨_,_,hev,R4,e3,v3,O3,p1.trans f1,fun o u ho hh=>g1 o u ho (f2 o u ho (p2 o u hh)),g2,g3,g4⟩
   ·exact h.elim
 |.fn f args::dd,ds,R,e,T,O,m,hg,h,hT,hM,hD=>by
  obtain⟨m2,xs,ds2,k1,k2,k3,k4⟩:=zgs (P:=P) (t:=t) (rs:=rs) hD;have hM2:=hM.off k2 hb;unfold zeI at h;obtain⟨y,m3,q1,q2⟩:=zh1 hg hM2.rebase hT k3 h;obtain⟨R1,e1,v,T1,O1,g1,g2,g3,g4,g5,g6⟩:=q2.ex;obtain⟨y2,m4,z1,R5,e5,v5,O5,z2,z3,z4⟩:=zi7 hb (hg.mono g1) g6 g4 (hM2.unbase g1 g5) (k4.step g1 (hM2.marks g5) (fun o u _ hh=>g2 o u hh));refine⟨y2,m4,(Evt.and q1 z1).mono fun ih hq=>?_,R5,e5,v5,O5,g1.trans z2,fun o u ho hh=>z3 o u ho (g2 o u hh),z4⟩;rw[k1,hq.1];exact hq.2
theorem zaw{f:FuncId}{fn:Func}(c:DCfg)(fz:Bool)(hf:P.funcs[f]? = some fn)(hn:ze6 fn=true)(hX:X f=none){args:List SV}{objs:List SObj}{post:SV->List SObj->Prop}(h:zxY P X c fz fn args objs post):DSpec P X c.glb f args objs post:=by
 refine⟨fun G R e m xs hg hM ha=>?_⟩;unfold zxY at h;split at h
 ·exact h.elim
 rename_i code hb;obtain⟨hl,hk⟩:=zhU h;have hT:=zrN ha hl;obtain⟨x,hx,hev⟩:=zaX code (zcd objs) .fn (G:=G) (b:=some G.m0.nxt) (B:=fun _ G'=>G=G') ⟨fun _ _=>⟨rfl,fun _ _=>⟨_,rfl,fun _ _ h=>by rw[h];exact Nat.le_refl _⟩⟩,fun h=>(by cases h),fun h=>(by rcases h with h |h<;>cases h),fun h=>(by rcases h with h |h<;>cases h)⟩ rfl hg hk hT hM .nil;obtain⟨ex,t',ds',m',R',e',T',O',dd',g',G',rfl,rfl,q2,q3,q4,q5,q6,q7⟩:=hx.ex;have hcall:∀ih,zny P X ih (.call f xs m)=zdq P ih fn.results.toList (ih (.code code ⟨fn.ntmps,zb6 0 xs .nil⟩ [] none m)):=fun ih=>by
  show zr9 P ih f xs m (X f)=_;rw[hX];show ztl P ih xs m P.funcs[f]? = _;rw[hf];rw[zpL hb];unfold zb4;rw[<- ha.length];rw[yb1 hl,hn];rfl
 have hleave:zeI P X c fz (zcd objs) fn.results.toList post dd' T' O'->(∀ih,zdq P ih fn.results.toList (.ex ex t' ds' m')=leave P ih fn.results.toList t' ds' m')->∃y m',Ev P X (.call f xs m) (.ret y m')/\∃R' e' v O',R.le R'/\(∀o u,e o=some (PM.c u)->e' o=some (PM.c u))/\Rep R' e' v y/\MSat G R' e' O' m'/\post v O':=by
  intro h he;obtain⟨y,m2,z1,R5,e5,v5,O5,z2,z3,z4⟩:=zi7 (Nat.le_refl _) (hg.mono q2) h q4 q5 q6;refine⟨y,m2,Ev.step ((Evt.and hev z1).mono fun ih hq=>by rw[hcall,hq.1,he];exact hq.2),R5,e5,v5,O5,q2.trans z2,fun o u ho=>?_,z4⟩;obtain⟨so,h5,_⟩:=hM.dom o _ ho;have hlt:o<zcd objs:=by rw[zat];exact(List.getElem?_eq_some_iff.1 h5).1
  exact z3 o u hlt (q3 o u hlt ho)
 have fin:(∃y m',Ev P X (.call f xs m) (.ret y m')/\∃R' e' v O',R.le R'/\(∀o u,e o=some (PM.c u)->e' o=some (PM.c u))/\Rep R' e' v y/\MSat G R' e' O' m'/\post v O'):=by
  cases ex with
  |normal=>exact hleave q7 fun ih=>rfl
  |ret=>exact hleave q7 fun ih=>rfl
  |panic v=>exact q7.elim
  |exit i=>exact q7.elim
  |goto l=>exact q7.elim
 obtain⟨y,m2,h1,R2,e2,v2,O2,h2,h3,h4,h5,h6⟩:=fin;exact⟨y,m2,R2,e2,v2,O2,h1,h2,h3,h4,h5,h6⟩
theorem DSat.some{b0:Nat}{dd:List DDef}{ds:List CDef}(h:DSat none R m e dd ds):DSat (some b0) R m e dd ds:=by
 induction h with
 |nil=>exact .nil
 |fn ha hp _ ih=>exact .fn ha hp ih
 |mark h=>cases h
theorem Fr.up{S:List Nat}{m m':Mem}(h:Fr S m m'):Fr S m m'.up:=⟨Nat.le_succ_of_le h.nxt,h.get,fun w t ht=>h.wf w t (Nat.le_of_succ_le ht)⟩
theorem Mk.up{R:RO}{m:Mem}(h:Mk R m):Mk R m.up:=⟨fun t ht=>h.wf t (Nat.le_of_succ_le ht),h.ro⟩
theorem MSat.up{G:Ctx}{R:RO}{e:DEnv}{O:List SObj}{m:Mem}(h:MSat G R e O m):MSat G R e O m.up:=
 ⟨h.fr.up,h.sk.up,h.le,h.rn,h.own,h.inj,fun o so ho=>(h.ob o so ho).imp id fun⟨x,h1,h2⟩=>⟨x,h1,by cases so<;>exact h2⟩,h.dom⟩
theorem zjv{gl:List (Nat×List CV)}{f:FuncId}{g:Mem->List CV->Option CV}(hX:X f=some g){args:List SV}{v:SV}(hg:∀(R:RO) (m:Mem) (xs:List CV),GlbOk gl R->Mk R m->RepL R noE args xs->∃y,g m xs=some y/\∀e,Rep R e v y)(himm:args.all (zeg zah)=true):DSpec P X gl f args [] (fun v' O=>v'=v/\O=[]):=
 ⟨fun G R e m xs hgl hM ha=>by
  obtain⟨y,h1,h2⟩:=hg R m xs hgl hM.sk (ha.imm himm);exact⟨y,m.up,R,e,v,[],Ev.step (.all fun ih=>by
   show zr9 P ih f xs m (X f)=_;rw[hX];show zxP m (g m xs)=_;rw[h1];rfl),RO.le.refl R,fun _ _ h=>h,h2 e,hM.up,rfl,rfl⟩⟩
theorem zlO{gl:List (Nat×List CV)}{f:FuncId}{g:Mem->List CV->Option CV}(hX:X f=some g){args:List SV}{v:SV}{y:CV}(hv:∀R e,Rep R e v y)(hg:∀(R:RO) (m:Mem) (xs:List CV),Mk R m->RepL R noE args xs->g m xs=some y)(himm:args.all (zeg zah)=true):DSpec P X gl f args [] (fun v' O=>v'=v/\O=[]):=
 zjv hX (fun R m xs _ h1 h2=>⟨y,hg R m xs h1 h2,hv R⟩) himm
theorem zjk{gl:List (Nat×List CV)}{f:FuncId}{g:Mem->List CV->Option CV}(hX:X f=some g){args:List SV}{v:SV}{y:CV}(hv:∀R e,Rep R e v y)(hg:∀(R:RO) (m:Mem) (xs:List CV),GlbOk gl R->Mk R m->RepL R noE args xs->g m xs=some y)(himm:args.all (zeg zah)=true):DSpec P X gl f args [] (fun v' O=>v'=v/\O=[]):=
 zjv hX (fun R m xs h0 h1 h2=>⟨y,hg R m xs h0 h1 h2,hv R⟩) himm
end
def inB(x l h:Int):Bool:=decide (l<=x)&&decide (x<=h)
theorem zz:(∀x l h:Int,inB x l h=(decide (l<=x)&&decide (x<=h)))/\(∀(α : Type) (l:List α) (i:Nat) (a : α),l.getD i a=(l[i]?).getD a)/\(∀a b:Bool,((a&&b)=true)=(a=true/\b=true))/\(∀a b:Bool,((a||b)=true)=(a=true\/b=true)) /\
  (∀a b:Bool,(a&&b)=false↔a=false\/b=false)/\(∀a b:Bool,(a||b)=false↔a=false/\b=false)/\(∀b:Bool,((!b)=true)=(b=false))/\(∀b:Bool,((!b)=false)=(b=true))/\(∀(p:Prop) [Decidable p],(decide p=true)=p)/\(∀(p:Prop) [Decidable p],decide p=false↔¬p) /\
  (∀(α : Type) [BEq α] [LawfulBEq α] (a b : α),(a==b)=true↔a=b)/\(∀(α : Type) [BEq α] [LawfulBEq α] (a b : α),(a != b)=true↔a≠b)/\(∀(α : Type) [BEq α] [LawfulBEq α] (a b : α),(a != b)=false↔a=b)/\(∀(α : Type) [BEq α] [LawfulBEq α] (a b : α),(a==b)=false↔a≠b) /\
  ((false=true)=False)/\((true=false)=False)/\(∀(α : Type) (a b : α),(a≠b)=¬(a=b))/\(∀p:Prop,(True↔p)=p)/\(∀p:Prop,(p↔True)=p)/\(∀p:Prop,(False↔p)=¬p)/\(∀p:Prop,(p↔False)=¬p)/\(∀b:Bool,(¬(b=true))=(b=false))/\(∀b:Bool,(¬(b=false))=(b=true)):=
 ⟨fun _ _ _=>rfl,fun _ l i a=>ya8 ..,fun a b=>ya2 a b,fun a b=>Bool.or_eq_true a b,fun a b=>Bool.and_eq_false_iff,fun a b=>Bool.or_eq_false_iff,fun b=>Bool.not_eq_true' b,fun b=>Bool.not_eq_false' b,fun p=>decide_eq_true_eq,fun p=>decide_eq_false_iff_not,
  fun _=>fun _ _=>beq_iff_eq,fun _=>fun _ _=>bne_iff_ne,fun _=>fun _ _=>bne_eq_false_iff_eq,fun _=>fun _ _=>beq_eq_false_iff_ne,Bool.false_eq_true,Bool.true_eq_false,fun _ a b=>ne_eq a b,fun p=>true_iff p,fun p=>iff_true p,fun p=>false_iff p,fun p=>iff_false p,fun b=>Bool.not_eq_true b,fun b=>Bool.not_eq_false b⟩
end Go.Cx
