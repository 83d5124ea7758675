import Derived.Test.YtogdglnaagkaaaaDoorGa
import Derived.Test.YtogdglnaagkaaaaDoorGc
import Derived.Lib.LaidU8
import Derived.Lib.LaidTab
import Derived.Below
import Derived.LaidLaws
set_option linter.unusedSimpArgs false
set_option linter.unusedVariables false
namespace Go.Cx
open Go
noncomputable def zBY:BinOp->IntKind->IntKind->Int->Int->COut:=
 @BinOp.rec (fun _=>IntKind->IntKind->Int->Int->COut)
  (same zpM) (same zqM) (same zqG) (same zmB) (same zmR) (same ztL) (same zxO) (same zug) (zzN znw) (zzN zny) (same zi2) (same zqx) (same zqD) (same zqj) (same zqz) (same zqB) (same zql)
noncomputable def zBX:BinOp->List Nat->List Nat->COut:=
 @BinOp.rec (fun _=>List Nat->List Nat->COut)
  zi0 (fun _ _=>.no "binop") (fun _ _=>.no "binop") (fun _ _=>.no "binop") (fun _ _=>.no "binop") (fun _ _=>.no "binop") (fun _ _=>.no "binop") (fun _ _=>.no "binop") (fun _ _=>.no "binop") (fun _ _=>.no "binop") (fun _ _=>.no "binop") zpV zp2 zw1 zw6 zwT zw7
noncomputable def zmg:BinOp->Program->Bool->TypeId->CV->CV->COut:=
 @BinOp.rec (fun _=>Program->Bool->TypeId->CV->CV->COut)
  (fun _ _ _ _ _=>.no "binop") (fun _ _ _ _ _=>.no "binop") (fun _ _ _ _ _=>.no "binop") (fun _ _ _ _ _=>.no "binop") (fun _ _ _ _ _=>.no "binop") (fun _ _ _ _ _=>.no "binop") (fun _ _ _ _ _=>.no "binop") (fun _ _ _ _ _=>.no "binop") (fun _ _ _ _ _=>.no "binop") (fun _ _ _ _ _=>.no "binop") (fun _ _ _ _ _=>.no "binop") (fun P c=>cEq P c false) (fun P c=>cEq P c true) (fun _ _ _ _ _=>.no "binop") (fun _ _ _ _ _=>.no "binop") (fun _ _ _ _ _=>.no "binop") (fun _ _ _ _ _=>.no "binop")
theorem zxU(op:BinOp):zBY op=zro op:=by cases op<;>rfl
theorem zxL(op:BinOp):zBX op=zsD op:=by cases op<;>rfl
theorem zxP(op:BinOp)(P:Program)(c:Bool):zmg op P c=zgM P c op:=by cases op<;>rfl
noncomputable def zCf:CV->BinOp->IntKind->Int->COut:=
 @CV.rec (fun _=>BinOp->IntKind->Int->COut) (fun _=>PUnit)
  (fun _=>fun _ _ _=>.no "binop")
  (fun k' b=>fun op k a=>zBY op k k' a b)
  (fun _=>fun _ _ _=>.no "binop")
  (fun _ _=>fun _ _ _=>.no "binop")
  (fun _ _=>fun _ _ _=>.no "binop")
  (fun _ _=>fun _ _ _=>.no "binop")
  (fun _ _ _ _=>fun _ _ _=>.no "binop")
  (fun _ _ _=>fun _ _ _=>.no "binop")
  (fun _ _ _=>fun _ _ _=>.no "binop")
  (fun _ _ _ _ _=>fun _ _ _=>.no "binop")
  (fun _=>fun _ _ _=>.no "binop")
  (fun _=>fun _ _ _=>.no "binop")
  (fun _ _ _=>fun _ _ _=>.no "binop")
  (fun _ _ _=>.no "binop")
  (fun _ _ _=>.no "binop")
  (fun _ _ _=>.no "binop")
  (fun _ _ _=>.no "binop")
  (fun _ _ _=>.no "binop")
  (fun _ _ _ _=>fun _ _ _=>.no "binop")
  (fun _=>fun _ _ _=>.no "binop")
  ⟨⟩ (fun _ _ _ _=>⟨⟩)
noncomputable def zCi:CV->BinOp->List Nat->COut:=
 @CV.rec (fun _=>BinOp->List Nat->COut) (fun _=>PUnit)
  (fun _=>fun _ _=>.no "binop")
  (fun _ _=>fun _ _=>.no "binop")
  (fun b=>fun op a=>zBX op a b)
  (fun _ _=>fun _ _=>.no "binop")
  (fun _ _=>fun _ _=>.no "binop")
  (fun _ _=>fun _ _=>.no "binop")
  (fun _ _ _ _=>fun _ _=>.no "binop")
  (fun _ _ _=>fun _ _=>.no "binop")
  (fun _ _ _=>fun _ _=>.no "binop")
  (fun _ _ _ _ _=>fun _ _=>.no "binop")
  (fun _=>fun _ _=>.no "binop")
  (fun _=>fun _ _=>.no "binop")
  (fun _ _ _=>fun _ _=>.no "binop")
  (fun _ _=>.no "binop")
  (fun _ _=>.no "binop")
  (fun _ _=>.no "binop")
  (fun _ _=>.no "binop")
  (fun _ _=>.no "binop")
  (fun _ _ _ _=>fun _ _=>.no "binop")
  (fun _=>fun _ _=>.no "binop")
  ⟨⟩ (fun _ _ _ _=>⟨⟩)
noncomputable def zB4:CV->BinOp->Program->Bool->TypeId->CV->COut:=
 @CV.rec (fun _=>BinOp->Program->Bool->TypeId->CV->COut) (fun _=>PUnit)
  (fun u0=>fun op P c t y=>zmg op P c t (.bool u0) y)
  (fun k a=>fun op _ _ _ y=>zCf y op k a)
  (fun a=>fun op _ _ _ y=>zCi y op a)
  (fun u0 _=>fun op P c t y=>zmg op P c t (.agg u0) y)
  (fun u0 _=>fun op P c t y=>zmg op P c t (.tup u0) y)
  (fun u0 u1=>fun op P c t y=>zmg op P c t (.ptr u0 u1) y)
  (fun u0 u1 u2 u3=>fun op P c t y=>zmg op P c t (.slc u0 u1 u2 u3) y)
  (fun u0 u1 u2=>fun op P c t y=>zmg op P c t (.opn u0 u1 u2) y)
  (fun u0 u1 u2=>fun op P c t y=>zmg op P c t (.emp u0 u1 u2) y)
  (fun u0 u1 u2 _ _=>fun op P c t y=>zmg op P c t (.fn u0 u1 u2) y)
  (fun u0=>fun op P c t y=>zmg op P c t (.yld u0) y)
  (fun u0=>fun op P c t y=>zmg op P c t (.map u0) y)
  (fun u0 u1 _=>fun op P c t y=>zmg op P c t (.ifc u0 u1) y)
  (fun op P c t y=>zmg op P c t (.nilp) y)
  (fun op P c t y=>zmg op P c t (.nils) y)
  (fun op P c t y=>zmg op P c t (.nilf) y)
  (fun op P c t y=>zmg op P c t (.nilm) y)
  (fun op P c t y=>zmg op P c t (.nili) y)
  (fun _ _ _ _=>fun _ _ _ _ _=>.no "binop")
  (fun u0=>fun op P c t y=>zmg op P c t (.void u0) y)
  ⟨⟩ (fun _ _ _ _=>⟨⟩)
noncomputable def zAN(op:BinOp)(P:Program)(c:Bool)(t:TypeId)(x y:CV):COut:=zB4 x op P c t y
theorem zxk(op:BinOp)(P:Program)(c:Bool)(t:TypeId)(x y:CV):zAN op P c t x y=zrM P c op t x y:=by
 unfold zAN;cases x
 case int k a=>cases y<;>first |rfl |exact congrFun (congrFun (congrFun (congrFun (zxU op) _) _) _) _
 case str a=>cases y<;>first |rfl |exact congrFun (congrFun (zxL op) _) _
 case res=>rfl
 all_goals exact congrFun (congrFun (congrFun (zxP op P c) _) _) _
noncomputable def zAC:Op->Program->Nat->Mem->Tmps->COut:=
 @Op.rec (fun _=>Program->Nat->Mem->Tmps->COut)
  (fun x=>fun P T m t=>un1 zjI x m t)
  (fun x=>fun P T m t=>un1 zjI x m t)
  (fun c a b=>fun P T m t=>zc3 c a b m t)
  (fun e=>fun P T m t=>zb3 P T e m t)
  (fun e x=>fun P T m t=>un1 (fun m v=>zjs T m e v) x m t)
  (fun ty ps=>fun P T m t=>zc0 P ty ps m t)
  (fun ty n ps=>fun P T m t=>zap P T ty n ps m t)
  (fun ty x k v=>fun P T m t=>znB (fun m x k v=>zaQ P m ty x k v) x k v m t)
  (fun ty a=>fun P T m t=>un1 (fun m v=>zd9 P m ty v) a m t)
  (fun ty a x=>fun P T m t=>zb2 (fun m a x=>zaO P m ty a x) a x m t)
  (fun _=>fun _ _ _ _=>.no "operation")
  (fun _=>fun _ _ _ _=>.no "operation")
  (fun x=>fun P T m t=>un1 zyT x m t)
  (fun op ty x y yt=>fun P T m t=>zb2 (fun _=>zAN op P (zjJ x||zjJ y) ty) x y m t)
  (fun op ty x=>fun P T m t=>un1 (fun _=>cUn op) x m t)
  (fun s d x=>fun P T m t=>un1 (fun m v=>zbe P T m s d v) x m t)
  (fun _ _=>fun _ _ _ _=>.no "operation")
  (fun ty x=>fun P T m t=>un1 (zjf P ty) x m t)
  (fun fn a b=>fun P T m t=>zeD fn a b m t)
  (fun ty r=>fun P T m t=>zhD T r m t)
  (fun _ _=>fun _ _ _ _=>.no "operation")
  (fun ty l c=>fun P T m t=>zb2 (fun m l c=>zar P T m ty l c) l c m t)
  (fun ty x lo hi mx=>fun P T m t=>zbD P ty x lo hi mx m t)
  (fun ty x f=>fun P T m t=>un1 (fun _ v=>zbg P ty v f) x m t)
  (fun ty x f=>fun P T m t=>un1 (fun _ v=>zfR P ty v f) x m t)
  (fun ty x i=>fun P T m t=>zb2 (fun m x i=>zam P m ty x i) x i m t)
  (fun ty x i=>fun P T m t=>zb2 (fun _ x i=>zem P ty x i) x i m t)
  (fun ty x k ok=>fun P T m t=>zb2 (fun m x k=>zbS P m ty x k ok) x k m t)
  (fun ty x k v=>fun P T m t=>znB (fun m x k v=>zaQ P m ty x k v) x k v m t)
  (fun ty x k=>fun P T m t=>zb2 (fun m x k=>zcr P m ty x k) x k m t)
  (fun ty x s v=>fun P T m t=>znB (fun m x s v=>zbm m x s v) x s v m t)
  (fun _ _=>fun _ _ _ _=>.no "operation")
  (fun _ _=>fun _ _ _ _=>.no "operation")
  (fun _=>fun _ _ _ _=>.no "operation")
  (fun x xt a ok=>fun P T m t=>un1 (fun _ v=>zaK P v a ok) x m t)
  (fun x i=>fun P T m t=>un1 (ze3 i) x m t)
  (fun c=>fun P T m t=>zbA P T c m t)
  (fun _=>fun _ _ _ _=>.no "operation")
  (fun c=>fun P T m t=>zb5 c m t)
  (fun x=>fun P T m t=>un1 zqR x m t)
  (fun _ _=>fun _ _ _ _=>.no "operation")
  (fun _ _ _=>fun _ _ _ _=>.no "operation")
  (fun _ _=>fun _ _ _ _=>.no "operation")
theorem zuG(op:Op)(P:Program)(T:Nat)(m:Mem)(t:Tmps):zAC op P T m t=zbf P T op m t:=by
 cases op<;>first
  |rfl
  |(show zb2 (fun _=>zAN _ P _ _) _ _ m t=zb2 (fun _=>zrM P _ _ _) _ _ m t;congr 1;funext _ x y;exact zxk _ _ _ _ _ _)
noncomputable def zAF:COut->(Task->Res)->Option Nat->KK->Option Tmp->Tmps->List CDef->Mem->Res:=
 @COut.rec (fun _=>(Task->Res)->Option Nat->KK->Option Tmp->Tmps->List CDef->Mem->Res)
  (fun w=>fun _ _ _ _ _ _ _=>.no w)
  (fun v=>fun _ _ k dst t ds m=>zmV k dst v t ds m)
  (fun v m=>fun _ _ k dst t ds _=>zmV k dst v t ds m)
  (fun f args=>fun ih _ k dst t ds m=>zlD k dst t ds (ih (.call f args m)))
  (fun l args=>fun ih _ k dst t ds m=>zuv k dst t ds (zb6 ih l args m))
  (fun f args=>fun ih r k dst t ds m=>after ih r k dst t ds m (.defer f args))
  (fun _ _ _ _ _ _ _=>.no "recover")
  (fun v=>fun _ _ _ _ t ds m=>.ex (.panic v) t ds m)
theorem ztD(out:COut)(ih:Task->Res)(r:Option Nat)(k:KK)(dst:Option Tmp)(t:Tmps)(ds:List CDef)(m:Mem):zAF out ih r k dst t ds m=after ih r k dst t ds m out:=by
 cases out<;>rfl
noncomputable def zBh(P:Program)(ih:Task->Res)(ops:List Oper)(r:Option Nat)(o:Oper)(k:KK)(t:Tmps)(ds:List CDef)(m:Mem)(g:Option (Nat×Bool)):Res:=
 match zaE ops t g with
 |some true=>zAF (zAC o.op P m.nxt m t) ih r k o.dst t ds m
 |some false=>zmV k o.dst zaq t ds m
 |none=>.no "guard"
noncomputable def zBd(P:Program)(ih:Task->Res)(ops:List Oper)(r:Option Nat):Oper->KK->KK:=
 @Oper.rec (fun _=>KK->KK) (fun dst op ty pos aft g=>fun k t ds m=>
  @Option.rec (Nat×Bool) (fun _=>Res) (zAF (zAC op P m.nxt m t) ih r k dst t ds m) (fun g'=>zBh P ih ops r ⟨dst,op,ty,pos,aft,some g'⟩ k t ds m (some g')) g)
theorem zyr(P:Program)(ih:Task->Res)(ops:List Oper)(r:Option Nat)(o:Oper)(k:KK):zBd P ih ops r o k=zdg P ih ops r o k:=by
 obtain⟨dst,op,ty,pos,aft,g⟩:=o;funext t ds m;cases g with
 |none=>
  show zAF (zAC op P m.nxt m t) ih r k dst t ds m=after ih r k dst t ds m (cop P op m t);rw[ztD,zuG];rfl
 |some g=>
  show zBh P ih ops r _ k t ds m (some g)=_;unfold zBh zdg;simp only;split
  ·rename_i h;simp only[h,ztD,zuG];rfl
  ·rename_i h;simp only[h]
  ·rename_i h;simp only[h]
noncomputable def zAI(P:Program)(ih:Task->Res)(ops:List Oper)(r:Option Nat)(l:List Oper):KK:=
 List.rec (motive:=fun _=>KK) (fun t ds m=>.ex .normal t ds m) (fun o _ k=>zBd P ih ops r o k) l
theorem zr5(P:Program)(ih:Task->Res)(ops:List Oper)(r:Option Nat):∀l,zAI P ih ops r l=zdA P ih ops r l
 |[]=>rfl
 |o::l=>by
  show zBd P ih ops r o (zAI P ih ops r l)=zdg P ih ops r o (zdA P ih ops r l);rw[zr5 P ih ops r l,zyr]
noncomputable def zAd:Code->Program->(Task->Res)->Tmps->List CDef->Option Nat->Mem->Res:=
 @Code.rec (fun _=>Program->(Task->Res)->Tmps->List CDef->Option Nat->Mem->Res)
  (fun _ _ t ds _ m=>.ex .normal t ds m)
  (fun _ ops draw=>fun P ih t ds r m=>@Bool.rec (fun _=>Res) (zAI P ih ops.toList r ops.toList t ds m) (zjB P ih ops.toList t ds m) draw)
  (fun a b _ _=>fun _ ih t ds r m=>zhx ih b r (ih (.code a t ds r m)))
  (fun x a b _ _=>fun _ ih t ds r m=>zrw ih a b t ds r m (evO t x))
  (fun id b _=>fun _ ih t ds r m=>zhg id (ih (.code b t ds r m)))
  (fun b _=>fun _ ih t ds r m=>zhx ih (.loop b) r (ih (.code b t ds r m)))
  (fun g ps asg body _ _=>fun _ ih t ds r m=>zgd ih g ps.toList asg body t ds m r)
  (fun id=>fun _ _ t ds _ m=>.ex (.exit id) t ds m)
  (fun b _=>fun _ ih t ds r m=>zqw (ih (.code b t ds r m)))
  (fun _=>fun _ _ t ds _ m=>.ex .normal t ds m)
  (fun l=>fun _ _ t ds _ m=>.ex (.goto l) t ds m)
  (fun _ _ t ds _ m=>.ex .ret t ds m)
  (fun w=>fun _ _ _ _ _ _=>.no w)
theorem zv4(c:Code)(P:Program)(ih:Task->Res)(t:Tmps)(ds:List CDef)(r:Option Nat)(m:Mem):zAd c P ih t ds r m=zxv P ih t ds r m c:=by
 cases c<;>first
  |rfl
  |(rename_i id ops draw;cases draw<;>first |rfl |(show zAI P ih ops.toList r ops.toList t ds m=_;rw[zr5];rfl))
noncomputable def zz1(P:Program)(X:Ext)(ih:Task->Res):Task->Res:=
 @Task.rec (fun _=>Res) (fun f args m=>zrD P ih f args m (X f)) (fun f args m=>zkw P ih args m P.funcs[f]?) (fun f args v m=>zqI P ih args m v P.funcs[f]?) (fun c t ds r m=>zAd c P ih t ds r m)
noncomputable def zu3(P:Program)(X:Ext)(n:Nat):Task->Res:=
 Nat.rec (motive:=fun _=>Task->Res) (fun _=>.no "fuel") (fun _ ih=>zz1 P X ih) n
theorem zsb(P:Program)(X:Ext):∀n,zu3 P X n=zmj P X n
 |0=>rfl
 |n+1=>by
  show zz1 P X (zu3 P X n)=zlc P X (zmj P X n);rw[zsb P X n];funext k;cases k with
  |call f args m=>rfl
  |dcall f args m=>rfl
  |rcall f args v m=>rfl
  |code c t ds r m=>exact zv4 c P _ t ds r m
end Go.Cx
namespace Go.Cx
open Go Go.RowKit
variable{P:Program}
def zxg(W:World):Bas:=⟨W,fun k=>k<W.heap.size,fun k=>k<W.heap.size,fun _=>False,fun _ h=>h,fun _ h=>h⟩
def zrN(bs:List Blk):Env:=fun t=>if t<64 then some ⟨t,0,0,0⟩else bs[t - 64]?
theorem zo1{bs:List Blk}{t:Nat}(h:t<64):zrN bs t=some ⟨t,0,0,0⟩:=if_pos h
def RowsOk(W:World)(bs:List Blk)(l:List (Nat×List CV)):Prop:=∀g cs,(g,cs)∈l->g<64/\cs.all one=true/\∃vs ty fr,denL (zrN bs) cs=some vs/\W.heap[g]? = some (.cells vs.toArray ty fr)
def zzI(W:World)(bs:List Blk)(l:List (Nat×List CV)):Prop:=∀g cs,(g,cs)∈l->cs.all one=true/\∃b vs pre suf ty fr,zrN bs g=some b/\pre.length=b.off/\denL (zrN bs) cs=some vs/\W.heap[b.blk]? = some (.cells (pre++vs++suf).toArray ty fr)/\(g<64->suf=[])
theorem RowsOk.G{W:World}{bs:List Blk}{l:List (Nat×List CV)}(h:RowsOk W bs l):zzI W bs l:=fun g cs hm=>by
 obtain⟨h1,h2,vs,ty,fr,h3,h4⟩:=h g cs hm;exact⟨h2,_,vs,[],[],ty,fr,zo1 h1,rfl,h3,by simpa using h4,fun _=>rfl⟩
noncomputable def zg7(k:Nat):List (Nat×List CV)->Mem
 |[]=>⟨k,.nil⟩
 |(g,cs)::r=>(zg7 k r).put g (.ro cs)
theorem zlY{k:Nat}:∀l,(zg7 k l).nxt=k
 |[]=>rfl
 |(g,cs)::r=>zlY r
theorem zf5{k:Nat}:∀{l:List (Nat×List CV)} {t:Nat} {o:CO},(zg7 k l).get t=some o->∃cs,(t,cs)∈l/\o=.ro cs
 |[],t,o,h=>by simp[zg7,Mem.get,Tr.get_nil]at h
 |(g,cs)::r,t,o,h=>by
  unfold zg7 at h;rw[Mem.get_put]at h;by_cases hq:t=g
  ·rw[if_pos hq]at h;cases h;exact⟨cs,by rw[hq];exact ya5 ..,rfl⟩
  ·rw[if_neg hq]at h;obtain⟨cs',h1,h2⟩:=zf5 h;exact⟨cs',ya4 _ h1,h2⟩
theorem zBR{W:World}{bs:List Blk}{l:List (Nat×List CV)}(h:zzI W bs l):Rel (zxg W) (zrN bs) (zg7 (64+bs.length) l) W:=by
 refine⟨fun t o ho=>?_,fun t t' o o' b b' h1 h2 hr1 hr2 hb hb' hq=>?_,fun t o b h1 hro hb=>?_,fun t o b h1 hro hb=>?_,fun g hg=>zo1 hg,fun t ht=>?_,Keep.refl _ _,fun t ht=>ht.elim,fun t ht=>ht.elim⟩
 ·obtain⟨cs,h1,rfl⟩:=zf5 ho;obtain⟨h3,b,vs,pre,suf,ty,fr,h2,h4,h5,h6,h7⟩:=h t cs h1;exact⟨b,vs,pre,suf,ty,fr,h2,h4,h5,h3,h6,h7⟩
 ·obtain⟨cs,h2,rfl⟩:=zf5 h1;cases hr1
 ·obtain⟨cs,h2,rfl⟩:=zf5 h1;cases hro
 ·obtain⟨cs,h2,rfl⟩:=zf5 h1;obtain⟨h3,b',vs,pre,suf,ty,fr,h4,h5,h6,h7,_⟩:=h t cs h2;rw[h4]at hb;cases hb;exact zc1 h7
 ·rw[zlY]at ht;unfold zrN;rw[if_neg (by omega)];exact List.getElem?_eq_none (by omega)
theorem zCj{W:World}{bs:List Blk}{l:List (Nat×List CV)}(h:RowsOk W bs l):Rel (zxg W) (zrN bs) (zg7 (64+bs.length) l) W:=zBR h.G
noncomputable def zff:Res->Bool
 |.ret (.bool true) _=>true
 |_=>false
theorem zoa{r:Res}(h:zff r=true):∃m,r=.ret (.bool true) m:=by
 unfold zff at h;split at h
 ·exact⟨_,rfl⟩
 ·cases h
theorem zhm{X:Ext}(hX:zn1 P X)(hm:P.follows .mixedOrders=true){n:Nat}{f:FuncId}{l:List (Nat×List CV)}{bs:List Blk}{k:Nat}(hk:k=64+bs.length)(hrun:zff (zu3 P X n (.call f [] (zg7 k l)))=true){W:World}(h:RowsOk W bs l):
  Calls P f #[] W fun en w'=>en=.returned (.bool true)/\Below W.heap.size W w':=by
 subst hk;rw[zsb]at hrun;obtain⟨m,hr⟩:=zoa hrun;refine(zm0 hX hm hr (fun _ _ h=>by cases h) (show denL (zrN bs) []=some []from rfl) (zCj h)).mono ?_;rintro en w' ⟨e',V,_,hV,rfl,hrel⟩;refine⟨by rw[zbJ hV],hrel.frm.os,hrel.frm.tape,hrel.frm.output,hrel.frm.size,hrel.frm.block⟩
theorem zzK:zn1 P (fun _=>none):=fun f g h=>by cases h
section
variable{W:World}{n:String}{g:Nat}{t e:TypeId}{k:Nat}{bs:List Blk}
theorem zoQ{cs:Array Value}(hg:P.globalNamed n=some g)(hv:W.var? P n=some cs):∃ty fr,W.heap[g]? = some (.cells cs ty fr):=by
 unfold World.var? at hv;rw[hg]at hv;simp only[Option.bind_some]at hv;split at hv
 ·rename_i cs' ty fr h;cases hv;exact⟨ty,fr,h⟩
 ·cases hv
theorem zhH{H:Type}{enc:TypeId×Value->H}{w:World}{base:Nat}{sp:Nat->Bool}{held:Bool}{fuel:Nat}{t e:TypeId}{n:Nat}{cs:List Value}{ss:List (List UInt8)}{p:List MemPlace}
  (ht:P.underlying t=some (.array n e)) (he:P.underlying e=some .string) (hce:P.cellsOf e=1) (hct:P.cellsOf t=n)
  (h:DataW.trod enc P w base sp held fuel t cs=some (.agg (ss.map fun s=>.lit (.string s)),p)):cs=ss.map fun s=>Value.string ⟨s.toArray⟩:=by
 cases fuel with
 |zero=>simp[DataW.trod]at h
 |succ fuel=>
  simp only[DataW.trod,ht,hce,hct,Nat.mul_one]at h;split at h
  ·rename_i hl;obtain⟨xs,hm,hx⟩:=Option.map_eq_some_iff.1 h;have hxs:xs.map (·.1)=ss.map fun s=>(DataW.lit (.string s):DataW H):=by
    have:=congrArg Prod.fst hx;simpa using this
   have hxl:xs.length=n:=by simpa using Lib.mapM_length hm
   have hsl:ss.length=n:=by
    have:=congrArg List.length hxs;simp at this;omega
   apply List.ext_getElem?;intro i;by_cases hi:i<n
   ·obtain⟨b,hb,hf⟩:=Lib.mapM_at hm i i (by simp[hi]);obtain⟨s,hc,rfl,_⟩:=DataW.trod_string he hf;have h1:cs[i]? = some (.string s):=by
     have:=congrArg (·[0]?) hc;simpa[List.getElem?_take,List.getElem?_drop]using this
    have h2:(xs.map (·.1))[i]? = some (DataW.lit (.string s.data.toList):DataW H):=by simp[hb]
    rw[hxs]at h2;simp only[yb9,ya3,DataW.lit.injEq,Lit.string.injEq]at h2;obtain⟨z',hz',hz2⟩:=h2;rw[h1,yb9,hz',yc5,hz2]
   ·have hl':cs.length=n:=by first |simpa using hl |omega
    rw[List.getElem?_eq_none (by omega),List.getElem?_eq_none (by simp;omega)]
  ·cases h
theorem zo6{ss:List (List UInt8)}(hg:P.globalNamed n=some g)(hty:(P.globals[g]?).map (·.type)=some t)(ht:P.underlying t=some (.array k e))(he:P.underlying e=some .string)(hce:P.cellsOf e=1)(hct:P.cellsOf t=k)
  (h:Lib.VarReads P W n (.agg (ss.map fun s=>.lit (.string s)))):∃vs ty fr,denL (zrN bs) (ss.map fun s=>CV.str (s.map UInt8.toNat))=some vs/\W.heap[g]? = some (.cells vs.toArray ty fr):=by
 obtain⟨g',t',cs,fuel,p,h1,h2,h3,h4⟩:=h;obtain rfl:=Option.some.inj (hg.symm.trans h1);obtain rfl:=Option.some.inj (hty.symm.trans h2);have hcs:=zhH ht he hce hct h4;obtain⟨ty,fr,h5⟩:=zoQ hg h3;refine⟨ss.map fun s=>Value.string ⟨s.toArray⟩,ty,fr,?_,by rw[h5,<- hcs]⟩;clear h4 hcs
 induction ss with
 |nil=>rfl
 |cons s r ih=>exact zax (by simp only[den,zsN]) ih
end
theorem zrK(W:World)(bs:List Blk):RowsOk W bs []:=fun g cs h=>by cases h
end Go.Cx
