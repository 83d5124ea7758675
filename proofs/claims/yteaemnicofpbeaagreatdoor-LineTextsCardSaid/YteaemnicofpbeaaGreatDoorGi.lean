import Derived.Test.YteaemnicofpbeaaGreatDoorGa
import Derived.Test.YteaemnicofpbeaaGreatDoorGc
import Derived.Lib.LaidU8
import Derived.Lib.LaidTab
import Derived.Below
import Derived.LaidLaws
set_option linter.unusedSimpArgs false
set_option linter.unusedVariables false
namespace Go.Cx
open Go
noncomputable def zx3:BinOp->IntKind->IntKind->Int->Int->COut:=
 @BinOp.rec (fun _=>IntKind->IntKind->Int->Int->COut)
  (same zpf) (same zo0) (same zoh) (same zlX) (same zlE) (same zrr) (same zuX) (same zqY) (zwz zml) (zwz zkX) (same zik) (same zoZ) (same zoQ) (same zoP) (same zoO) (same zoI) (same zn1)
noncomputable def zx0:BinOp->List Nat->List Nat->COut:=
 @BinOp.rec (fun _=>List Nat->List Nat->COut)
  zia (fun _ _=>.no "binop") (fun _ _=>.no "binop") (fun _ _=>.no "binop") (fun _ _=>.no "binop") (fun _ _=>.no "binop") (fun _ _=>.no "binop") (fun _ _=>.no "binop") (fun _ _=>.no "binop") (fun _ _=>.no "binop") (fun _ _=>.no "binop") zn0 zoN ztV zup zuj zub
noncomputable def zkO:BinOp->Program->Bool->TypeId->CV->CV->COut:=
 @BinOp.rec (fun _=>Program->Bool->TypeId->CV->CV->COut)
  (fun _ _ _ _ _=>.no "binop") (fun _ _ _ _ _=>.no "binop") (fun _ _ _ _ _=>.no "binop") (fun _ _ _ _ _=>.no "binop") (fun _ _ _ _ _=>.no "binop") (fun _ _ _ _ _=>.no "binop") (fun _ _ _ _ _=>.no "binop") (fun _ _ _ _ _=>.no "binop") (fun _ _ _ _ _=>.no "binop") (fun _ _ _ _ _=>.no "binop") (fun _ _ _ _ _=>.no "binop") (fun P c=>cEq P c false) (fun P c=>cEq P c true) (fun _ _ _ _ _=>.no "binop") (fun _ _ _ _ _=>.no "binop") (fun _ _ _ _ _=>.no "binop") (fun _ _ _ _ _=>.no "binop")
theorem zuR(op:BinOp):zx3 op=zp1 op:=by cases op<;>rfl
theorem zuI(op:BinOp):zx0 op=zrZ op:=by cases op<;>rfl
theorem zvz(op:BinOp)(P:Program)(c:Bool):zkO op P c=zf6 P c op:=by cases op<;>rfl
noncomputable def zx7:CV->BinOp->IntKind->Int->COut:=
 @CV.rec (fun _=>BinOp->IntKind->Int->COut) (fun _=>PUnit)
  (fun _=>fun _ _ _=>.no "binop")
  (fun k' b=>fun op k a=>zx3 op k k' a b)
  (fun _=>fun _ _ _=>.no "binop")
  (fun _ _=>fun _ _ _=>.no "binop")
  (fun _ _=>fun _ _ _=>.no "binop")
  (fun _ _=>fun _ _ _=>.no "binop")
  (fun _ _ _ _=>fun _ _ _=>.no "binop")
  (fun _ _ _=>fun _ _ _=>.no "binop")
  (fun _ _ _=>fun _ _ _=>.no "binop")
  (fun _ _ _ _ _=>fun _ _ _=>.no "binop")
  (fun _=>fun _ _ _=>.no "binop")
  (fun _=>fun _ _ _=>.no "binop")
  (fun _ _ _=>fun _ _ _=>.no "binop")
  (fun _ _ _=>.no "binop")
  (fun _ _ _=>.no "binop")
  (fun _ _ _=>.no "binop")
  (fun _ _ _=>.no "binop")
  (fun _ _ _=>.no "binop")
  (fun _ _ _ _=>fun _ _ _=>.no "binop")
  (fun _=>fun _ _ _=>.no "binop")
  ⟨⟩ (fun _ _ _ _=>⟨⟩)
noncomputable def zx5:CV->BinOp->List Nat->COut:=
 @CV.rec (fun _=>BinOp->List Nat->COut) (fun _=>PUnit)
  (fun _=>fun _ _=>.no "binop")
  (fun _ _=>fun _ _=>.no "binop")
  (fun b=>fun op a=>zx0 op a b)
  (fun _ _=>fun _ _=>.no "binop")
  (fun _ _=>fun _ _=>.no "binop")
  (fun _ _=>fun _ _=>.no "binop")
  (fun _ _ _ _=>fun _ _=>.no "binop")
  (fun _ _ _=>fun _ _=>.no "binop")
  (fun _ _ _=>fun _ _=>.no "binop")
  (fun _ _ _ _ _=>fun _ _=>.no "binop")
  (fun _=>fun _ _=>.no "binop")
  (fun _=>fun _ _=>.no "binop")
  (fun _ _ _=>fun _ _=>.no "binop")
  (fun _ _=>.no "binop")
  (fun _ _=>.no "binop")
  (fun _ _=>.no "binop")
  (fun _ _=>.no "binop")
  (fun _ _=>.no "binop")
  (fun _ _ _ _=>fun _ _=>.no "binop")
  (fun _=>fun _ _=>.no "binop")
  ⟨⟩ (fun _ _ _ _=>⟨⟩)
noncomputable def zya:CV->BinOp->Program->Bool->TypeId->CV->COut:=
 @CV.rec (fun _=>BinOp->Program->Bool->TypeId->CV->COut) (fun _=>PUnit)
  (fun u0=>fun op P c t y=>zkO op P c t (.bool u0) y)
  (fun k a=>fun op _ _ _ y=>zx7 y op k a)
  (fun a=>fun op _ _ _ y=>zx5 y op a)
  (fun u0 _=>fun op P c t y=>zkO op P c t (.agg u0) y)
  (fun u0 _=>fun op P c t y=>zkO op P c t (.tup u0) y)
  (fun u0 u1=>fun op P c t y=>zkO op P c t (.ptr u0 u1) y)
  (fun u0 u1 u2 u3=>fun op P c t y=>zkO op P c t (.slc u0 u1 u2 u3) y)
  (fun u0 u1 u2=>fun op P c t y=>zkO op P c t (.opn u0 u1 u2) y)
  (fun u0 u1 u2=>fun op P c t y=>zkO op P c t (.emp u0 u1 u2) y)
  (fun u0 u1 u2 _ _=>fun op P c t y=>zkO op P c t (.fn u0 u1 u2) y)
  (fun u0=>fun op P c t y=>zkO op P c t (.yld u0) y)
  (fun u0=>fun op P c t y=>zkO op P c t (.map u0) y)
  (fun u0 u1 _=>fun op P c t y=>zkO op P c t (.ifc u0 u1) y)
  (fun op P c t y=>zkO op P c t (.nilp) y)
  (fun op P c t y=>zkO op P c t (.nils) y)
  (fun op P c t y=>zkO op P c t (.nilf) y)
  (fun op P c t y=>zkO op P c t (.nilm) y)
  (fun op P c t y=>zkO op P c t (.nili) y)
  (fun _ _ _ _=>fun _ _ _ _ _=>.no "binop")
  (fun u0=>fun op P c t y=>zkO op P c t (.void u0) y)
  ⟨⟩ (fun _ _ _ _=>⟨⟩)
noncomputable def zwU(op:BinOp)(P:Program)(c:Bool)(t:TypeId)(x y:CV):COut:=zya x op P c t y
theorem zvd(op:BinOp)(P:Program)(c:Bool)(t:TypeId)(x y:CV):zwU op P c t x y=zpH P c op t x y:=by
 unfold zwU;cases x
 case int k a=>cases y<;>first |rfl |exact congrFun (congrFun (congrFun (congrFun (zuR op) _) _) _) _
 case str a=>cases y<;>first |rfl |exact congrFun (congrFun (zuI op) _) _
 case res=>rfl
 all_goals exact congrFun (congrFun (congrFun (zvz op P c) _) _) _
noncomputable def zxa:Op->Program->Nat->Mem->Tmps->COut:=
 @Op.rec (fun _=>Program->Nat->Mem->Tmps->COut)
  (fun x=>fun P T m t=>un1 ziC x m t)
  (fun x=>fun P T m t=>un1 ziC x m t)
  (fun c a b=>fun P T m t=>zcE c a b m t)
  (fun e=>fun P T m t=>zbO P T e m t)
  (fun e x=>fun P T m t=>un1 (fun m v=>zim T m e v) x m t)
  (fun ty ps=>fun P T m t=>zcG P ty ps m t)
  (fun ty n ps=>fun P T m t=>zal P T ty n ps m t)
  (fun ty x k v=>fun P T m t=>zlm (fun m x k v=>zaM P m ty x k v) x k v m t)
  (fun ty a=>fun P T m t=>un1 (fun m v=>zdC P m ty v) a m t)
  (fun ty a x=>fun P T m t=>zbL (fun m a x=>zaL P m ty a x) a x m t)
  (fun _=>fun _ _ _ _=>.no "operation")
  (fun _=>fun _ _ _ _=>.no "operation")
  (fun x=>fun P T m t=>un1 zvV x m t)
  (fun op ty x y yt=>fun P T m t=>zbL (fun _=>zwU op P (zis x||zis y) ty) x y m t)
  (fun op ty x=>fun P T m t=>un1 (fun _=>cUn op) x m t)
  (fun s d x=>fun P T m t=>un1 (fun m v=>za3 P T m s d v) x m t)
  (fun _ _=>fun _ _ _ _=>.no "operation")
  (fun ty x=>fun P T m t=>un1 (zhh P ty) x m t)
  (fun fn a b=>fun P T m t=>zdV fn a b m t)
  (fun ty r=>fun P T m t=>zgy T r m t)
  (fun _ _=>fun _ _ _ _=>.no "operation")
  (fun ty l c=>fun P T m t=>zbL (fun m l c=>zan P T m ty l c) l c m t)
  (fun ty x lo hi mx=>fun P T m t=>za7 P ty x lo hi mx m t)
  (fun ty x f=>fun P T m t=>un1 (fun _ v=>za5 P ty v f) x m t)
  (fun ty x f=>fun P T m t=>un1 (fun _ v=>zfx P ty v f) x m t)
  (fun ty x i=>fun P T m t=>zbL (fun m x i=>zai P m ty x i) x i m t)
  (fun ty x i=>fun P T m t=>zbL (fun _ x i=>zdK P ty x i) x i m t)
  (fun ty x k ok=>fun P T m t=>zbL (fun m x k=>zbC P m ty x k ok) x k m t)
  (fun ty x k v=>fun P T m t=>zlm (fun m x k v=>zaM P m ty x k v) x k v m t)
  (fun ty x k=>fun P T m t=>zbL (fun m x k=>zb7 P m ty x k) x k m t)
  (fun ty x s v=>fun P T m t=>zlm (fun m x s v=>zbc m x s v) x s v m t)
  (fun _ _=>fun _ _ _ _=>.no "operation")
  (fun _ _=>fun _ _ _ _=>.no "operation")
  (fun _=>fun _ _ _ _=>.no "operation")
  (fun x xt a ok=>fun P T m t=>un1 (fun _ v=>zaE P v a ok) x m t)
  (fun x i=>fun P T m t=>un1 (zea i) x m t)
  (fun c=>fun P T m t=>zbn P T c m t)
  (fun _=>fun _ _ _ _=>.no "operation")
  (fun c=>fun P T m t=>zbR c m t)
  (fun x=>fun P T m t=>un1 zot x m t)
  (fun _ _=>fun _ _ _ _=>.no "operation")
  (fun _ _ _=>fun _ _ _ _=>.no "operation")
  (fun _ _=>fun _ _ _ _=>.no "operation")
theorem zqH(op:Op)(P:Program)(T:Nat)(m:Mem)(t:Tmps):zxa op P T m t=za4 P T op m t:=by
 cases op<;>first
  |rfl
  |(show zbL (fun _=>zwU _ P _ _) _ _ m t=zbL (fun _=>zpH P _ _ _) _ _ m t;congr 1;funext _ x y;exact zvd _ _ _ _ _ _)
noncomputable def zwR:COut->(Task->Res)->Option Nat->KK->Option Tmp->Tmps->List CDef->Mem->Res:=
 @COut.rec (fun _=>(Task->Res)->Option Nat->KK->Option Tmp->Tmps->List CDef->Mem->Res)
  (fun w=>fun _ _ _ _ _ _ _=>.no w)
  (fun v=>fun _ _ k dst t ds m=>zlS k dst v t ds m)
  (fun v m=>fun _ _ k dst t ds _=>zlS k dst v t ds m)
  (fun f args=>fun ih _ k dst t ds m=>zjL k dst t ds (ih (.call f args m)))
  (fun l args=>fun ih _ k dst t ds m=>zsr k dst t ds (zbN ih l args m))
  (fun f args=>fun ih r k dst t ds m=>after ih r k dst t ds m (.defer f args))
  (fun _ _ _ _ _ _ _=>.no "recover")
  (fun v=>fun _ _ _ _ t ds m=>.ex (.panic v) t ds m)
theorem zr6(out:COut)(ih:Task->Res)(r:Option Nat)(k:KK)(dst:Option Tmp)(t:Tmps)(ds:List CDef)(m:Mem):zwR out ih r k dst t ds m=after ih r k dst t ds m out:=by
 cases out<;>rfl
noncomputable def zxq(P:Program)(ih:Task->Res)(ops:List Oper)(r:Option Nat)(o:Oper)(k:KK)(t:Tmps)(ds:List CDef)(m:Mem)(g:Option (Nat×Bool)):Res:=
 match zaC ops t g with
 |some true=>zwR (zxa o.op P m.nxt m t) ih r k o.dst t ds m
 |some false=>zlS k o.dst zam t ds m
 |none=>.no "guard"
noncomputable def zxE(P:Program)(ih:Task->Res)(ops:List Oper)(r:Option Nat):Oper->KK->KK:=
 @Oper.rec (fun _=>KK->KK) (fun dst op ty pos aft g=>fun k t ds m=>
  @Option.rec (Nat×Bool) (fun _=>Res) (zwR (zxa op P m.nxt m t) ih r k dst t ds m) (fun g'=>zxq P ih ops r ⟨dst,op,ty,pos,aft,some g'⟩ k t ds m (some g')) g)
theorem zuT(P:Program)(ih:Task->Res)(ops:List Oper)(r:Option Nat)(o:Oper)(k:KK):zxE P ih ops r o k=zcR P ih ops r o k:=by
 obtain⟨dst,op,ty,pos,aft,g⟩:=o;funext t ds m;cases g with
 |none=>
  show zwR (zxa op P m.nxt m t) ih r k dst t ds m=after ih r k dst t ds m (cop P op m t);rw[zr6,zqH];rfl
 |some g=>
  show zxq P ih ops r _ k t ds m (some g)=_;unfold zxq zcR;simp only;split
  ·rename_i h;simp only[h,zr6,zqH];rfl
  ·rename_i h;simp only[h]
  ·rename_i h;simp only[h]
noncomputable def zw4(P:Program)(ih:Task->Res)(ops:List Oper)(r:Option Nat)(l:List Oper):KK:=
 List.rec (motive:=fun _=>KK) (fun t ds m=>.ex .normal t ds m) (fun o _ k=>zxE P ih ops r o k) l
theorem zqZ(P:Program)(ih:Task->Res)(ops:List Oper)(r:Option Nat):∀l,zw4 P ih ops r l=zdg P ih ops r l
 |[]=>rfl
 |o::l=>by
  show zxE P ih ops r o (zw4 P ih ops r l)=zcR P ih ops r o (zdg P ih ops r l);rw[zqZ P ih ops r l,zuT]
noncomputable def zwo:Code->Program->(Task->Res)->Tmps->List CDef->Option Nat->Mem->Res:=
 @Code.rec (fun _=>Program->(Task->Res)->Tmps->List CDef->Option Nat->Mem->Res)
  (fun _ _ t ds _ m=>.ex .normal t ds m)
  (fun _ ops draw=>fun P ih t ds r m=>@Bool.rec (fun _=>Res) (zw4 P ih ops.toList r ops.toList t ds m) (ziq P ih ops.toList t ds m) draw)
  (fun a b _ _=>fun _ ih t ds r m=>zgx ih b r (ih (.code a t ds r m)))
  (fun x a b _ _=>fun _ ih t ds r m=>zpM ih a b t ds r m (evO t x))
  (fun id b _=>fun _ ih t ds r m=>zgt id (ih (.code b t ds r m)))
  (fun b _=>fun _ ih t ds r m=>zgx ih (.loop b) r (ih (.code b t ds r m)))
  (fun g ps asg body _ _=>fun _ ih t ds r m=>ze2 ih g ps.toList asg body t ds m r)
  (fun id=>fun _ _ t ds _ m=>.ex (.exit id) t ds m)
  (fun b _=>fun _ ih t ds r m=>zo5 (ih (.code b t ds r m)))
  (fun _=>fun _ _ t ds _ m=>.ex .normal t ds m)
  (fun l=>fun _ _ t ds _ m=>.ex (.goto l) t ds m)
  (fun _ _ t ds _ m=>.ex .ret t ds m)
  (fun w=>fun _ _ _ _ _ _=>.no w)
theorem zs6(c:Code)(P:Program)(ih:Task->Res)(t:Tmps)(ds:List CDef)(r:Option Nat)(m:Mem):zwo c P ih t ds r m=zvr P ih t ds r m c:=by
 cases c<;>first
  |rfl
  |(rename_i id ops draw;cases draw<;>first |rfl |(show zw4 P ih ops.toList r ops.toList t ds m=_;rw[zqZ];rfl))
noncomputable def zwp(P:Program)(X:Ext)(ih:Task->Res):Task->Res:=
 @Task.rec (fun _=>Res) (fun f args m=>zr9 P ih f args m (X f)) (fun f args m=>zoY P ih args m P.funcs[f]?) (fun f args v m=>zoW P ih args m v P.funcs[f]?) (fun c t ds r m=>zwo c P ih t ds r m)
noncomputable def zsD(P:Program)(X:Ext)(n:Nat):Task->Res:=
 Nat.rec (motive:=fun _=>Task->Res) (fun _=>.no "fuel") (fun _ ih=>zwp P X ih) n
theorem zqc(P:Program)(X:Ext):∀n,zsD P X n=zkP P X n
 |0=>rfl
 |n+1=>by
  show zwp P X (zsD P X n)=zny P X (zkP P X n);rw[zqc P X n];funext k;cases k with
  |call f args m=>rfl
  |dcall f args m=>rfl
  |rcall f args v m=>rfl
  |code c t ds r m=>exact zs6 c P _ t ds r m
end Go.Cx
namespace Go.Cx
open Go Go.RowKit
variable{P:Program}
def zvk(W:World):Bas:=⟨W,fun k=>k<W.heap.size,fun k=>k<W.heap.size,fun _=>False,fun _ h=>h,fun _ h=>h⟩
def zo8(bs:List Blk):Env:=fun t=>if t<64 then some ⟨t,0,0,0⟩else bs[t - 64]?
theorem zmw{bs:List Blk}{t:Nat}(h:t<64):zo8 bs t=some ⟨t,0,0,0⟩:=if_pos h
def RowsOk(W:World)(bs:List Blk)(l:List (Nat×List CV)):Prop:=∀g cs,(g,cs)∈l->g<64/\cs.all one=true/\∃vs ty fr,denL (zo8 bs) cs=some vs/\W.heap[g]? = some (.cells vs.toArray ty fr)
def zwt(W:World)(bs:List Blk)(l:List (Nat×List CV)):Prop:=∀g cs,(g,cs)∈l->cs.all one=true/\∃b vs pre suf ty fr,zo8 bs g=some b/\pre.length=b.off/\denL (zo8 bs) cs=some vs/\W.heap[b.blk]? = some (.cells (pre++vs++suf).toArray ty fr)/\(g<64->suf=[])
theorem RowsOk.G{W:World}{bs:List Blk}{l:List (Nat×List CV)}(h:RowsOk W bs l):zwt W bs l:=fun g cs hm=>by
 obtain⟨h1,h2,vs,ty,fr,h3,h4⟩:=h g cs hm;exact⟨h2,_,vs,[],[],ty,fr,zmw h1,rfl,h3,by simpa using h4,fun _=>rfl⟩
noncomputable def zf0(k:Nat):List (Nat×List CV)->Mem
 |[]=>⟨k,.nil⟩
 |(g,cs)::r=>(zf0 k r).put g (.ro cs)
theorem zjM{k:Nat}:∀l,(zf0 k l).nxt=k
 |[]=>rfl
 |(g,cs)::r=>zjM r
theorem zfh{k:Nat}:∀{l:List (Nat×List CV)} {t:Nat} {o:CO},(zf0 k l).get t=some o->∃cs,(t,cs)∈l/\o=.ro cs
 |[],t,o,h=>by simp[zf0,Mem.get,Tr.get_nil]at h
 |(g,cs)::r,t,o,h=>by
  unfold zf0 at h;rw[Mem.get_put]at h;by_cases hq:t=g
  ·rw[if_pos hq]at h;cases h;exact⟨cs,by rw[hq];exact ya5 ..,rfl⟩
  ·rw[if_neg hq]at h;obtain⟨cs',h1,h2⟩:=zfh h;exact⟨cs',ya4 _ h1,h2⟩
theorem zx1{W:World}{bs:List Blk}{l:List (Nat×List CV)}(h:zwt W bs l):Rel (zvk W) (zo8 bs) (zf0 (64+bs.length) l) W:=by
 refine⟨fun t o ho=>?_,fun t t' o o' b b' h1 h2 hr1 hr2 hb hb' hq=>?_,fun t o b h1 hro hb=>?_,fun t o b h1 hro hb=>?_,fun g hg=>zmw hg,fun t ht=>?_,Keep.refl _ _,fun t ht=>ht.elim,fun t ht=>ht.elim⟩
 ·obtain⟨cs,h1,rfl⟩:=zfh ho;obtain⟨h3,b,vs,pre,suf,ty,fr,h2,h4,h5,h6,h7⟩:=h t cs h1;exact⟨b,vs,pre,suf,ty,fr,h2,h4,h5,h3,h6,h7⟩
 ·obtain⟨cs,h2,rfl⟩:=zfh h1;cases hr1
 ·obtain⟨cs,h2,rfl⟩:=zfh h1;cases hro
 ·obtain⟨cs,h2,rfl⟩:=zfh h1;obtain⟨h3,b',vs,pre,suf,ty,fr,h4,h5,h6,h7,_⟩:=h t cs h2;rw[h4]at hb;cases hb;exact zcH h7
 ·rw[zjM]at ht;unfold zo8;rw[if_neg (by omega)];exact List.getElem?_eq_none (by omega)
theorem zyb{W:World}{bs:List Blk}{l:List (Nat×List CV)}(h:RowsOk W bs l):Rel (zvk W) (zo8 bs) (zf0 (64+bs.length) l) W:=zx1 h.G
noncomputable def zem:Res->Bool
 |.ret (.bool true) _=>true
 |_=>false
theorem zna{r:Res}(h:zem r=true):∃m,r=.ret (.bool true) m:=by
 unfold zem at h;split at h
 ·exact⟨_,rfl⟩
 ·cases h
theorem zgl{X:Ext}(hX:zkz P X)(hm:P.follows .mixedOrders=true){n:Nat}{f:FuncId}{l:List (Nat×List CV)}{bs:List Blk}{k:Nat}(hk:k=64+bs.length)(hrun:zem (zsD P X n (.call f [] (zf0 k l)))=true){W:World}(h:RowsOk W bs l):
  Calls P f #[] W fun en w'=>en=.returned (.bool true)/\Below W.heap.size W w':=by
 subst hk;rw[zqc]at hrun;obtain⟨m,hr⟩:=zna hrun;refine(zkW hX hm hr (fun _ _ h=>by cases h) (show denL (zo8 bs) []=some []from rfl) (zyb h)).mono ?_;rintro en w' ⟨e',V,_,hV,rfl,hrel⟩;refine⟨by rw[zbv hV],hrel.frm.os,hrel.frm.tape,hrel.frm.output,hrel.frm.size,hrel.frm.block⟩
theorem zxM:zkz P (fun _=>none):=fun f g h=>by cases h
section
variable{W:World}{n:String}{g:Nat}{t e:TypeId}{k:Nat}{bs:List Blk}
theorem zhV{cs:Array Value}(hg:P.globalNamed n=some g)(hv:W.var? P n=some cs):∃ty fr,W.heap[g]? = some (.cells cs ty fr):=by
 unfold World.var? at hv;rw[hg]at hv;simp only[Option.bind_some]at hv;split at hv
 ·rename_i cs' ty fr h;cases hv;exact⟨ty,fr,h⟩
 ·cases hv
theorem zgD{H:Type}{enc:TypeId×Value->H}{w:World}{base:Nat}{sp:Nat->Bool}{held:Bool}{fuel:Nat}{t e:TypeId}{n:Nat}{cs:List Value}{ss:List (List UInt8)}{p:List MemPlace}
  (ht:P.underlying t=some (.array n e)) (he:P.underlying e=some .string) (hce:P.cellsOf e=1) (hct:P.cellsOf t=n)
  (h:DataW.trod enc P w base sp held fuel t cs=some (.agg (ss.map fun s=>.lit (.string s)),p)):cs=ss.map fun s=>Value.string ⟨s.toArray⟩:=by
 cases fuel with
 |zero=>simp[DataW.trod]at h
 |succ fuel=>
  simp only[DataW.trod,ht,hce,hct,Nat.mul_one]at h;split at h
  ·rename_i hl;obtain⟨xs,hm,hx⟩:=Option.map_eq_some_iff.1 h;have hxs:xs.map (·.1)=ss.map fun s=>(DataW.lit (.string s):DataW H):=by
    have:=congrArg Prod.fst hx;simpa using this
   have hxl:xs.length=n:=by simpa using Lib.mapM_length hm
   have hsl:ss.length=n:=by
    have:=congrArg List.length hxs;simp at this;omega
   apply List.ext_getElem?;intro i;by_cases hi:i<n
   ·obtain⟨b,hb,hf⟩:=Lib.mapM_at hm i i (by simp[hi]);obtain⟨s,hc,rfl,_⟩:=DataW.trod_string he hf;have h1:cs[i]? = some (.string s):=by
     have:=congrArg (·[0]?) hc;simpa[List.getElem?_take,List.getElem?_drop]using this
    have h2:(xs.map (·.1))[i]? = some (DataW.lit (.string s.data.toList):DataW H):=by simp[hb]
    rw[hxs]at h2;simp only[yb9,ya3,DataW.lit.injEq,Lit.string.injEq]at h2;obtain⟨z',hz',hz2⟩:=h2;rw[h1,yb9,hz',yc5,hz2]
   ·have hl':cs.length=n:=by first |simpa using hl |omega
    rw[List.getElem?_eq_none (by omega),List.getElem?_eq_none (by simp;omega)]
  ·cases h
theorem zmZ{ss:List (List UInt8)}(hg:P.globalNamed n=some g)(hty:(P.globals[g]?).map (·.type)=some t)(ht:P.underlying t=some (.array k e))(he:P.underlying e=some .string)(hce:P.cellsOf e=1)(hct:P.cellsOf t=k)
  (h:Lib.VarReads P W n (.agg (ss.map fun s=>.lit (.string s)))):∃vs ty fr,denL (zo8 bs) (ss.map fun s=>CV.str (s.map UInt8.toNat))=some vs/\W.heap[g]? = some (.cells vs.toArray ty fr):=by
 obtain⟨g',t',cs,fuel,p,h1,h2,h3,h4⟩:=h;obtain rfl:=Option.some.inj (hg.symm.trans h1);obtain rfl:=Option.some.inj (hty.symm.trans h2);have hcs:=zgD ht he hce hct h4;obtain⟨ty,fr,h5⟩:=zhV hg h3;refine⟨ss.map fun s=>Value.string ⟨s.toArray⟩,ty,fr,?_,by rw[h5,<- hcs]⟩;clear h4 hcs
 induction ss with
 |nil=>rfl
 |cons s r ih=>exact zar (by simp only[den,zrH]) ih
theorem znT{ik:IntKind}{zs:List Int}(hg:P.globalNamed n=some g)(hty:(P.globals[g]?).map (·.type)=some t)(ht:P.underlying t=some (.array k e))(he:P.underlying e=some (.int ik))(hce:P.cellsOf e=1)(hct:P.cellsOf t=k)
  (h:Lib.VarReads P W n (.agg (zs.map fun z=>.lit (.int ik z)))):∃vs ty fr,denL (zo8 bs) (zs.map fun z=>CV.int ik z)=some vs/\W.heap[g]? = some (.cells vs.toArray ty fr):=by
 obtain⟨g',t',cs,fuel,p,h1,h2,h3,h4⟩:=h;obtain rfl:=Option.some.inj (hg.symm.trans h1);obtain rfl:=Option.some.inj (hty.symm.trans h2);have hcs:=Lib.cells_of_tab ht he hce hct h4;obtain⟨ty,fr,h5⟩:=zhV hg h3;refine⟨zs.map fun z=>Value.int ik z,ty,fr,?_,by rw[h5,<- hcs]⟩;clear h4 hcs
 induction zs with
 |nil=>rfl
 |cons s r ih=>exact zar rfl ih
end
theorem zpY(W:World)(bs:List Blk):RowsOk W bs []:=fun g cs h=>by cases h
end Go.Cx
