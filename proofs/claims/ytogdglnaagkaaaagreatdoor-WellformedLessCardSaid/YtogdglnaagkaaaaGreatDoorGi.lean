import Derived.Test.YtogdglnaagkaaaaGreatDoorGa
import Derived.Test.YtogdglnaagkaaaaGreatDoorGc
import Derived.Lib.LaidU8
import Derived.Lib.LaidTab
import Derived.Below
import Derived.LaidLaws
set_option linter.unusedSimpArgs false
set_option linter.unusedVariables false
namespace Go.Cx
open Go
noncomputable def zFD:BinOp->IntKind->IntKind->Int->Int->COut:=
 @BinOp.rec (fun _=>IntKind->IntKind->Int->Int->COut)
  (same zrh) (same zrF) (same zsj) (same zos) (same zoI) (same zwW) (same zAE) (same zv7) (zDx zoS) (zDx zou) (same zjM) (same zry) (same zsw) (same zsf) (same zre) (same zra) (same zrR)
noncomputable def zFC:BinOp->List Nat->List Nat->COut:=
 @BinOp.rec (fun _=>List Nat->List Nat->COut)
  zjq (fun _ _=>.no "binop") (fun _ _=>.no "binop") (fun _ _=>.no "binop") (fun _ _=>.no "binop") (fun _ _=>.no "binop") (fun _ _=>.no "binop") (fun _ _=>.no "binop") (fun _ _=>.no "binop") (fun _ _=>.no "binop") (fun _ _=>.no "binop") zsm zrb zzZ zzu zz1 zzL
noncomputable def znn:BinOp->Program->Bool->TypeId->CV->CV->COut:=
 @BinOp.rec (fun _=>Program->Bool->TypeId->CV->CV->COut)
  (fun _ _ _ _ _=>.no "binop") (fun _ _ _ _ _=>.no "binop") (fun _ _ _ _ _=>.no "binop") (fun _ _ _ _ _=>.no "binop") (fun _ _ _ _ _=>.no "binop") (fun _ _ _ _ _=>.no "binop") (fun _ _ _ _ _=>.no "binop") (fun _ _ _ _ _=>.no "binop") (fun _ _ _ _ _=>.no "binop") (fun _ _ _ _ _=>.no "binop") (fun _ _ _ _ _=>.no "binop") (fun P c=>cEq P c false) (fun P c=>cEq P c true) (fun _ _ _ _ _=>.no "binop") (fun _ _ _ _ _=>.no "binop") (fun _ _ _ _ _=>.no "binop") (fun _ _ _ _ _=>.no "binop")
theorem zBe(op:BinOp):zFD op=zth op:=by cases op<;>rfl
theorem zAQ(op:BinOp):zFC op=zwf op:=by cases op<;>rfl
theorem zAn(op:BinOp)(P:Program)(c:Bool):znn op P c=zhr P c op:=by cases op<;>rfl
noncomputable def zFI:CV->BinOp->IntKind->Int->COut:=
 @CV.rec (fun _=>BinOp->IntKind->Int->COut) (fun _=>PUnit)
  (fun _=>fun _ _ _=>.no "binop")
  (fun k' b=>fun op k a=>zFD op k k' a b)
  (fun _=>fun _ _ _=>.no "binop")
  (fun _ _=>fun _ _ _=>.no "binop")
  (fun _ _=>fun _ _ _=>.no "binop")
  (fun _ _=>fun _ _ _=>.no "binop")
  (fun _ _ _ _=>fun _ _ _=>.no "binop")
  (fun _ _ _=>fun _ _ _=>.no "binop")
  (fun _ _ _=>fun _ _ _=>.no "binop")
  (fun _ _ _ _ _=>fun _ _ _=>.no "binop")
  (fun _=>fun _ _ _=>.no "binop")
  (fun _=>fun _ _ _=>.no "binop")
  (fun _ _ _=>fun _ _ _=>.no "binop")
  (fun _ _ _=>.no "binop")
  (fun _ _ _=>.no "binop")
  (fun _ _ _=>.no "binop")
  (fun _ _ _=>.no "binop")
  (fun _ _ _=>.no "binop")
  (fun _ _ _ _=>fun _ _ _=>.no "binop")
  (fun _=>fun _ _ _=>.no "binop")
  ⟨⟩ (fun _ _ _ _=>⟨⟩)
noncomputable def zFH:CV->BinOp->List Nat->COut:=
 @CV.rec (fun _=>BinOp->List Nat->COut) (fun _=>PUnit)
  (fun _=>fun _ _=>.no "binop")
  (fun _ _=>fun _ _=>.no "binop")
  (fun b=>fun op a=>zFC op a b)
  (fun _ _=>fun _ _=>.no "binop")
  (fun _ _=>fun _ _=>.no "binop")
  (fun _ _=>fun _ _=>.no "binop")
  (fun _ _ _ _=>fun _ _=>.no "binop")
  (fun _ _ _=>fun _ _=>.no "binop")
  (fun _ _ _=>fun _ _=>.no "binop")
  (fun _ _ _ _ _=>fun _ _=>.no "binop")
  (fun _=>fun _ _=>.no "binop")
  (fun _=>fun _ _=>.no "binop")
  (fun _ _ _=>fun _ _=>.no "binop")
  (fun _ _=>.no "binop")
  (fun _ _=>.no "binop")
  (fun _ _=>.no "binop")
  (fun _ _=>.no "binop")
  (fun _ _=>.no "binop")
  (fun _ _ _ _=>fun _ _=>.no "binop")
  (fun _=>fun _ _=>.no "binop")
  ⟨⟩ (fun _ _ _ _=>⟨⟩)
noncomputable def zFS:CV->BinOp->Program->Bool->TypeId->CV->COut:=
 @CV.rec (fun _=>BinOp->Program->Bool->TypeId->CV->COut) (fun _=>PUnit)
  (fun u0=>fun op P c t y=>znn op P c t (.bool u0) y)
  (fun k a=>fun op _ _ _ y=>zFI y op k a)
  (fun a=>fun op _ _ _ y=>zFH y op a)
  (fun u0 _=>fun op P c t y=>znn op P c t (.agg u0) y)
  (fun u0 _=>fun op P c t y=>znn op P c t (.tup u0) y)
  (fun u0 u1=>fun op P c t y=>znn op P c t (.ptr u0 u1) y)
  (fun u0 u1 u2 u3=>fun op P c t y=>znn op P c t (.slc u0 u1 u2 u3) y)
  (fun u0 u1 u2=>fun op P c t y=>znn op P c t (.opn u0 u1 u2) y)
  (fun u0 u1 u2=>fun op P c t y=>znn op P c t (.emp u0 u1 u2) y)
  (fun u0 u1 u2 _ _=>fun op P c t y=>znn op P c t (.fn u0 u1 u2) y)
  (fun u0=>fun op P c t y=>znn op P c t (.yld u0) y)
  (fun u0=>fun op P c t y=>znn op P c t (.map u0) y)
  (fun u0 u1 _=>fun op P c t y=>znn op P c t (.ifc u0 u1) y)
  (fun op P c t y=>znn op P c t (.nilp) y)
  (fun op P c t y=>znn op P c t (.nils) y)
  (fun op P c t y=>znn op P c t (.nilf) y)
  (fun op P c t y=>znn op P c t (.nilm) y)
  (fun op P c t y=>znn op P c t (.nili) y)
  (fun _ _ _ _=>fun _ _ _ _ _=>.no "binop")
  (fun u0=>fun op P c t y=>znn op P c t (.void u0) y)
  ⟨⟩ (fun _ _ _ _=>⟨⟩)
noncomputable def zD0(op:BinOp)(P:Program)(c:Bool)(t:TypeId)(x y:CV):COut:=zFS x op P c t y
theorem zAC(op:BinOp)(P:Program)(c:Bool)(t:TypeId)(x y:CV):zD0 op P c t x y=ztB P c op t x y:=by
 unfold zD0;cases x
 case int k a=>cases y<;>first |rfl |exact congrFun (congrFun (congrFun (congrFun (zBe op) _) _) _) _
 case str a=>cases y<;>first |rfl |exact congrFun (congrFun (zAQ op) _) _
 case res=>rfl
 all_goals exact congrFun (congrFun (congrFun (zAn op P c) _) _) _
noncomputable def zEd:Op->Program->Nat->Mem->Tmps->COut:=
 @Op.rec (fun _=>Program->Nat->Mem->Tmps->COut)
  (fun x=>fun P T m t=>un1 zks x m t)
  (fun x=>fun P T m t=>un1 zks x m t)
  (fun c a b=>fun P T m t=>zdo c a b m t)
  (fun e=>fun P T m t=>zci P T e m t)
  (fun e x=>fun P T m t=>un1 (fun m v=>zkh T m e v) x m t)
  (fun ty ps=>fun P T m t=>zdf P ty ps m t)
  (fun ty n ps=>fun P T m t=>zas P T ty n ps m t)
  (fun ty x k v=>fun P T m t=>zo7 (fun m x k v=>zaY P m ty x k v) x k v m t)
  (fun ty a=>fun P T m t=>un1 (fun m v=>zey P m ty v) a m t)
  (fun ty a x=>fun P T m t=>zcc (fun m a x=>zaX P m ty a x) a x m t)
  (fun _=>fun _ _ _ _=>.no "operation")
  (fun _=>fun _ _ _ _=>.no "operation")
  (fun x=>fun P T m t=>un1 zCe x m t)
  (fun op ty x y yt=>fun P T m t=>zcc (fun _=>zD0 op P (zkr x||zkr y) ty) x y m t)
  (fun op ty x=>fun P T m t=>un1 (fun _=>cUn op) x m t)
  (fun s d x=>fun P T m t=>un1 (fun m v=>zbk P T m s d v) x m t)
  (fun _ _=>fun _ _ _ _=>.no "operation")
  (fun ty x=>fun P T m t=>un1 (zjs P ty) x m t)
  (fun fn a b=>fun P T m t=>zeM fn a b m t)
  (fun ty r=>fun P T m t=>zh0 T r m t)
  (fun _ _=>fun _ _ _ _=>.no "operation")
  (fun ty l c=>fun P T m t=>zcc (fun m l c=>zau P T m ty l c) l c m t)
  (fun ty x lo hi mx=>fun P T m t=>zbL P ty x lo hi mx m t)
  (fun ty x f=>fun P T m t=>un1 (fun _ v=>zbm P ty v f) x m t)
  (fun ty x f=>fun P T m t=>un1 (fun _ v=>zgX P ty v f) x m t)
  (fun ty x i=>fun P T m t=>zcc (fun m x i=>zan P m ty x i) x i m t)
  (fun ty x i=>fun P T m t=>zcc (fun _ x i=>zeG P ty x i) x i m t)
  (fun ty x k ok=>fun P T m t=>zcc (fun m x k=>zb0 P m ty x k ok) x k m t)
  (fun ty x k v=>fun P T m t=>zo7 (fun m x k v=>zaY P m ty x k v) x k v m t)
  (fun ty x k=>fun P T m t=>zcc (fun m x k=>zcE P m ty x k) x k m t)
  (fun ty x s v=>fun P T m t=>zo7 (fun m x s v=>zby m x s v) x s v m t)
  (fun _ _=>fun _ _ _ _=>.no "operation")
  (fun _ _=>fun _ _ _ _=>.no "operation")
  (fun _=>fun _ _ _ _=>.no "operation")
  (fun x xt a ok=>fun P T m t=>un1 (fun _ v=>zaT P v a ok) x m t)
  (fun x i=>fun P T m t=>un1 (zfk i) x m t)
  (fun c=>fun P T m t=>zbI P T c m t)
  (fun _=>fun _ _ _ _=>.no "operation")
  (fun c=>fun P T m t=>zcm c m t)
  (fun x=>fun P T m t=>un1 zsh x m t)
  (fun _ _=>fun _ _ _ _=>.no "operation")
  (fun _ _ _=>fun _ _ _ _=>.no "operation")
  (fun _ _=>fun _ _ _ _=>.no "operation")
theorem zvj(op:Op)(P:Program)(T:Nat)(m:Mem)(t:Tmps):zEd op P T m t=zbo P T op m t:=by
 cases op<;>first
  |rfl
  |(show zcc (fun _=>zD0 _ P _ _) _ _ m t=zcc (fun _=>ztB P _ _ _) _ _ m t;congr 1;funext _ x y;exact zAC _ _ _ _ _ _)
noncomputable def zDY:COut->(Task->Res)->Option Nat->KK->Option Tmp->Tmps->List CDef->Mem->Res:=
 @COut.rec (fun _=>(Task->Res)->Option Nat->KK->Option Tmp->Tmps->List CDef->Mem->Res)
  (fun w=>fun _ _ _ _ _ _ _=>.no w)
  (fun v=>fun _ _ k dst t ds m=>zoT k dst v t ds m)
  (fun v m=>fun _ _ k dst t ds _=>zoT k dst v t ds m)
  (fun f args=>fun ih _ k dst t ds m=>znd k dst t ds (ih (.call f args m)))
  (fun l args=>fun ih _ k dst t ds m=>zuJ k dst t ds (zck ih l args m))
  (fun f args=>fun ih r k dst t ds m=>after ih r k dst t ds m (.defer f args))
  (fun _ _ _ _ _ _ _=>.no "recover")
  (fun v=>fun _ _ _ _ t ds m=>.ex (.panic v) t ds m)
theorem zw1(out:COut)(ih:Task->Res)(r:Option Nat)(k:KK)(dst:Option Tmp)(t:Tmps)(ds:List CDef)(m:Mem):zDY out ih r k dst t ds m=after ih r k dst t ds m out:=by
 cases out<;>rfl
noncomputable def zEF(P:Program)(ih:Task->Res)(ops:List Oper)(r:Option Nat)(o:Oper)(k:KK)(t:Tmps)(ds:List CDef)(m:Mem)(g:Option (Nat×Bool)):Res:=
 match zaM ops t g with
 |some true=>zDY (zEd o.op P m.nxt m t) ih r k o.dst t ds m
 |some false=>zoT k o.dst zat t ds m
 |none=>.no "guard"
noncomputable def zFq(P:Program)(ih:Task->Res)(ops:List Oper)(r:Option Nat):Oper->KK->KK:=
 @Oper.rec (fun _=>KK->KK) (fun dst op ty pos aft g=>fun k t ds m=>
  @Option.rec (Nat×Bool) (fun _=>Res) (zDY (zEd op P m.nxt m t) ih r k dst t ds m) (fun g'=>zEF P ih ops r ⟨dst,op,ty,pos,aft,some g'⟩ k t ds m (some g')) g)
theorem zA6(P:Program)(ih:Task->Res)(ops:List Oper)(r:Option Nat)(o:Oper)(k:KK):zFq P ih ops r o k=zdE P ih ops r o k:=by
 obtain⟨dst,op,ty,pos,aft,g⟩:=o;funext t ds m;cases g with
 |none=>
  show zDY (zEd op P m.nxt m t) ih r k dst t ds m=after ih r k dst t ds m (cop P op m t);rw[zw1,zvj];rfl
 |some g=>
  show zEF P ih ops r _ k t ds m (some g)=_;unfold zEF zdE;simp only;split
  ·rename_i h;simp only[h,zw1,zvj];rfl
  ·rename_i h;simp only[h]
  ·rename_i h;simp only[h]
noncomputable def zEj(P:Program)(ih:Task->Res)(ops:List Oper)(r:Option Nat)(l:List Oper):KK:=
 List.rec (motive:=fun _=>KK) (fun t ds m=>.ex .normal t ds m) (fun o _ k=>zFq P ih ops r o k) l
theorem zuH(P:Program)(ih:Task->Res)(ops:List Oper)(r:Option Nat):∀l,zEj P ih ops r l=zdV P ih ops r l
 |[]=>rfl
 |o::l=>by
  show zFq P ih ops r o (zEj P ih ops r l)=zdE P ih ops r o (zdV P ih ops r l);rw[zuH P ih ops r l,zA6]
noncomputable def zDq:Code->Program->(Task->Res)->Tmps->List CDef->Option Nat->Mem->Res:=
 @Code.rec (fun _=>Program->(Task->Res)->Tmps->List CDef->Option Nat->Mem->Res)
  (fun _ _ t ds _ m=>.ex .normal t ds m)
  (fun _ ops draw=>fun P ih t ds r m=>@Bool.rec (fun _=>Res) (zEj P ih ops.toList r ops.toList t ds m) (zkl P ih ops.toList t ds m) draw)
  (fun a b _ _=>fun _ ih t ds r m=>zh6 ih b r (ih (.code a t ds r m)))
  (fun x a b _ _=>fun _ ih t ds r m=>zsX ih a b t ds r m (evO t x))
  (fun id b _=>fun _ ih t ds r m=>zhN id (ih (.code b t ds r m)))
  (fun b _=>fun _ ih t ds r m=>zh6 ih (.loop b) r (ih (.code b t ds r m)))
  (fun g ps asg body _ _=>fun _ ih t ds r m=>zgQ ih g ps.toList asg body t ds m r)
  (fun id=>fun _ _ t ds _ m=>.ex (.exit id) t ds m)
  (fun b _=>fun _ ih t ds r m=>zq0 (ih (.code b t ds r m)))
  (fun _=>fun _ _ t ds _ m=>.ex .normal t ds m)
  (fun l=>fun _ _ t ds _ m=>.ex (.goto l) t ds m)
  (fun _ _ t ds _ m=>.ex .ret t ds m)
  (fun w=>fun _ _ _ _ _ _=>.no w)
theorem zys(c:Code)(P:Program)(ih:Task->Res)(t:Tmps)(ds:List CDef)(r:Option Nat)(m:Mem):zDq c P ih t ds r m=zAj P ih t ds r m c:=by
 cases c<;>first
  |rfl
  |(rename_i id ops draw;cases draw<;>first |rfl |(show zEj P ih ops.toList r ops.toList t ds m=_;rw[zuH];rfl))
noncomputable def zCy(P:Program)(X:Ext)(ih:Task->Res):Task->Res:=
 @Task.rec (fun _=>Res) (fun f args m=>znY P ih f args m (X f)) (fun f args m=>zlA P ih args m P.funcs[f]?) (fun f args v m=>zq2 P ih args m v P.funcs[f]?) (fun c t ds r m=>zDq c P ih t ds r m)
noncomputable def zxj(P:Program)(X:Ext)(n:Nat):Task->Res:=
 Nat.rec (motive:=fun _=>Task->Res) (fun _=>.no "fuel") (fun _ ih=>zCy P X ih) n
theorem zvJ(P:Program)(X:Ext):∀n,zxj P X n=znp P X n
 |0=>rfl
 |n+1=>by
  show zCy P X (zxj P X n)=zkj P X (znp P X n);rw[zvJ P X n];funext k;cases k with
  |call f args m=>rfl
  |dcall f args m=>rfl
  |rcall f args v m=>rfl
  |code c t ds r m=>exact zys c P _ t ds r m
end Go.Cx
namespace Go.Cx
open Go Go.RowKit
variable{P:Program}
def zBw(W:World):Bas:=⟨W,fun k=>k<W.heap.size,fun k=>k<W.heap.size,fun _=>False,fun _ h=>h,fun _ h=>h⟩
def zrf(bs:List Blk):Env:=fun t=>if t<64 then some ⟨t,0,0,0⟩else bs[t - 64]?
theorem zpH{bs:List Blk}{t:Nat}(h:t<64):zrf bs t=some ⟨t,0,0,0⟩:=if_pos h
def RowsOk(W:World)(bs:List Blk)(l:List (Nat×List CV)):Prop:=∀g cs,(g,cs)∈l->g<64/\cs.all one=true/\∃vs ty fr,denL (zrf bs) cs=some vs/\W.heap[g]? = some (.cells vs.toArray ty fr)
def zCY(W:World)(bs:List Blk)(l:List (Nat×List CV)):Prop:=∀g cs,(g,cs)∈l->cs.all one=true/\∃b vs pre suf ty fr,zrf bs g=some b/\pre.length=b.off/\denL (zrf bs) cs=some vs/\W.heap[b.blk]? = some (.cells (pre++vs++suf).toArray ty fr)/\(g<64->suf=[])
theorem RowsOk.G{W:World}{bs:List Blk}{l:List (Nat×List CV)}(h:RowsOk W bs l):zCY W bs l:=fun g cs hm=>by
 obtain⟨h1,h2,vs,ty,fr,h3,h4⟩:=h g cs hm;exact⟨h2,_,vs,[],[],ty,fr,zpH h1,rfl,h3,by simpa using h4,fun _=>rfl⟩
noncomputable def zhG(k:Nat):List (Nat×List CV)->Mem
 |[]=>⟨k,.nil⟩
 |(g,cs)::r=>(zhG k r).put g (.ro cs)
theorem zmL{k:Nat}:∀l,(zhG k l).nxt=k
 |[]=>rfl
 |(g,cs)::r=>zmL r
theorem zgn{k:Nat}:∀{l:List (Nat×List CV)} {t:Nat} {o:CO},(zhG k l).get t=some o->∃cs,(t,cs)∈l/\o=.ro cs
 |[],t,o,h=>by simp[zhG,Mem.get,Tr.get_nil]at h
 |(g,cs)::r,t,o,h=>by
  unfold zhG at h;rw[Mem.get_put]at h;by_cases hq:t=g
  ·rw[if_pos hq]at h;cases h;exact⟨cs,by rw[hq];exact ya5 ..,rfl⟩
  ·rw[if_neg hq]at h;obtain⟨cs',h1,h2⟩:=zgn h;exact⟨cs',ya4 _ h1,h2⟩
theorem zFy{W:World}{bs:List Blk}{l:List (Nat×List CV)}(h:zCY W bs l):Rel (zBw W) (zrf bs) (zhG (64+bs.length) l) W:=by
 refine⟨fun t o ho=>?_,fun t t' o o' b b' h1 h2 hr1 hr2 hb hb' hq=>?_,fun t o b h1 hro hb=>?_,fun t o b h1 hro hb=>?_,fun g hg=>zpH hg,fun t ht=>?_,Keep.refl _ _,fun t ht=>ht.elim,fun t ht=>ht.elim⟩
 ·obtain⟨cs,h1,rfl⟩:=zgn ho;obtain⟨h3,b,vs,pre,suf,ty,fr,h2,h4,h5,h6,h7⟩:=h t cs h1;exact⟨b,vs,pre,suf,ty,fr,h2,h4,h5,h3,h6,h7⟩
 ·obtain⟨cs,h2,rfl⟩:=zgn h1;cases hr1
 ·obtain⟨cs,h2,rfl⟩:=zgn h1;cases hro
 ·obtain⟨cs,h2,rfl⟩:=zgn h1;obtain⟨h3,b',vs,pre,suf,ty,fr,h4,h5,h6,h7,_⟩:=h t cs h2;rw[h4]at hb;cases hb;exact zc4 h7
 ·rw[zmL]at ht;unfold zrf;rw[if_neg (by omega)];exact List.getElem?_eq_none (by omega)
theorem zFQ{W:World}{bs:List Blk}{l:List (Nat×List CV)}(h:RowsOk W bs l):Rel (zBw W) (zrf bs) (zhG (64+bs.length) l) W:=zFy h.G
noncomputable def zfx:Res->Bool
 |.ret (.bool true) _=>true
 |_=>false
theorem zqw{r:Res}(h:zfx r=true):∃m,r=.ret (.bool true) m:=by
 unfold zfx at h;split at h
 ·exact⟨_,rfl⟩
 ·cases h
theorem zhR{X:Ext}(hX:zqO P X)(hm:P.follows .mixedOrders=true){n:Nat}{f:FuncId}{l:List (Nat×List CV)}{bs:List Blk}{k:Nat}(hk:k=64+bs.length)(hrun:zfx (zxj P X n (.call f [] (zhG k l)))=true){W:World}(h:RowsOk W bs l):
  Calls P f #[] W fun en w'=>en=.returned (.bool true)/\Below W.heap.size W w':=by
 subst hk;rw[zvJ]at hrun;obtain⟨m,hr⟩:=zqw hrun;refine(znZ hX hm hr (fun _ _ h=>by cases h) (show denL (zrf bs) []=some []from rfl) (zFQ h)).mono ?_;rintro en w' ⟨e',V,_,hV,rfl,hrel⟩;refine⟨by rw[zbR hV],hrel.frm.os,hrel.frm.tape,hrel.frm.output,hrel.frm.size,hrel.frm.block⟩
theorem zCw:zqO P (fun _=>none):=fun f g h=>by cases h
section
variable{W:World}{n:String}{g:Nat}{t e:TypeId}{k:Nat}{bs:List Blk}
theorem zjk{cs:Array Value}(hg:P.globalNamed n=some g)(hv:W.var? P n=some cs):∃ty fr,W.heap[g]? = some (.cells cs ty fr):=by
 unfold World.var? at hv;rw[hg]at hv;simp only[Option.bind_some]at hv;split at hv
 ·rename_i cs' ty fr h;cases hv;exact⟨ty,fr,h⟩
 ·cases hv
theorem zih{H:Type}{enc:TypeId×Value->H}{w:World}{base:Nat}{sp:Nat->Bool}{held:Bool}{fuel:Nat}{t e:TypeId}{n:Nat}{cs:List Value}{ss:List (List UInt8)}{p:List MemPlace}
  (ht:P.underlying t=some (.array n e)) (he:P.underlying e=some .string) (hce:P.cellsOf e=1) (hct:P.cellsOf t=n)
  (h:DataW.trod enc P w base sp held fuel t cs=some (.agg (ss.map fun s=>.lit (.string s)),p)):cs=ss.map fun s=>Value.string ⟨s.toArray⟩:=by
 cases fuel with
 |zero=>simp[DataW.trod]at h
 |succ fuel=>
  simp only[DataW.trod,ht,hce,hct,Nat.mul_one]at h;split at h
  ·rename_i hl;obtain⟨xs,hm,hx⟩:=Option.map_eq_some_iff.1 h;have hxs:xs.map (·.1)=ss.map fun s=>(DataW.lit (.string s):DataW H):=by
    have:=congrArg Prod.fst hx;simpa using this
   have hxl:xs.length=n:=by simpa using Lib.mapM_length hm
   have hsl:ss.length=n:=by
    have:=congrArg List.length hxs;simp at this;omega
   apply List.ext_getElem?;intro i;by_cases hi:i<n
   ·obtain⟨b,hb,hf⟩:=Lib.mapM_at hm i i (by simp[hi]);obtain⟨s,hc,rfl,_⟩:=DataW.trod_string he hf;have h1:cs[i]? = some (.string s):=by
     have:=congrArg (·[0]?) hc;simpa[List.getElem?_take,List.getElem?_drop]using this
    have h2:(xs.map (·.1))[i]? = some (DataW.lit (.string s.data.toList):DataW H):=by simp[hb]
    rw[hxs]at h2;simp only[yb9,ya3,DataW.lit.injEq,Lit.string.injEq]at h2;obtain⟨z',hz',hz2⟩:=h2;rw[h1,yb9,hz',yc5,hz2]
   ·have hl':cs.length=n:=by first |simpa using hl |omega
    rw[List.getElem?_eq_none (by omega),List.getElem?_eq_none (by simp;omega)]
  ·cases h
theorem zjX{ss:List (List UInt8)}(hg:P.globalNamed n=some g)(hty:(P.globals[g]?).map (·.type)=some t)(ht:P.underlying t=some (.array k e))(he:P.underlying e=some .string)(hce:P.cellsOf e=1)(hct:P.cellsOf t=k)
  (h:Lib.VarReads P W n (.agg (ss.map fun s=>.lit (.string s)))):∃vs ty fr,denL (zrf bs) (ss.map fun s=>CV.str (s.map UInt8.toNat))=some vs/\W.heap[g]? = some (.cells vs.toArray ty fr):=by
 obtain⟨g',t',cs,fuel,p,h1,h2,h3,h4⟩:=h;obtain rfl:=Option.some.inj (hg.symm.trans h1);obtain rfl:=Option.some.inj (hty.symm.trans h2);have hcs:=zih ht he hce hct h4;obtain⟨ty,fr,h5⟩:=zjk hg h3;refine⟨ss.map fun s=>Value.string ⟨s.toArray⟩,ty,fr,?_,by rw[h5,<- hcs]⟩;clear h4 hcs
 induction ss with
 |nil=>rfl
 |cons s r ih=>exact zaz (by simp only[den,zxc]) ih
theorem zsD{ik:IntKind}{zs:List Int}(hg:P.globalNamed n=some g)(hty:(P.globals[g]?).map (·.type)=some t)(ht:P.underlying t=some (.array k e))(he:P.underlying e=some (.int ik))(hce:P.cellsOf e=1)(hct:P.cellsOf t=k)
  (h:Lib.VarReads P W n (.agg (zs.map fun z=>.lit (.int ik z)))):∃vs ty fr,denL (zrf bs) (zs.map fun z=>CV.int ik z)=some vs/\W.heap[g]? = some (.cells vs.toArray ty fr):=by
 obtain⟨g',t',cs,fuel,p,h1,h2,h3,h4⟩:=h;obtain rfl:=Option.some.inj (hg.symm.trans h1);obtain rfl:=Option.some.inj (hty.symm.trans h2);have hcs:=Lib.cells_of_tab ht he hce hct h4;obtain⟨ty,fr,h5⟩:=zjk hg h3;refine⟨zs.map fun z=>Value.int ik z,ty,fr,?_,by rw[h5,<- hcs]⟩;clear h4 hcs
 induction zs with
 |nil=>rfl
 |cons s r ih=>exact zaz rfl ih
end
theorem ztf(W:World)(bs:List Blk):RowsOk W bs []:=fun g cs h=>by cases h
end Go.Cx
