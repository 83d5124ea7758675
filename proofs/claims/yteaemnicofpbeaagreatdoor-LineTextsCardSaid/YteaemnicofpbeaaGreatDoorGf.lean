import Derived.Test.YteaemnicofpbeaaGreatDoorGe
import Derived.Test.YteaemnicofpbeaaGreatDoorGb
import Derived.Test.YteaemnicofpbeaaGreatDoorGd
set_option linter.unusedSimpArgs false
set_option linter.unusedVariables false
namespace Go.Cx
open Go
def mvLeaf(f:Nat->Option Nat):SV->SV
 |.lst i=>match f i with
  |some j=>.lst j
  |none=>.junk
 |.ept i sz k off=>match f i with
  |some j=>.ept j sz k off
  |none=>.junk
 |.ptr i off=>match f i with
  |some j=>.ptr j off
  |none=>.junk
 |.sub i off n c=>match f i with
  |some j=>.sub j off n c
  |none=>.junk
 |.map i=>match f i with
  |some j=>.map j
  |none=>.junk
 |.agg _=>.junk
 |.tup _=>.junk
 |.fn _ _ _=>.junk
 |.ifc _ _=>.junk
 |v=>v
def mv(f:Nat->Option Nat):Nat->SV->SV
 |0,v=>mvLeaf f v
 |d+1,.agg cs=>.agg (cs.map (mv f d))
 |d+1,.tup cs=>.tup (cs.map (mv f d))
 |d+1,.fn g a b=>.fn g (a.map (mv f d)) (b.map (mv f d))
 |d+1,.ifc ty v=>.ifc ty (mv f d v)
 |_+1,v=>mvLeaf f v
def zjP(f:Nat->Option Nat)(v:SV)(k:SV->Prop):Prop:=match v with
 |.lst i=>match f i with
  |some j=>k (.lst j)
  |none=>k .junk
 |.ept i sz u off=>match f i with
  |some j=>k (.ept j sz u off)
  |none=>k .junk
 |.ptr i off=>match f i with
  |some j=>k (.ptr j off)
  |none=>k .junk
 |.sub i off n c=>match f i with
  |some j=>k (.sub j off n c)
  |none=>k .junk
 |.map i=>match f i with
  |some j=>k (.map j)
  |none=>k .junk
 |.agg _=>k .junk
 |.tup _=>k .junk
 |.fn _ _ _=>k .junk
 |.ifc _ _=>k .junk
 |v=>k v
def ziz(f:Nat->Option Nat):Nat->SV->(SV->Prop)->Prop
 |0,v,k=>zjP f v k
 |d+1,.agg cs,k=>zbq (ziz f d) cs fun cs=>k (.agg cs)
 |d+1,.tup cs,k=>zbq (ziz f d) cs fun cs=>k (.tup cs)
 |d+1,.fn g a b,k=>zbq (ziz f d) a fun a=>zbq (ziz f d) b fun b=>k (.fn g a b)
 |d+1,.ifc ty v,k=>ziz f d v fun v=>k (.ifc ty v)
 |_+1,v,k=>zjP f v k
theorem zi5(f:Nat->Option Nat)(v:SV)(k:SV->Prop):zjP f v k=k (mvLeaf f v):=by
 cases v<;>simp only[zjP,mvLeaf]<;>split<;>rfl
theorem zbb(f:Nat->Option Nat):∀(d:Nat) (v:SV) (k:SV->Prop),ziz f d v k=k (mv f d v)
 |0,v,k=>by unfold ziz mv;exact zi5 f v k
 |d+1,v,k=>by
  cases v<;>simp only[ziz,mv]<;>first
   |exact zi5 f _ k
   |(rw[zaf (zbb f d),zaf (zbb f d)])
   |(rw[zaf (zbb f d)])
   |(rw[zbb f d])
def mvO(f:Nat->Option Nat):SObj->SObj
 |.cells ty cs=>.cells ty (cs.map (mv f zah))
 |so=>so
def zp7(f:Nat->Option Nat)(so:SObj)(k:SObj->Prop):Prop:=match so with
 |.cells ty cs=>zbq (ziz f zah) cs fun cs=>k (.cells ty cs)
 |so=>k so
theorem zcY(f:Nat->Option Nat)(so:SObj)(k:SObj->Prop):zp7 f so k=k (mvO f so):=by
 cases so<;>simp only[zp7,mvO];rw[zaf (zbb f zah)]
section
variable{R R':RO}{e e':DEnv}{f:Nat->Option Nat}
theorem Rep.mvLeaf(hR:R.le R')(he:∀i j x,f i=some j->e i=some x->e' j=some x){v:SV}{x:CV}(h:Rep R e v x):Rep R' e' (mvLeaf f v) x:=by
 have hm:∀{v:SV} {x:CV},Rep R noE v x->Rep R' e' v x:=fun h=>h.mono hR fun _ _ hh=>by cases hh
 cases h with
 |junk=>exact .junk
 |cv h=>exact .cv h
 |agg h=>exact .junk
 |tup h=>exact .junk
 |fn ha hb=>exact .junk
 |ifc h=>exact .junk
 |ptr h=>simp only[Go.Cx.mvLeaf];split<;>first |exact .junk |(rename_i hq;exact .ptr (he _ _ _ hq h))
 |eptS h=>simp only[Go.Cx.mvLeaf];split<;>first |exact .junk |(rename_i hq;exact .eptS (he _ _ _ hq h))
 |eptO h=>simp only[Go.Cx.mvLeaf];split<;>first |exact .junk |(rename_i hq;exact .eptO (he _ _ _ hq h))
 |lstN h=>simp only[Go.Cx.mvLeaf];split<;>first |exact .junk |(rename_i hq;exact .lstN (he _ _ _ hq h))
 |lstV h=>simp only[Go.Cx.mvLeaf];split<;>first |exact .junk |(rename_i hq;exact .lstV (he _ _ _ hq h))
 |lstS h=>simp only[Go.Cx.mvLeaf];split<;>first |exact .junk |(rename_i hq;exact .lstS (he _ _ _ hq h))
 |lstE h=>simp only[Go.Cx.mvLeaf];split<;>first |exact .junk |(rename_i hq;exact .lstE (he _ _ _ hq h))
 |lstO h=>simp only[Go.Cx.mvLeaf];split<;>first |exact .junk |(rename_i hq;exact .lstO (he _ _ _ hq h))
 |sub h=>simp only[Go.Cx.mvLeaf];split<;>first |exact .junk |(rename_i hq;exact .sub (he _ _ _ hq h))
 |map h=>simp only[Go.Cx.mvLeaf];split<;>first |exact .junk |(rename_i hq;exact .map (he _ _ _ hq h))
 |islN=>exact .islN
 |islV=>exact .islV
 |islE=>exact .islE
 |islx h=>
  show Rep R' e' (.islx _ _ _) x;cases h with
  |islN=>exact .islx .islN
  |islV=>exact .islx .islV
  |islS h1 h2 h3 h4 h0 h5=>exact .islx (hm (.islS h1 h2 h3 h4 h0 h5))
  |islO h1 h2 h0 h3=>exact .islx (hm (.islO h1 h2 h0 h3))
 |islS h1 h2 h3 h4 h0 h5=>exact hm (.islS h1 h2 h3 h4 h0 h5)
 |islO h1 h2 h0 h3=>exact hm (.islO h1 h2 h0 h3)
 |ipt h1 h2 h3 h0 h4=>exact hm (.ipt h1 h2 h3 h0 h4)
 |empN=>exact .empN
 |empV=>exact .empV
 |empS h=>exact hm (.empS h)
theorem Rep.mv(hR:R.le R')(he:∀i j x,f i=some j->e i=some x->e' j=some x):∀(d:Nat) {v:SV} {x:CV},Rep R e v x->Rep R' e' (mv f d v) x
 |0,_,_,h=>h.mvLeaf hR he
 |d+1,v,x,h=>by
  have hl:∀{vs:List SV} {xs:List CV},RepL R e vs xs->RepL R' e' (vs.map (Go.Cx.mv f d)) xs:=by
   intro vs
   induction vs with
   |nil=>intro xs h;cases h;exact .nil
   |cons v vs ih=>intro xs h;cases h with |cons hv hs=>exact .cons (Rep.mv hR he d hv) (ih hs)
  have hlf:Go.Cx.mvLeaf f v=Go.Cx.mv f (d+1) v\/(∃cs,v=.agg cs)\/(∃cs,v=.tup cs)\/(∃g a b,v=.fn g a b)\/∃ty u,v=.ifc ty u:=by
   cases v with
   |agg cs=>exact .inr (.inl ⟨_,rfl⟩)
   |tup cs=>exact .inr (.inr (.inl ⟨_,rfl⟩))
   |fn g a b=>exact .inr (.inr (.inr (.inl ⟨_,_,_,rfl⟩)))
   |ifc ty u=>exact .inr (.inr (.inr (.inr ⟨_,_,rfl⟩)))
   |_=>left;simp only[Go.Cx.mv]
  rcases hlf with hlf |⟨cs,rfl⟩ |⟨cs,rfl⟩ |⟨g,a,b,rfl⟩ |⟨ty,u,rfl⟩
  ·rw[<- hlf];exact h.mvLeaf hR he
  ·cases h with |agg h=>exact .agg (hl h)
  ·cases h with |tup h=>exact .tup (hl h)
  ·cases h with |fn ha hb=>exact .fn (hl ha) (hl hb)
  ·cases h with |ifc h=>exact .ifc (Rep.mv hR he d h)
theorem RepL.mv(hR:R.le R')(he:∀i j x,f i=some j->e i=some x->e' j=some x)(d:Nat):∀{vs:List SV} {xs:List CV},RepL R e vs xs->RepL R' e' (vs.map (Go.Cx.mv f d)) xs
 |_,_,.nil=>.nil
 |_,_,.cons hv hs=>.cons (hv.mv hR he d) (RepL.mv hR he d hs)
theorem TSat.mv(hR:R.le R')(he:∀i j x,f i=some j->e i=some x->e' j=some x){T:List SV}{t:Tmps}(h:TSat R e T t):TSat R' e' (T.map (Go.Cx.mv f zah)) t:=by
 refine⟨by rw[h.sz,yb7],fun i v hv=>?_⟩;rw[yb9]at hv;cases hT:T[i]? with
 |none=>rw[hT]at hv;cases hv
 |some u=>
  rw[hT]at hv;cases hv;rcases h.get i u hT with rfl |⟨x,h1,h2⟩
  ·exact .inl rfl
  ·exact .inr ⟨x,h1,h2.mv hR he zah⟩
theorem OR.mv(hR:R.le R')(he:∀i j x,f i=some j->e i=some x->e' j=some x){m m':Mem}{x:CV}{so:SObj}(h:OR R e m x so)(hm:∀t,tg x=some t->m'.get t=m.get t):OR R' e' m' x (mvO f so):=by
 cases so with
 |dead=>exact h
 |cells ty cs=>
  obtain⟨t,xs,rfl,h2,h3⟩:=h;exact⟨t,xs,rfl,by rw[hm t rfl];exact h2,h3.mv hR he zah⟩
 |list ty sz n el=>
  have:=OR.mono (e:=e) (e':=e) hR (DEnv.le.refl _) h hm;exact this
 |map c f st=>
  have:=OR.mono (e:=e) (e':=e) hR (DEnv.le.refl _) h hm;exact this
end
structure DSpecT(P:Program)(X:Ext)(gl:List (Nat×List CV))(tk:List CV->Mem->Task)(args:List SV)(objs:List SObj)(post:SV->List SObj->Prop):Prop where
 run:∀(G:Ctx) (R:RO) (e:DEnv) (m:Mem) (xs:List CV),GlbOk gl R->MSat G R e objs m->RepL R e args xs ->
  ∃y m' R' e' v O',Ev P X (tk xs m) (.ret y m')/\R.le R'/\(∀o u,e o=some (PM.c u)->e' o=some (PM.c u))/\Rep R' e' v y/\MSat G R' e' O' m'/\post v O'
abbrev DSpec(P:Program)(X:Ext)(gl:List (Nat×List CV))(f:FuncId)(args:List SV)(objs:List SObj)(post:SV->List SObj->Prop):Prop:=DSpecT P X gl (.call f) args objs post
abbrev zwF(P:Program)(X:Ext)(gl:List (Nat×List CV))(f:FuncId)(args:List SV)(objs:List SObj)(post:SV->List SObj->Prop):Prop:=DSpecT P X gl (.dcall f) args objs post
theorem DSpecT.mono{P:Program}{X:Ext}{gl:List (Nat×List CV)}{tk:List CV->Mem->Task}{args:List SV}{objs:List SObj}{post post':SV->List SObj->Prop}(h:DSpecT P X gl tk args objs post)(k:∀v O,post v O->post' v O):DSpecT P X gl tk args objs post':=
 ⟨fun G R e m xs h1 h2 h3=>by
  obtain⟨y,m',R',e',v,O',q1,q2,q3,q4,q5,q6⟩:=h.run G R e m xs h1 h2 h3;exact⟨y,m',R',e',v,O',q1,q2,q3,q4,q5,k v O' q6⟩⟩
theorem DSpec.mono{P:Program}{X:Ext}{gl:List (Nat×List CV)}{f:FuncId}{args:List SV}{objs:List SObj}{post post':SV->List SObj->Prop}(h:DSpec P X gl f args objs post)(k:∀v O,post v O->post' v O):DSpec P X gl f args objs post':=DSpecT.mono h k
def zes(n:Nat):List Nat->Nat->Option Nat
 |[],_=>none
 |x::xs,i=>match Nat.beq x n with
  |true=>some i
  |false=>zes n xs (Nat.succ i)
def zkS:List Nat->Nat->Option Nat
 |[],_=>none
 |x::_,0=>some x
 |_::xs,n+1=>zkS xs n
theorem zeD:∀(l:List Nat) (i:Nat),zkS l i=l[i]?
 |[],_=>rfl
 |_::_,0=>rfl
 |_::xs,n+1=>by rw[zkS,zeD xs n];rfl
def zbV(ids:List Nat)(n:Nat)(j:Nat):Option Nat:=match zkS ids j with
 |some i=>some i
 |none=>some (n+(j - zcd ids))
def zoA:SObj->Bool
 |.list _ _ _ _=>true
 |_=>false
def zdr(ids:List Nat)(O:List SObj)(i:Nat):Option Nat:=match zaH i ids with
 |true=>match zoA (zbt O i) with
  |true=>none
  |false=>some i
 |false=>some i
def zuU:List Nat->List Nat->(List Nat->Prop)->Prop
 |[],acc,k=>k acc
 |x::xs,acc,k=>zuU xs (x::acc) k
def zcu:List Nat->Bool
 |[]=>true
 |x::xs => !zaH x xs&&zcu xs
def zmW(ids:List Nat)(O:List SObj):List Nat->(List SObj->Prop)->Prop
 |[],k=>k []
 |i::r,k=>zp7 (fun n=>zes n ids 0) (zbt O i) fun so=>zmW ids O r fun l=>k (so::l)
def zcm(g:Nat->Option Nat):List Nat->List SObj->List SObj->(List SObj->List SObj->Prop)->Prop
 |[],O',O,k=>k O' O
 |i::r,[],O,k=>zcI O i .dead fun O=>zcm g r [] O k
 |i::r,so::O',O,k=>zp7 g so fun so=>zcI O i so fun O=>zcm g r O' O k
def zeL:List SObj->List SObj->(List SObj->Prop)->Prop
 |[],l,k=>k l
 |x::xs,l,k=>zeL xs l fun r=>k (x::r)
theorem zc3:∀(a b:List SObj) (k:List SObj->Prop),zeL a b k=k (a++b)
 |[],_,_=>rfl
 |x::xs,b,k=>by rw[zeL,zc3 xs b];rfl
def znq:Nat->SV->Bool
 |_,.cv _=>true
 |d+1,.agg cs=>cs.all (znq d)
 |d+1,.tup cs=>cs.all (znq d)
 |_,_=>false
noncomputable def zsh(P:Program):Nat->TypeId->Bool
 |0,_=>false
 |d+1,t=>match P.underlying t with
  |some (.int _)=>true
  |some .string=>true
  |some .bool=>true
  |some (.struct fs)=>fs.toList.all fun f=>zsh P d f.type
  |some (.array _ e)=>zsh P d e
  |_=>false
noncomputable def zvP(P:Program)(f:FuncId):Bool:=match P.funcs[f]? with
 |some fn=>fn.resultTypes.toList.all (zsh P 4)
 |none=>false
def zlW(O:List SObj):Nat->SV->SV
 |_,.lst o=>match zbt O o with
  |.list _ sz n el=>.isl sz n el
  |_=>.junk
 |d+1,.agg cs=>.agg (cs.map (zlW O d))
 |d+1,.ifc ty v=>.ifc ty (zlW O d v)
 |_,v=>v
def zi1(O:List SObj):Nat->SV->(SV->Prop)->Prop
 |_,.lst o,k=>match zbt O o with
  |.list _ sz n el=>k (.isl sz n el)
  |_=>k .junk
 |d+1,.agg cs,k=>zbq (zi1 O d) cs fun cs=>k (.agg cs)
 |d+1,.ifc ty v,k=>zi1 O d v fun v=>k (.ifc ty v)
 |_,v,k=>k v
def zg1(S:List SV->List SObj->(SV->List SObj->Prop)->Prop)(args:List SV)(T:List SV)(O:List SObj)(K:DK):Prop:=
 zcV 60 O (args.flatMap (zaG zah)) [] fun rids=>zuU rids [] fun ids=>
   match zcu ids&&ids.all (fun i=>Nat.blt i (zcd O)) with
   |true=>zbq (ziz (fun n=>zes n ids 0) zah) args fun args=>zmW ids O ids fun objs=>
     ∃post,S args objs post/\∀v O',post v O' ->
      ziz (zbV ids (zcd O)) zah v fun v=>zbq (ziz (zdr ids O) zah) T fun T=>zbq (zp7 (zdr ids O)) O fun O1=>
       zcm (zbV ids (zcd O)) ids O' O1 fun rest O2=>zbq (zp7 (zbV ids (zcd O))) rest fun rest=>zeL O2 rest fun O3=>K v T O3
   |false=>False
structure DSpecP(P:Program)(X:Ext)(gl:List (Nat×List CV))(f:FuncId)(args:List SV)(objs:List SObj)(post:SV->List SObj->Prop)(pan:CV->List SObj->Prop):Prop where
 run:∀(G:Ctx) (R:RO) (e:DEnv) (m:Mem) (xs:List CV),GlbOk gl R->MSat G R e objs m->RepL R e args xs ->
  ∃y m' R' e' O',R.le R'/\(∀o u,e o=some (PM.c u)->e' o=some (PM.c u))/\MSat G R' e' O' m'/\((∃v,Ev P X (.call f xs m) (.ret y m')/\Rep R' e' v y/\post v O')\/(Ev P X (.call f xs m) (.pan y m')/\pan y O'))
theorem DSpecP.mono{P:Program}{X:Ext}{gl:List (Nat×List CV)}{f:FuncId}{args:List SV}{objs:List SObj}{post post':SV->List SObj->Prop}{pan pan':CV->List SObj->Prop}(h:DSpecP P X gl f args objs post pan)(k:∀v O,post v O->post' v O)(j:∀x O,pan x O->pan' x O):DSpecP P X gl f args objs post' pan':=
 ⟨fun G R e m xs h1 h2 h3=>by
  obtain⟨y,m',R',e',O',q1,q2,q3,⟨v,q4,q5,q6⟩ |⟨q4,q5⟩⟩:=h.run G R e m xs h1 h2 h3
  ·exact⟨y,m',R',e',O',q1,q2,q3,.inl ⟨v,q4,q5,k v O' q6⟩⟩
  ·exact⟨y,m',R',e',O',q1,q2,q3,.inr ⟨q4,j y O' q5⟩⟩⟩
theorem DSpecP.still{P:Program}{X:Ext}{gl:List (Nat×List CV)}{f:FuncId}{args:List SV}{objs:List SObj}{post:SV->List SObj->Prop}(h:DSpecP P X gl f args objs post fun _ _=>False):DSpec P X gl f args objs post:=
 ⟨fun G R e m xs h1 h2 h3=>by
  obtain⟨y,m',R',e',O',q1,q2,q3,⟨v,q4,q5,q6⟩ |⟨q4,q5⟩⟩:=h.run G R e m xs h1 h2 h3
  ·exact⟨y,m',R',e',v,O',q4,q1,q2,q5,q3,q6⟩
  ·exact q5.elim⟩
def zho(S:List SV->List SObj->(SV->List SObj->Prop)->(CV->List SObj->Prop)->Prop)(args:List SV)(T:List SV)(O:List SObj)(K:DK)(KP:CV->List SV->List SObj->Prop):Prop:=
 zcV 60 O (args.flatMap (zaG zah)) [] fun rids=>zuU rids [] fun ids=>
   match zcu ids&&ids.all (fun i=>Nat.blt i (zcd O)) with
   |true=>zbq (ziz (fun n=>zes n ids 0) zah) args fun args=>zmW ids O ids fun objs=>
     ∃post pan,S args objs post pan/\(∀v O',post v O' ->
      ziz (zbV ids (zcd O)) zah v fun v=>zbq (ziz (zdr ids O) zah) T fun T=>zbq (zp7 (zdr ids O)) O fun O1=>
       zcm (zbV ids (zcd O)) ids O' O1 fun rest O2=>zbq (zp7 (zbV ids (zcd O))) rest fun rest=>zeL O2 rest fun O3=>K v T O3)/\∀x O',pan x O' ->
      zbq (ziz (zdr ids O) zah) T fun T=>zbq (zp7 (zdr ids O)) O fun O1=>
       zcm (zbV ids (zcd O)) ids O' O1 fun rest O2=>zbq (zp7 (zbV ids (zcd O))) rest fun rest=>zeL O2 rest fun O3=>KP x T O3
   |false=>False
noncomputable def zo4(P:Program)(X:Ext)(c:DCfg)(f:FuncId)(args:List SV)(T:List SV)(O:List SObj)(K:DK)(KP:CV->List SV->List SObj->Prop):Prop:=
 zmp 9 args T O fun args T O=>zho (DSpecP P X c.glb f) args T O K KP
def cvOfK:Nat->SV->(CV->Prop)->Prop
 |_,.cv x,k=>k x
 |d+1,.ifc ty v,k=>cvOfK d v fun x=>k (.ifc ty x)
 |d+1,.agg cs,k=>cvOfLK (cvOfK d) cs fun xs=>k (.agg xs)
 |_,_,_=>False
where
 cvOfLK (f:SV->(CV->Prop)->Prop):List SV->(List CV->Prop)->Prop
 |[],k=>k []
 |v::r,k=>f v fun x=>cvOfLK f r fun xs=>k (x::xs)
noncomputable def zvx(P:Program)(X:Ext)(c:DCfg)(f:FuncId)(args:List SV)(T:List SV)(O:List SObj)(K:DK):Prop:=
 match(args.flatMap (zaG zah)).all (fun i=>zoA (zbt O i))&&zvP P f with
 |true=>zbq (zi1 O zah) args fun args=>match args.all (zeg zah) with
  |true=>∃post,DSpec P X c.glb f args [] post/\∀v O',post v O'->znq zah v=true/\K v T O
  |false=>False
 |false=>zmp 9 args T O fun args T O=>zg1 (DSpec P X c.glb f) args T O K
end Go.Cx
namespace Go.Cx
open Go
theorem zdH{l:List Nat}{j i:Nat}(h:zkS l j=some i):j<l.length/\i∈l:=by
 rw[zeD]at h;exact⟨(List.getElem?_eq_some_iff.1 h).1,List.mem_of_getElem? h⟩
theorem zcv:∀{l:List Nat} {n a j:Nat},zes n l a=some j->a<=j/\zkS l (j - a)=some n
 |[],_,_,_,h=>by cases h
 |x::xs,n,a,j,h=>by
  unfold zes at h;split at h
  ·rename_i hq;rw[zdG]at hq;simp at hq;cases h;exact⟨Nat.le_refl _,by rw[Nat.sub_self];show some x=some n;rw[hq]⟩
  ·obtain⟨h1,h2⟩:=zcv h;refine⟨by omega,?_⟩;rw[show j - a=(j - Nat.succ a)+1 by omega];exact h2
theorem memN_iff{n:Nat}:∀{l:List Nat},zaH n l=true↔n∈l
 |[]=>by simp[zaH]
 |x::xs=>by
  unfold zaH;rw[zdG];by_cases h:x=n
  ·subst h;simp
  ·have:¬n=x:=fun hh=>h hh.symm
   simp[h,memN_iff,this]
theorem zj7:∀{l:List Nat} {j n a:Nat},zcu l=true->zkS l j=some n->zes n l a=some (a+j)
 |[],j,n,a,_,h=>by cases h
 |x::xs,0,n,a,_,h=>by
  cases h;unfold zes;rw[Nat.beq_refl];rfl
 |x::xs,j+1,n,a,hd,h=>by
  simp only[zcu,ya2,Bool.not_eq_true']at hd;have h':zkS xs j=some n:=h;have hm:=(zdH h').2;unfold zes;have hne:x≠n:=by
   rintro rfl;have:=hd.1;rw[show zaH x xs=true from memN_iff.2 hm]at this;cases this
  rw[zkQ hne];show zes n xs (Nat.succ a)=_;rw[zj7 hd.2 h'];congr 1;omega
theorem zcx{n:Nat}:∀{l:List Nat} {a:Nat},n∉l->zes n l a=none
 |[],_,_=>rfl
 |x::xs,a,h=>by
  unfold zes;rw[zkQ (fun hh=>h (by rw[hh];exact ya5 ..))];exact zcx fun hh=>h (ya4 _ hh)
theorem zbB{n:Nat}:∀{l:List Nat},n∈l->∃j,zkS l j=some n
 |x::xs,h=>by
  rcases List.mem_cons.1 h with rfl |h
  ·exact⟨0,rfl⟩
  ·obtain⟨j,hj⟩:=zbB h;exact⟨j+1,hj⟩
theorem zrw:∀(l acc:List Nat) (k:List Nat->Prop),∃l',zuU l acc k=k l'
 |[],acc,k=>⟨acc,rfl⟩
 |x::xs,acc,k=>zrw xs (x::acc) k
theorem zkb{l acc:List Nat}{k:List Nat->Prop}(h:zuU l acc k):∃l,k l:=by
 obtain⟨l',hl⟩:=zrw l acc k;exact⟨l',by rw[<- hl];exact h⟩
theorem zca{f:Nat}{O:List SObj}{r seen:List Nat}{k:List Nat->Prop}(h:zcV f O r seen k):∃l,k l:=by
 obtain⟨l',hl⟩:=ze9 f O r seen k;exact⟨l',by rw[<- hl];exact h⟩
theorem zfk(ids:List Nat)(O:List SObj):∀(r:List Nat) (k:List SObj->Prop),zmW ids O r k=k (r.map fun i=>mvO (fun n=>zes n ids 0) (zbt O i))
 |[],_=>rfl
 |i::r,k=>by rw[zmW,zcY,zfk ids O r];rfl
def ziB(g:Nat->Option Nat):List Nat->List SObj->List SObj->List SObj
 |[],_,O=>O
 |i::r,[],O=>ziB g r [] (O.set i .dead)
 |i::r,so::O',O=>ziB g r O' (O.set i (mvO g so))
theorem zb3(g:Nat->Option Nat):∀(ids:List Nat) (O' O:List SObj) (k:List SObj->List SObj->Prop),zcm g ids O' O k=k (O'.drop ids.length) (ziB g ids O' O)
 |[],O',O,k=>rfl
 |i::r,[],O,k=>by rw[zcm,zav,zb3 g r];simp[ziB]
 |i::r,so::O',O,k=>by rw[zcm,zcY,zav,zb3 g r];simp[ziB]
theorem zgL(g:Nat->Option Nat):∀(ids:List Nat) (O' O:List SObj),(ziB g ids O' O).length=O.length
 |[],_,_=>rfl
 |i::r,[],O=>by rw[ziB,zgL g r];simp
 |i::r,so::O',O=>by rw[ziB,zgL g r];simp
theorem zd6{g:Nat->Option Nat}:∀{ids:List Nat} {O' O:List SObj} {i:Nat},i∉ids->(ziB g ids O' O)[i]? = O[i]?
 |[],_,_,_,_=>rfl
 |x::r,[],O,i,h=>by
  rw[ziB,zd6 fun hh=>h (ya4 _ hh),yc8,if_neg (fun hh=>h (by rw[<- hh];exact ya5 ..))]
 |x::r,so::O',O,i,h=>by
  rw[ziB,zd6 fun hh=>h (ya4 _ hh),yc8,if_neg (fun hh=>h (by rw[<- hh];exact ya5 ..))]
theorem zjV{g:Nat->Option Nat}:∀{ids:List Nat} {O' O:List SObj} {i j:Nat},zcu ids=true->zkS ids j=some i->i<O.length->(ziB g ids O' O)[i]? = some (match O'[j]? with |some so=>mvO g so |none=>.dead)
 |[],_,_,_,_,_,h,_=>by cases h
 |x::r,O',O,i,0,hd,h,hi=>by
  cases h;simp only[zcu,ya2,Bool.not_eq_true']at hd;have hn:x∉r:=fun hh=>by rw[memN_iff.2 hh]at hd;cases hd.1
  cases O' with
  |nil=>rw[ziB,zd6 hn,yc8,if_pos rfl,if_pos hi];rfl
  |cons so O'=>rw[ziB,zd6 hn,yc8,if_pos rfl,if_pos hi];rfl
 |x::r,O',O,i,j+1,hd,h,hi=>by
  simp only[zcu,ya2]at hd;have h':zkS r j=some i:=h;cases O' with
  |nil=>rw[ziB,zjV (j:=j) hd.2 h' (by simpa using hi)];simp
  |cons so O'=>rw[ziB,zjV (j:=j) hd.2 h' (by simpa using hi)];simp
section
variable{P:Program}{X:Ext}{c:DCfg}{G:Ctx}{R:RO}{e:DEnv}{m:Mem}{t:Tmps}{K:DK}{T:List SV}{O:List SObj}
theorem GlbOk.mono{gl:List (Nat×List CV)}{R':RO}(h:GlbOk gl R)(hR:R.le R'):GlbOk gl R':=fun g cs hm=>by
 obtain⟨o,h1,h2⟩:=h g cs hm;exact⟨o,hR _ _ h1,h2⟩
theorem zrz:∀(d:Nat) {v:SV} {x:CV} {R':RO} {e':DEnv},Rep R e v x->znq d v=true->Rep R' e' v x:=by
 intro d
 induction d with
 |zero=>
  intro v x R' e' h hf;cases h<;>simp[znq]at hf
  case cv h=>exact .cv h
 |succ d ih=>
  intro v x R' e' h hf;have hl:∀{vs:List SV} {xs:List CV},RepL R e vs xs->vs.all (znq d)=true->RepL R' e' vs xs:=by
   intro vs
   induction vs with
   |nil=>intro xs h _;cases h;exact .nil
   |cons v vs ihv=>
    intro xs h hi;simp only[List.all_cons,ya2]at hi;cases h with
    |cons hv hs=>exact .cons (ih hv hi.1) (ihv hs hi.2)
  cases h<;>simp[znq]at hf
  case cv h=>exact .cv h
  case agg h=>exact .agg (hl h (by simpa using hf))
  case tup h=>exact .tup (hl h (by simpa using hf))
theorem MSat.still(h:MSat G R e O m){m':Mem}(hf:Fr [] m m')(hk:Mk R m'):MSat G R e O m':=by
 refine⟨Fr.call hf (fun a ha=>by cases ha) h.fr,hk,h.le,h.rn,h.own,h.inj,fun o so ho=>?_,h.dom⟩;rcases h.ob o so ho with h1 |⟨x,h1,h2⟩
 ·exact .inl h1
 ·exact .inr ⟨x,h1,h2.mono (RO.le.refl R) (DEnv.le.refl _) fun t ht=>by
   obtain⟨_,_,_,hlt⟩:=h.lt h1 ht;exact hf.get t hlt (by simp)⟩
theorem zhw(O:List SObj):∀(d:Nat) (v:SV) (k:SV->Prop),zi1 O d v k=k (zlW O d v)
 |0,v,k=>by cases v<;>simp only[zi1,zlW]<;>(try split)<;>rfl
 |d+1,v,k=>by
  cases v<;>simp only[zi1,zlW]<;>first
   |rfl
   |(rw[zaf (zhw O d)])
   |(rw[zhw O d])
   |(split<;>rfl)
open Classical in
noncomputable def zgB(R:RO)(e:DEnv)(O:List SObj)(m:Mem):RO:=fun t=>match R t with
 |some o=>some o
 |none=>if ∃o x,e o=some x/\tg x=some t/\zoA (zbt O o)=true then m.get t else none
theorem lentR_le:R.le (zgB R e O m):=fun t o h=>by unfold zgB;rw[h]
theorem ztw(h:Mk R m):Mk (zgB R e O m) m:=⟨h.wf,fun t o hh=>by
 unfold zgB at hh;split at hh
 ·rename_i hq;cases hh;exact h.ro _ _ hq
 ·split at hh
  ·exact hh
  ·cases hh⟩
theorem ztN(hM:MSat G R e O m):∀(d:Nat) {v:SV} {x:CV},Rep R e v x->Rep (zgB R e O m) e (zlW O d v) x:=by
 have lst:∀{o:Nat} {x:CV},e o=some x->Rep (zgB R e O m) e (match zbt O o with |.list _ sz n el=>.isl sz n el |_=>.junk) x:=by
  intro o x hx;split
  ·rename_i ty sz n el ho;obtain⟨z,hz,hor⟩:=hM.list ho;rw[hx]at hz;cases hz;have hlent:∀t co,tg x=some t->m.get t=some co->zgB R e O m t=some co:=fun t co ht hg=>by
    unfold zgB;rw[(hM.own o x t hx ht).2];simp only;split
    ·exact hg
    ·rename_i hn;exact absurd ⟨o,x,hx,ht,by rw[ho];rfl⟩ hn
   rcases hor with⟨hq |⟨tt,off,oo,cs,hq,h1,h2,h3,h4⟩,rfl⟩ |⟨tt,cc,xs,rfl,h0,h1,h2,h3,ha,h4⟩ |⟨tt,xs,rfl,h2,h3,ha,h4⟩
   ·rcases zdD hq with h |⟨a,h⟩
    ·subst h;exact .islN
    ·subst h;exact .islV
   ·subst hq;exact .islS (lentR_le _ _ h1) h2 (by simpa using h3) (Nat.le_refl _) h4 fun i hi=>by omega
   ·refine .islS (hlent tt _ (zcD h0) h2) rfl ?_ h1 ha fun i hi=>?_
    ·rw[<- h3,Nat.zero_add];exact yd2 _ h1
    ·rw[Nat.zero_add];exact(h4 i hi).mono lentR_le (DEnv.le.refl _)
   ·refine .islO (hlent tt _ rfl h2) ?_ ha fun i hi=>?_
    ·rw[Nat.zero_add];exact h3
    ·rw[Nat.zero_add];exact(h4 i hi).mono lentR_le (DEnv.le.refl _)
  ·exact .junk
 intro d
 induction d with
 |zero=>
  intro v x h;cases v with
  |lst o=>cases h<;>exact lst (by assumption)
  |_=>exact h.mono lentR_le (DEnv.le.refl _)
 |succ d ih=>
  intro v x h;cases v with
  |lst o=>cases h<;>exact lst (by assumption)
  |agg cs=>
   cases h with
   |agg h=>
    have hl:∀{vs:List SV} {xs:List CV},RepL R e vs xs->RepL (zgB R e O m) e (vs.map (zlW O d)) xs:=by
     intro vs
     induction vs with
     |nil=>intro xs h;cases h;exact .nil
     |cons v vs ihv=>intro xs h;cases h with |cons hv hs=>exact .cons (ih hv) (ihv hs)
    exact .agg (hl h)
  |ifc ty v=>cases h with |ifc h=>exact .ifc (ih h)
  |_=>exact h.mono lentR_le (DEnv.le.refl _)
theorem zlc(hM:MSat G R e O m):∀{vs:List SV} {xs:List CV},RepL R e vs xs->RepL (zgB R e O m) e (vs.map (zlW O zah)) xs
 |_,_,.nil=>.nil
 |_,_,.cons hv hs=>.cons (ztN hM zah hv) (zlc hM hs)
theorem MSat.empty{R:RO}{m:Mem}(h:Mk R m):MSat ⟨m,[],R⟩ R noE [] m:=
 ⟨Fr.refl _ _,h,RO.le.refl R,fun t o hh=>.inl hh,fun _ _ _ hx=>(by cases hx),fun _ _ _ _ _ hx=>(by cases hx),fun o so ho=>(by simp at ho),fun _ _ hx=>(by cases hx)⟩
theorem zkd{f:Nat->Option Nat}{so:SObj}(h:so≠.dead):mvO f so≠.dead:=by cases so<;>simp[mvO]at h ⊢
def inE(e:DEnv)(ids:List Nat):DEnv:=fun j=>match zkS ids j with
 |some i=>e i
 |none=>none
theorem zed{ids:List Nat}{j:Nat}{x:CV}(h:inE e ids j=some x):∃i,zkS ids j=some i/\e i=some x:=by
 unfold inE at h;split at h
 ·rename_i i hi;exact⟨i,hi,h⟩
 ·cases h
noncomputable def zac(e:DEnv)(ids:List Nat):List Nat:=ids.filterMap fun i=>(e i).bind tg
theorem zaD{ids:List Nat}{i t:Nat}{x:CV}(hi:i∈ids)(hx:e i=some x)(ht:tg x=some t):t∈zac e ids:=List.mem_filterMap.2 ⟨i,hi,by rw[hx];exact ht⟩
theorem zap{ids:List Nat}{t:Nat}(h:t∈zac e ids):∃i x,i∈ids/\e i=some x/\tg x=some t:=by
 obtain⟨i,hi,h⟩:=List.mem_filterMap.1 h;cases hx:e i with
 |none=>rw[hx]at h;cases h
 |some x=>rw[hx]at h;exact⟨i,x,hi,hx,h⟩
theorem MSat.enter(hM:MSat G R e O m){ids:List Nat}(hd:zcu ids=true):MSat ⟨m,zac e ids,R⟩ R (inE e ids) (ids.map fun i=>mvO (fun n=>zes n ids 0) (zbt O i)) m:=by
 have he:∀i j x,zes i ids 0=some j->e i=some x->inE e ids j=some x:=fun i j x h1 h2=>by
  have:=(zcv h1).2;rw[Nat.sub_zero]at this;unfold inE;rw[this];exact h2
 refine⟨Fr.refl _ _,hM.sk,RO.le.refl R,fun t o hh=>.inl hh,fun j x t hx ht=>?_,fun j j' x x' t hx hx' ht ht'=>?_,fun j so hj=>?_,fun j x hx=>?_⟩
 ·obtain⟨i,h1,h2⟩:=zed hx;exact⟨.inr (zaD (zdH h1).2 h2 ht),(hM.own i x t h2 ht).2⟩
 ·obtain⟨i,h1,h2⟩:=zed hx;obtain⟨i',h1',h2'⟩:=zed hx';obtain rfl:=hM.inj i i' x x' t h2 h2' ht ht';have e1:=zj7 (a:=0) hd h1;have e2:=zj7 (a:=0) hd h1';rw[e1]at e2;simpa using e2
 ·rw[yb9]at hj;cases hi:ids[j]? with
  |none=>rw[hi]at hj;cases hj
  |some i=>
   rw[hi]at hj;have hj':mvO (fun n=>zes n ids 0) (zbt O i)=so:=by simpa using hj
   subst hj';have hg:zkS ids j=some i:=by rw[zeD];exact hi
   cases hO:zbt O i with
   |dead=>exact .inl rfl
   |cells ty cs=>
    obtain⟨t',xs,h1,h2,h3⟩:=hM.cells (zay hO (by simp));refine .inr ⟨.ptr t' 0,by unfold inE;rw[hg];exact h1,?_⟩;exact OR.mv (so:=.cells ty cs) (RO.le.refl R) he ⟨t',xs,rfl,h2,h3⟩ fun _ _=>rfl
   |list ty sz n el=>
    obtain⟨x,h1,h2⟩:=hM.list hO;exact .inr ⟨x,by unfold inE;rw[hg];exact h1,OR.mv (RO.le.refl R) he h2 fun _ _=>rfl⟩
   |map c f st=>
    obtain⟨t',es,clock,h1,h2,h3⟩:=hM.mapo hO;refine .inr ⟨.map t',by unfold inE;rw[hg];exact h1,?_⟩;exact OR.mv (so:=.map c f st) (RO.le.refl R) he ⟨t',es,clock,rfl,h2,h3⟩ fun _ _=>rfl
 ·obtain⟨i,h1,h2⟩:=zed hx;obtain⟨so,h3,h4⟩:=hM.dom i x h2;have hg:ids[j]? = some i:=by rw[<- zeD];exact h1
  refine⟨mvO (fun n=>zes n ids 0) so,?_,zkd h4⟩;rw[yb9,hg,yc5,zdA,ya8,h3];rfl
def zix(e e2:DEnv)(ids:List Nat)(n:Nat):DEnv:=fun i=>match zes i ids 0 with
 |some j=>e2 j
 |none=>if i<n then e i else e2 (zcd ids+(i - n))
theorem zcn{ids:List Nat}{n j i:Nat}(h:zkS ids j=some i):zbV ids n j=some i:=by unfold zbV;rw[h]
theorem zgV{ids:List Nat}{n j:Nat}(h:ids.length<=j):zbV ids n j=some (n+(j - ids.length)):=by
 have:zkS ids j=none:=by rw[zeD];exact List.getElem?_eq_none h
 unfold zbV;rw[this,zat]
theorem zbr{e2:DEnv}{ids:List Nat}{n i j:Nat}{x:CV}(hd:zcu ids=true)(hlt:∀i∈ids,i<n)(h:zbV ids n j=some i)(hx:e2 j=some x):zix e e2 ids n i=some x:=by
 unfold zix;cases hg:zkS ids j with
 |some i'=>
  rw[zcn hg]at h;cases h;rw[zj7 hd hg,Nat.zero_add];exact hx
 |none=>
  have hj:ids.length<=j:=by
   rw[zeD]at hg;exact List.getElem?_eq_none_iff.1 hg
  rw[zgV hj]at h;cases h;have hni:n+(j - ids.length)∉ids:=fun hh=>by have:=hlt _ hh;omega
  rw[zcx hni];show(if _ then _ else _)=_;rw[if_neg (by omega),zat,show ids.length+(n+(j - ids.length) - n)=j by omega];exact hx
theorem zc2{e2:DEnv}{ids:List Nat}{n i:Nat}{x:CV}(h:zix e e2 ids n i=some x):(∃j,e2 j=some x/\zbV ids n j=some i)\/(i∉ids/\i<n/\e i=some x):=by
 unfold zix at h;split at h
 ·rename_i j hj;have:=(zcv hj).2;rw[Nat.sub_zero]at this;exact .inl ⟨j,h,zcn this⟩
 ·rename_i hj;split at h
  ·rename_i hi;refine .inr ⟨fun hm=>?_,hi,h⟩;obtain⟨k,hk⟩:=zbB hm;have:∀{l:List Nat} {a:Nat},i∈l->zes i l a≠none:=by
    intro l
    induction l with
    |nil=>intro a hm;cases hm
    |cons y ys ih=>
     intro a hm;unfold zes;rw[zdG];by_cases hy:y=i
     ·subst hy;simp
     ·simp only[hy,decide_false];exact ih (by rcases List.mem_cons.1 hm with hm |hm;exact absurd hm.symm hy;exact hm)
   exact this hm hj
  ·rename_i hi;rw[zat]at h;refine .inl ⟨_,h,?_⟩;rw[zgV (by omega)];congr 1;omega
theorem MSat.leaveS(hM:MSat G R e O m){ids:List Nat}(hd:zcu ids=true)(hlt:∀i∈ids,i<O.length){m':Mem}{R2:RO}{e2:DEnv}{O2:List SObj}(hR:R.le R2)(hp:∀o u,inE e ids o=some (PM.c u)->e2 o=some (PM.c u)){S1:List Nat}(hS1:∀t∈S1,G.own t)(hS2:∀i x t,i∉ids->e i=some x->tg x=some t->t∉S1)
  (h2:MSat ⟨m,S1,R⟩ R2 e2 O2 m'):
  (∀i j x,zdr ids O i=some j->e i=some x->zix e e2 ids O.length j=some x) /\
  MSat G R2 (zix e e2 ids O.length) (ziB (zbV ids O.length) ids O2 (O.map (mvO (zdr ids O)))++(O2.drop ids.length).map (mvO (zbV ids O.length))) m':=by
 have hstay:∀i j x,zdr ids O i=some j->e i=some x->zix e e2 ids O.length j=some x:=by
  intro i j x hs hx;unfold zdr at hs;split at hs
  ·rename_i hm;split at hs
   ·cases hs
   ·rename_i hl;cases hs;obtain⟨k,hk⟩:=zbB (memN_iff.1 hm);obtain⟨so,h3,h4⟩:=hM.dom i x hx;have hgo:zbt O i=so:=by rw[zdA,ya8,h3];rfl
    rw[hgo]at hl;cases so with
    |dead=>exact absurd rfl h4
    |list _ _ _ _=>simp[zoA]at hl
    |cells ty cs=>
     obtain⟨t',xs,h5,_,_⟩:=hM.cells h3;rw[hx]at h5;cases h5;exact zbr hd hlt (zcn hk) (hp k (.p t') (by unfold inE;rw[hk];exact hx))
    |map c f st=>
     obtain⟨t',es,clock,h5,_,_⟩:=hM.mapo hgo;rw[hx]at h5;cases h5;exact zbr hd hlt (zcn hk) (hp k (.m t') (by unfold inE;rw[hk];exact hx))
  ·rename_i hm;cases hs;have hni:i∉ids:=fun hh=>by rw[memN_iff.2 hh]at hm;cases hm
   obtain⟨so,h3,_⟩:=hM.dom i x hx;unfold zix;rw[zcx hni];show(if _ then _ else _)=_;rw[if_pos (List.getElem?_eq_some_iff.1 h3).1];exact hx
 have hownc:∀t,(⟨m,S1,R⟩:Ctx).own t->G.own t:=fun t ht=>by
  rcases ht with ht |ht
  ·have:m.nxt<=t:=ht;exact .inl (by have:=hM.fr.nxt;omega)
  ·exact hS1 t ht
 have hsep:∀i x t,i∉ids->e i=some x->tg x=some t->¬(⟨m,S1,R⟩:Ctx).own t:=fun i x t hi hx ht ho=>by
  rcases ho with ho |ho
  ·obtain⟨_,_,_,hl⟩:=hM.lt hx ht;have:m.nxt<=t:=ho;omega
  ·exact hS2 i x t hi hx ht ho
 refine⟨hstay,Fr.call h2.fr (fun a ha=>?_) hM.fr,h2.sk,hM.le.trans hR,fun t o hh=>?_,fun i x t hx ht=>?_,fun i i' x x' t hx hx' ht ht'=>?_,fun i so hi=>?_,fun i x hx=>?_⟩
 ·exact hS1 a ha
 ·rcases h2.rn t o hh with h1 |h1
  ·exact hM.rn t o h1
  ·exact .inr (hownc t h1)
 ·rcases zc2 hx with⟨j,h1,_⟩ |⟨h1,_,h3⟩
  ·exact⟨hownc t (h2.own j x t h1 ht).1,(h2.own j x t h1 ht).2⟩
  ·refine⟨(hM.own i x t h3 ht).1,?_⟩;cases hq:R2 t with
   |none=>rfl
   |some o=>
    rcases h2.rn t o hq with h4 |h4
    ·have h5:=(hM.own i x t h3 ht).2;have h6:R t=some o:=h4;rw[h6]at h5;cases h5
    ·exact absurd h4 (hsep i x t h1 h3 ht)
 ·rcases zc2 hx with⟨j,h1,h3⟩ |⟨h1,h3,h4⟩<;>rcases zc2 hx' with⟨j',h1',h3'⟩ |⟨h1',h3',h4'⟩
  ·obtain rfl:=h2.inj j j' x x' t h1 h1' ht ht';rw[h3]at h3';exact Option.some.inj h3'
  ·exact absurd (h2.own j x t h1 ht).1 (hsep i' x' t h1' h4' ht')
  ·exact absurd (h2.own j' x' t h1' ht').1 (hsep i x t h1 h4 ht)
  ·exact hM.inj i i' x x' t h4 h4' ht ht'
 ·have hlen:(ziB (zbV ids O.length) ids O2 (O.map (mvO (zdr ids O)))).length=O.length:=by rw[zgL,yb7]
  have fromJ:∀{j:Nat} {s0:SObj},O2[j]? = some s0->zbV ids O.length j=some i->so=mvO (zbV ids O.length) s0->so=.dead\/∃x,zix e e2 ids O.length i=some x/\OR R2 (zix e e2 ids O.length) m' x so:=by
   rintro j s0 h1 h3 rfl;rcases h2.ob j s0 h1 with rfl |⟨x,h4,h5⟩
   ·exact .inl rfl
   ·exact .inr ⟨x,zbr hd hlt h3 h4,h5.mv (RO.le.refl R2) (fun a b y hh hy=>zbr hd hlt hh hy) fun _ _=>rfl⟩
  rcases Nat.lt_or_ge i O.length with hq |hq
  ·rw[yb8 (by rw[hlen];exact hq)]at hi;by_cases hm:i∈ids
   ·obtain⟨j,hj⟩:=zbB hm;rw[zjV hd hj (by rw[yb7];exact hq)]at hi;have hso:=Option.some.inj hi;cases hO:O2[j]? with
    |none=>rw[hO]at hso;exact .inl hso.symm
    |some s0=>rw[hO]at hso;exact fromJ hO (zcn hj) hso.symm
   ·rw[zd6 hm,yb9]at hi;cases hO:O[i]? with
    |none=>rw[hO]at hi;cases hi
    |some s0=>
     rw[hO]at hi;cases hi;rcases hM.ob i s0 hO with rfl |⟨x,h4,h5⟩
     ·exact .inl rfl
     ·refine .inr ⟨x,?_,h5.mv hR hstay fun t ht=>?_⟩
      ·unfold zix;rw[zcx hm];show(if _ then _ else _)=_;rw[if_pos hq];exact h4
      ·obtain⟨_,_,_,hl⟩:=hM.lt h4 ht;exact h2.fr.get t hl fun hS=>hsep i x t hm h4 ht (.inr hS)
  ·rw[yd0 (by rw[hlen];exact hq),hlen,yb9,List.getElem?_drop]at hi;cases hO:O2[ids.length+(i - O.length)]? with
   |none=>rw[hO]at hi;cases hi
   |some s0=>
    rw[hO]at hi;cases hi;exact fromJ hO (by rw[zgV (by omega)];congr 1;omega) rfl
 ·have hlen:(ziB (zbV ids O.length) ids O2 (O.map (mvO (zdr ids O)))).length=O.length:=by rw[zgL,yb7]
  rcases zc2 hx with⟨j,h1,h3⟩ |⟨h1,h3,h4⟩
  ·obtain⟨s0,h4,h5⟩:=h2.dom j x h1;refine⟨mvO (zbV ids O.length) s0,?_,zkd h5⟩;cases hg:zkS ids j with
   |some i'=>
    rw[zcn hg]at h3;cases h3;have hq:=hlt _ (zdH hg).2;rw[yb8 (by rw[hlen];exact hq),zjV hd hg (by rw[yb7];exact hq),h4]
   |none=>
    have hj:ids.length<=j:=by rw[zeD]at hg;exact List.getElem?_eq_none_iff.1 hg
    rw[zgV hj]at h3;cases h3;rw[yd0 (by rw[hlen];omega),hlen,yb9,List.getElem?_drop,show ids.length+(O.length+(j - ids.length) - O.length)=j by omega,h4];rfl
  ·obtain⟨s0,h5,h6⟩:=hM.dom i x h4;exact⟨mvO (zdr ids O) s0,by rw[yb8 (by rw[hlen];exact h3),zd6 h1,yb9,h5];rfl,zkd h6⟩
theorem MSat.leave(hM:MSat G R e O m){ids:List Nat}(hd:zcu ids=true)(hlt:∀i∈ids,i<O.length){m':Mem}{R2:RO}{e2:DEnv}{O2:List SObj}(hR:R.le R2)(hp:∀o u,inE e ids o=some (PM.c u)->e2 o=some (PM.c u))
  (h2:MSat ⟨m,zac e ids,R⟩ R2 e2 O2 m'):
  (∀i j x,zdr ids O i=some j->e i=some x->zix e e2 ids O.length j=some x) /\
  MSat G R2 (zix e e2 ids O.length) (ziB (zbV ids O.length) ids O2 (O.map (mvO (zdr ids O)))++(O2.drop ids.length).map (mvO (zbV ids O.length))) m':=
 hM.leaveS hd hlt hR hp (fun t ht=>by
  obtain⟨i,x,_,h1,h3⟩:=zap ht;exact(hM.own i x t h1 h3).1) (fun i x t hi hx ht ho=>by
  obtain⟨i',x',h1,h3,h4⟩:=zap ho;exact hi (by rw[hM.inj i i' x x' t hx h3 ht h4];exact h1)) h2
theorem MSat.rebase0(h:MSat G R e O m):MSat ⟨m,zac e (List.range O.length),R⟩ R e O m:=
 ⟨Fr.refl _ _,h.sk,RO.le.refl R,fun t o hh=>.inl hh,fun o x t hx ht=>⟨.inr (zaD (List.mem_range.2 (by
  obtain⟨so,h1,_⟩:=h.dom o x hx;exact(List.getElem?_eq_some_iff.1 h1).1)) hx ht),(h.own o x t hx ht).2⟩,h.inj,h.ob,h.dom⟩
theorem zh1{tk:List CV->Mem->Task}{gl:List (Nat×List CV)}{args:List SV}{xs:List CV}(hg:GlbOk gl R)(hM:MSat G R e O m)(hT:TSat R e T t)(ha:RepL R e args xs)(h:zg1 (DSpecT P X gl tk) args T O K):∃y m',Ev P X (tk xs m) (.ret y m')/\Gone G R e t K y m':=by
 unfold zg1 at h;obtain⟨rids,h⟩:=zca h;obtain⟨ids,h⟩:=zkb h;split at h
 ·rename_i hb;simp only[ya2]at hb;obtain⟨hd,hall⟩:=hb;rw[zat]at hall;have hlt:∀i∈ids,i<O.length:=fun i him=>ya9 (List.all_eq_true.1 hall i him)
  rw[zaf (zbb _ zah),zfk]at h;obtain⟨post,hs,hk⟩:=h;have he:∀i j x,zes i ids 0=some j->e i=some x->inE e ids j=some x:=fun i j x h1 h2=>by
   have:=(zcv h1).2;rw[Nat.sub_zero]at this;unfold inE;rw[this];exact h2
  obtain⟨y,m',R',e',v,O',q1,q2,q3,q4,q5,q6⟩:=hs.run ⟨m,zac e ids,R⟩ R (inE e ids) m xs hg (hM.enter hd) (ha.mv (RO.le.refl R) he zah);have hk:=hk v O' q6;rw[zbb,zaf (zbb _ zah),zaf (zcY _),zb3,zaf (zcY _),zc3,zat]at hk;obtain⟨h1,h2⟩:=hM.leave hd hlt q2 q3 q5;refine⟨y,m',q1,R',_,_,_,_,q2,fun o u ho=>?_,q4.mv (RO.le.refl R') (fun i j x hh hx=>zbr hd hlt hh hx) zah,hT.mv q2 h1,h2,hk⟩;by_cases hm:o∈ids
  ·obtain⟨k,hk⟩:=zbB hm;exact zbr hd hlt (zcn hk) (q3 k u (by unfold inE;rw[hk];exact ho))
  ·obtain⟨so,h3,_⟩:=hM.dom o _ ho;unfold zix;rw[zcx hm];show(if _ then _ else _)=_;rw[if_pos (List.getElem?_eq_some_iff.1 h3).1];exact ho
 ·exact h.elim
theorem zlp{f:FuncId}{gl:List (Nat×List CV)}{args:List SV}{xs:List CV}{KP:CV->List SV->List SObj->Prop}(hg:GlbOk gl R)(hM:MSat G R e O m)(hT:TSat R e T t)(ha:RepL R e args xs)(h:zho (DSpecP P X gl f) args T O K KP):
  ∃y m' R' e' T' O',R.le R'/\(∀o u,e o=some (PM.c u)->e' o=some (PM.c u))/\TSat R' e' T' t/\MSat G R' e' O' m'/\((∃v,Ev P X (.call f xs m) (.ret y m')/\Rep R' e' v y/\K v T' O')\/(Ev P X (.call f xs m) (.pan y m')/\KP y T' O')):=by
 unfold zho at h;obtain⟨rids,h⟩:=zca h;obtain⟨ids,h⟩:=zkb h;split at h
 ·rename_i hb;simp only[ya2]at hb;obtain⟨hd,hall⟩:=hb;rw[zat]at hall;have hlt:∀i∈ids,i<O.length:=fun i him=>ya9 (List.all_eq_true.1 hall i him)
  rw[zaf (zbb _ zah),zfk]at h;obtain⟨post,pan,hs,hk,hp⟩:=h;have he:∀i j x,zes i ids 0=some j->e i=some x->inE e ids j=some x:=fun i j x h1 h2=>by
   have:=(zcv h1).2;rw[Nat.sub_zero]at this;unfold inE;rw[this];exact h2
  obtain⟨y,m',R',e',O',q2,q3,q5,hcase⟩:=hs.run ⟨m,zac e ids,R⟩ R (inE e ids) m xs hg (hM.enter hd) (ha.mv (RO.le.refl R) he zah);obtain⟨h1,h2⟩:=hM.leave hd hlt q2 q3 q5;have keep:∀o u,e o=some (PM.c u)->zix e e' ids O.length o=some (PM.c u):=fun o u ho=>by
   by_cases hm:o∈ids
   ·obtain⟨k,hk⟩:=zbB hm;exact zbr hd hlt (zcn hk) (q3 k u (by unfold inE;rw[hk];exact ho))
   ·obtain⟨so,h3,_⟩:=hM.dom o _ ho;unfold zix;rw[zcx hm];show(if _ then _ else _)=_;rw[if_pos (List.getElem?_eq_some_iff.1 h3).1];exact ho
  refine⟨y,m',R',_,_,_,q2,keep,hT.mv q2 h1,h2,?_⟩;rcases hcase with⟨v,q1,q4,q6⟩ |⟨q1,q6⟩
  ·have hk:=hk v O' q6;rw[zbb,zaf (zbb _ zah),zaf (zcY _),zb3,zaf (zcY _),zc3,zat]at hk;exact .inl ⟨_,q1,q4.mv (RO.le.refl R') (fun i j x hh hx=>zbr hd hlt hh hx) zah,hk⟩
  ·have hk:=hp y O' q6;rw[zaf (zbb _ zah),zaf (zcY _),zb3,zaf (zcY _),zc3,zat]at hk;exact .inr ⟨q1,hk⟩
 ·exact h.elim
theorem zlT{f:FuncId}{args:List SV}{xs:List CV}{KP:CV->List SV->List SObj->Prop}(hg:GlbOk c.glb R)(hM:MSat G R e O m)(hT:TSat R e T t)(ha:RepL R e args xs)(h:zo4 P X c f args T O K KP):
  ∃y m' R' e' T' O',R.le R'/\(∀o u,e o=some (PM.c u)->e' o=some (PM.c u))/\TSat R' e' T' t/\MSat G R' e' O' m'/\((∃v,Ev P X (.call f xs m) (.ret y m')/\Rep R' e' v y/\K v T' O')\/(Ev P X (.call f xs m) (.pan y m')/\KP y T' O')):=by
 unfold zo4 at h;obtain⟨R1,e1,args1,T1,O1,p1,p2,p3,p4,p5,h⟩:=zcf 9 ha hT hM h;obtain⟨y,m',R',e',T',O',g1,g2,g3,g4,g5⟩:=zlp (hg.mono p1) p5 p4 p3 h;exact⟨y,m',R',e',T',O',p1.trans g1,fun o u ho=>g2 o u (p2 o u ho),g3,g4,g5⟩
theorem zsX:∀(d:Nat) {v:SV} {x:CV} {k:CV->Prop},Rep R e v x->cvOfK d v k->k x:=by
 have hl:∀(f:SV->(CV->Prop)->Prop),(∀{v:SV} {x:CV} {k:CV->Prop},Rep R e v x->f v k->k x)->∀{vs:List SV} {xs:List CV} {k:List CV->Prop},RepL R e vs xs->cvOfK.cvOfLK f vs k->k xs:=by
  intro f hf vs
  induction vs with
  |nil=>intro xs k hr h;cases hr;exact h
  |cons v r ih=>
   intro xs k hr h;cases hr with
   |cons h1 h2=>exact ih (k:=fun xs=>k (_::xs)) h2 (hf (k:=fun x=>cvOfK.cvOfLK f r fun xs=>k (x::xs)) h1 h)
 intro d
 induction d with
 |zero=>
  intro v x k hr h;cases v<;>first |(unfold cvOfK at h;exact h.elim) |skip
  cases hr;exact h
 |succ d ih=>
  intro v x k hr h;cases v<;>first |(unfold cvOfK at h;exact h.elim) |skip
  ·cases hr;exact h
  ·cases hr with
   |agg hr=>exact hl _ ih (k:=fun xs=>k (.agg xs)) hr (by unfold cvOfK at h;exact h)
  ·cases hr with
   |ifc hr=>exact ih (k:=fun x=>k (.ifc _ x)) hr (by unfold cvOfK at h;exact h)
theorem ztH{f:FuncId}{args:List SV}{xs:List CV}(hg:GlbOk c.glb R)(hM:MSat G R e O m)(hT:TSat R e T t)(ha:RepL R e args xs)(h:zvx P X c f args T O K):∃y m',Ev P X (.call f xs m) (.ret y m')/\Gone G R e t K y m':=by
 unfold zvx at h;split at h
 ·rw[zaf (zhw O zah)]at h;split at h
  ·rename_i himm;obtain⟨post,hd,hk⟩:=h;have hmk:=ztw (R:=R) (e:=e) (O:=O) hM.sk;obtain⟨y,m',R',e',v,O',q1,q2,q3,q4,q5,q6⟩:=hd.run ⟨m,[],zgB R e O m⟩ (zgB R e O m) noE m xs (hg.mono lentR_le) (MSat.empty hmk) ((zlc hM ha).imm himm);obtain⟨h1,h2⟩:=hk v O' q6;have hM':=hM.still q5.fr (q5.sk.sub (lentR_le.trans q2));exact⟨y,m',q1,zaB hM' hT (zrz zah q4 h1) h2⟩
  ·exact h.elim
 ·obtain⟨R1,e1,args1,T1,O1,p1,p2,p3,p4,p5,h⟩:=zcf 9 ha hT hM h;obtain⟨y,m',q1,q2⟩:=zh1 (hg.mono p1) p5 p4 p3 h;obtain⟨R',e',v,T',O',g1,g2,g3,g4,g5,g6⟩:=q2.ex;exact⟨y,m',q1,⟨R',e',v,T',O',p1.trans g1,fun o u ho=>g2 o u (p2 o u ho),g3,g4,g5,g6⟩⟩
end
end Go.Cx
namespace Go.Cx
open Go
noncomputable def zuy(P:Program)(X:Ext)(c:DCfg)(f:SV)(args:List SV)(T:List SV)(O:List SObj)(K:DK):Prop:=match f with
 |.fn g a b=>zvx P X c g (a++args++b) T O K
 |_=>False
noncomputable def zoq(P:Program)(b:Builtin)(tys:List TypeId)(args:List SV)(T:List SV)(O:List SObj)(K:DK):Prop:=match b with
 |.len=>match args with
  |[x]=>match tys with
   |[ty]=>zxb P ty O x fun v=>K v T O
   |_=>False
  |_=>False
 |.append=>match args with
  |[x,y]=>match tys with
   |[t1,t2]=>match Nat.beq t1 t2 with
    |true=>zmN P t1 x y T O K
    |false=>match y with
     |.cv s=>match s with
      |.str s=>zkJ P t1 t2 x s T O K
      |_=>False
     |_=>False
   |_=>False
  |_=>False
 |.max=>zfI true args fun v=>K v T O
 |.min=>zfI false args fun v=>K v T O
 |.unsafeSliceData=>match args with
  |[x]=>zd7 O x fun v=>K v T O
  |_=>False
 |.unsafeString=>match args with
  |[x,n]=>match tys with
   |[pt,_]=>zf3 P pt x n T O K
   |_=>False
  |_=>False
 |_=>False
noncomputable def dop(P:Program)(X:Ext)(c:DCfg)(op:Op)(T:List SV)(O:List SObj)(K:DK):Prop:=
 match op with
 |.move x=>zaU c T x fun v=>K v T O
 |.assign x=>zaU c T x fun v=>K v T O
 |.pick b x y=>zaU c T b fun b=>match b with
  |.cv (.bool b)=>zhz b (zaU c T x fun v=>K v T O) (zaU c T y fun v=>K v T O)
  |_=>False
 |.alloc e=>match zhZ P e with
  |some z=>knK (zrG z) fun v=>zvX e v T O K
  |none=>False
 |.box e x=>zaU c T x fun v=>zvX e v T O K
 |.build ty ps=>zrc c T ps.toList fun ps=>zpa P ty ps fun v=>K v T O
 |.buildSlice ty n ps=>zrc c T ps.toList fun ps=>zcA P c.words ty n ps T O K
 |.load ty a=>zaU c T a fun p=>zr2 P ty O p fun v=>K v T O
 |.store ty a x=>zaU c T a fun p=>zaU c T x fun v=>zll P ty T O p v fun T O=>K (.tup []) T O
 |.nilCheck x=>zaU c T x fun v=>zw0 v fun v=>K v T O
 |.binOp op ty x y _=>zaU c T x fun a=>zaU c T y fun b=>zw1 P c (zis x||zis y) op ty a b fun v=>K v T O
 |.unOp op _ x=>zaU c T x fun v=>dUn c op v fun v=>K v T O
 |.convert s d x=>zaU c T x fun v=>zrA P c s d v T O K
 |.makeInterface ty x=>zaU c T x fun v=>zos P ty v fun v=>K v T O
 |.typeAssert x _ a ok=>zaU c T x fun v=>zkm P v a ok fun v=>K v T O
 |.makeFunc fn a b=>match fn with
  |.func f=>zej c T a.toList fun a=>zej c T b.toList fun b=>K (.fn f a b) T O
  |_=>False
 |.makeSlice ty l cc=>zaU c T l fun l=>zaU c T cc fun cc=>zc9 P ty l cc T O K
 |.slice ty x lo hi mx=>zaU c T x fun x=>zmB c T lo fun lo=>zmB c T hi fun hi=>zmB c T mx fun mx=>zrF P ty x lo hi mx T O K
 |.fieldAddr ty x f=>zaU c T x fun x=>zd9 P ty x f fun v=>K v T O
 |.field ty x f=>zaU c T x fun v=>zod P ty v f fun v=>K v T O
 |.indexAddr ty x i=>zaU c T x fun x=>zaU c T i fun i=>zd1 P ty O x i fun v=>K v T O
 |.index ty x i=>zaU c T x fun x=>zaU c T i fun i=>zoa P ty x i fun v=>K v T O
 |.extract x i=>zaU c T x fun v=>zgX i v fun v=>K v T O
 |.makeMap ty r=>zfs P ty r T O K
 |.lookup ty x k ok=>zaU c T x fun x=>zaU c T k fun k=>zjA P ty O x k ok fun v=>K v T O
 |.mapUpdate ty x k v=>zaU c T x fun x=>zaU c T k fun k=>zaU c T v fun v=>zdX P ty x k v T O K
 |.insert ty x k v=>zaU c T x fun x=>zaU c T k fun k=>zaU c T v fun v=>zdX P ty x k v T O K
 |.mapEntry ty x k=>zaU c T x fun x=>zaU c T k fun k=>zhB P ty x k T O K
 |.entryStore _ x s v=>zaU c T x fun x=>zaU c T s fun s=>zaU c T v fun v=>zeR x s v T O K
 |.call cl=>zej c T cl.args.toList fun args=>match cl.callee with
  |.value f=>zaU c T f fun f=>zuy P X c f args T O K
  |.builtin b=>zoq P b cl.argTypes.toList args T O K
  |_=>False
 |_=>False
section
variable{P:Program}{X:Ext}{c:DCfg}{G:Ctx}{R:RO}{e:DEnv}{m:Mem}{t:Tmps}{K:DK}{T:List SV}{O:List SObj}{op:Op}
theorem RepL.app{a b:List SV}{x y:List CV}(h:RepL R e a x)(k:RepL R e b y):RepL R e (a++b) (x++y):=RepL.append h k
theorem zrE(hg:GlbOk c.glb R)(hM:MSat G R e O m)(hT:TSat R e T t)(h:dop P X c op T O K):zrO P X G R e op m t K:=by
 have memOr:∀{z:CV} {m':Mem} {out:COut},cop P op m t=out->(out=.mem z m'\/(out=.val z/\m'=m))->Gone G R e t K z m'->zrO P X G R e op m t K:=by
  rintro z m' out h1 (h2 |⟨h2,rfl⟩) h3
  ·exact za1 (h1.trans h2) h3
  ·exact zjq (h1.trans h2) h3
 cases op<;>simp only[dop]at h<;>(try (exact h.elim))
 case move x=>
  obtain⟨v,y,hv,hr,hk⟩:=zab hg hT h;exact zau (za2 (f:=ziC) rfl hv rfl) hr hT hM hk
 case assign x=>
  obtain⟨v,y,hv,hr,hk⟩:=zab hg hT h;exact zau (za2 (f:=ziC) rfl hv rfl) hr hT hM hk
 case pick b x y=>
  obtain⟨v,z,hv,hr,hk⟩:=zab hg hT h;split at hk
  ·rename_i bb;cases hr;cases bb with
   |true=>
    obtain⟨u,w,hu,hru,hk⟩:=zab hg hT hk;refine zau ?_ hru hT hM hk;show zcE b x y m t=_;unfold zcE;simp only[hv];exact zeJ hu
   |false=>
    obtain⟨u,w,hu,hru,hk⟩:=zab hg hT hk;refine zau ?_ hru hT hM hk;show zcE b x y m t=_;unfold zcE;simp only[hv];exact zeJ hu
  ·exact hk.elim
 case alloc ty=>
  split at h
  ·rename_i z hz;obtain⟨w,m',h1,h2⟩:=zqO hM hT (zdB z) (zcN h).2;refine za1 ?_ h2;show zbO P m.nxt ty m t=_;unfold zbO;simp only[hz];exact h1
  ·exact h.elim
 case box ty x=>
  obtain⟨v,y,hv,hr,hk⟩:=zab hg hT h;obtain⟨w,m',h1,h2⟩:=zqO hM hT hr hk;exact za1 (za2 (f:=fun m' v=>zim m.nxt m' ty v) rfl hv h1) h2
 case build ty ps=>
  obtain⟨vs,ys,hv,hr,hk⟩:=zfE hg hT h;obtain⟨u,z,h1,h2,h3⟩:=zlJ hr hk;refine zau ?_ h2 hT hM h3;show zcG P ty ps m t=_;unfold zcG;simp only[hv];exact h1
 case buildSlice ty n ps=>
  obtain⟨vs,ys,hv,hr,hk⟩:=zfE hg hT h;obtain⟨z,m',h1,h2⟩:=ziv hM hT hr hk;refine za1 ?_ h2;show zal P m.nxt ty n ps m t=_;unfold zal;simp only[hv];exact h1
 case load ty a=>
  obtain⟨v,y,hv,hr,hk⟩:=zab hg hT h;obtain⟨u,z,h1,h2,h3⟩:=zkh hM hr hk;exact zau (za2 (f:=fun m' v=>zdC P m' ty v) rfl hv h1) h2 hT hM h3
 case store ty a x=>
  obtain⟨p,y,hp,hrp,hk⟩:=zab hg hT h;obtain⟨v,z,hv,hrv,hk⟩:=zab hg hT hk;obtain⟨m',h1,h2⟩:=zsi hM hT hrp hrv hk;exact za1 (zce (f:=fun m' a x=>zaL P m' ty a x) rfl hp hv h1) h2
 case nilCheck x=>
  obtain⟨v,y,hv,hr,hk⟩:=zab hg hT h;obtain⟨u,h1,h2,h3⟩:=zqS (m:=m) hr hk;exact zau (za2 (f:=zvV) rfl hv h1) h2 hT hM h3
 case binOp o ty x y yt=>
  obtain⟨a,xa,ha,hra,hk⟩:=zab hg hT h;obtain⟨b,xb,hb,hrb,hk⟩:=zab hg hT hk;obtain⟨u,z,h1,h2,h3⟩:=zsc hra hrb hk;exact zau (zce (f:=fun _=>zpH P (zis x||zis y) o ty) rfl ha hb h1) h2 hT hM h3
 case unOp o ty x=>
  obtain⟨a,xa,ha,hra,hk⟩:=zab hg hT h;obtain⟨u,z,h1,h2,h3⟩:=zux hra hk;exact zau (za2 (f:=fun _=>cUn o) rfl ha h1) h2 hT hM h3
 case convert s d x=>
  obtain⟨a,xa,ha,hra,hk⟩:=zab hg hT h;obtain⟨z,m',h1,h2⟩:=ztO hM hT hra hk;exact memOr (za2 (f:=fun m' v=>za3 P m.nxt m' s d v) rfl ha rfl) h1 h2
 case makeInterface ty x=>
  obtain⟨a,xa,ha,hra,hk⟩:=zab hg hT h;obtain⟨u,z,h1,h2,h3⟩:=zlk (m:=m) hra hk;exact zau (za2 (f:=zhh P ty) rfl ha h1) h2 hT hM h3
 case typeAssert x xt a ok=>
  obtain⟨v,y,hv,hr,hk⟩:=zab hg hT h;obtain⟨u,z,h1,h2,h3⟩:=zjr hr hk;exact zau (za2 (f:=fun _ v=>zaE P v a ok) rfl hv h1) h2 hT hM h3
 case makeFunc fn a b=>
  split at h
  ·rename_i f;obtain⟨x,xs,hx,hrx,hk⟩:=zbz hg hT h;obtain⟨y,ys,hy,hry,hk⟩:=zbz hg hT hk;refine zau ?_ (.fn hrx hry) hT hM hk;show zdV (.func f) a b m t=_;unfold zdV;simp only[hx,hy]
  ·exact h.elim
 case makeSlice ty l cc=>
  obtain⟨a,xa,ha,hra,hk⟩:=zab hg hT h;obtain⟨b,xb,hb,hrb,hk⟩:=zab hg hT hk;obtain⟨z,m',h1,h2⟩:=zj2 hM hT hra hrb hk;exact za1 (zce (f:=fun m' l c=>zan P m.nxt m' ty l c) rfl ha hb h1) h2
 case slice ty x lo hi mx=>
  obtain⟨a,xa,ha,hra,hk⟩:=zab hg hT h;obtain⟨l,xl,hl,hrl,hk⟩:=zfA hg hT hk;obtain⟨u,xu,hu,hru,hk⟩:=zfA hg hT hk;obtain⟨w,xw,hw,hrw,hk⟩:=zfA hg hT hk;obtain⟨z,h1,h2⟩:=zrb hM hT hra hrl hru hrw hk;refine zjq ?_ h2;show za7 P ty x lo hi mx m t=_;unfold za7;simp only[ha,hl,hu,hw];exact h1
 case fieldAddr ty x f=>
  obtain⟨a,xa,ha,hra,hk⟩:=zab hg hT h;obtain⟨u,z,h1,h2,h3⟩:=zfc hra hk;exact zau (za2 (f:=fun _ v=>za5 P ty v f) rfl ha h1) h2 hT hM h3
 case field ty x f=>
  obtain⟨a,xa,ha,hra,hk⟩:=zab hg hT h;obtain⟨u,z,h1,h2,h3⟩:=zkV hra hk;exact zau (za2 (f:=fun _ v=>zfx P ty v f) rfl ha h1) h2 hT hM h3
 case indexAddr ty x i=>
  obtain⟨a,xa,ha,hra,hk⟩:=zab hg hT h;obtain⟨b,xb,hb,hrb,hk⟩:=zab hg hT hk;obtain⟨u,z,h1,h2,h3⟩:=zfu hM hra hrb hk;exact zau (zce (f:=fun m' x i=>zai P m' ty x i) rfl ha hb h1) h2 hT hM h3
 case index ty x i=>
  obtain⟨a,xa,ha,hra,hk⟩:=zab hg hT h;obtain⟨b,xb,hb,hrb,hk⟩:=zab hg hT hk;obtain⟨u,z,h1,h2,h3⟩:=zmd hra hrb hk;exact zau (zce (f:=fun _ x i=>zdK P ty x i) rfl ha hb h1) h2 hT hM h3
 case extract x i=>
  obtain⟨a,xa,ha,hra,hk⟩:=zab hg hT h;obtain⟨u,z,h1,h2,h3⟩:=zhX (m:=m) hra hk;exact zau (za2 (f:=zea i) rfl ha h1) h2 hT hM h3
 case makeMap ty r=>
  obtain⟨z,m',h1,h2⟩:=zmF hM hT h;exact za1 h1 h2
 case lookup ty x k ok=>
  obtain⟨a,xa,ha,hra,hk⟩:=zab hg hT h;obtain⟨b,xb,hb,hrb,hk⟩:=zab hg hT hk;obtain⟨u,z,h1,h2,h3⟩:=ziV hM hra hrb hk;exact zau (zce (f:=fun m' x k=>zbC P m' ty x k ok) rfl ha hb h1) h2 hT hM h3
 case mapUpdate ty x k v=>
  obtain⟨a,xa,ha,hra,hk⟩:=zab hg hT h;obtain⟨b,xb,hb,hrb,hk⟩:=zab hg hT hk;obtain⟨d,xd,hd,hrd,hk⟩:=zab hg hT hk;obtain⟨m',h1,h2⟩:=zfC hM hT hra hrb hrd hk;exact za1 (znD (f:=fun m' x k v=>zaM P m' ty x k v) rfl ha hb hd h1) h2
 case insert ty x k v=>
  obtain⟨a,xa,ha,hra,hk⟩:=zab hg hT h;obtain⟨b,xb,hb,hrb,hk⟩:=zab hg hT hk;obtain⟨d,xd,hd,hrd,hk⟩:=zab hg hT hk;obtain⟨m',h1,h2⟩:=zfC hM hT hra hrb hrd hk;exact za1 (znD (f:=fun m' x k v=>zaM P m' ty x k v) rfl ha hb hd h1) h2
 case mapEntry ty x k=>
  obtain⟨a,xa,ha,hra,hk⟩:=zab hg hT h;obtain⟨b,xb,hb,hrb,hk⟩:=zab hg hT hk;obtain⟨z,m',h1,h2⟩:=zla hM hT hra hrb hk;exact za1 (zce (f:=fun m' x k=>zb7 P m' ty x k) rfl ha hb h1) h2
 case entryStore ty x s v=>
  obtain⟨a,xa,ha,hra,hk⟩:=zab hg hT h;obtain⟨b,xb,hb,hrb,hk⟩:=zab hg hT hk;obtain⟨d,xd,hd,hrd,hk⟩:=zab hg hT hk;obtain⟨m',h1,h2⟩:=zio hM hT hra hrb hrd hk;exact za1 (znD (f:=fun m' x s v=>zbc m' x s v) rfl ha hb hd h1) h2
 case call cl=>
  obtain⟨args,xs,hargs,hrargs,hk⟩:=zbz hg hT h;have hcop:cop P (.call cl) m t=znd P m.nxt cl.argTypes.toList cl.callee m t xs:=by
   show zbn P m.nxt cl m t=_;unfold zbn;simp only[hargs]
  split at hk
  ·rename_i f hf;obtain⟨u,y,hu,hru,hk⟩:=zab hg hT hk;rw[hf]at hcop;have hc2:cop P (.call cl) m t=zpz y xs:=by rw[hcop];show zeh f m t xs=_;unfold zeh;simp only[hu]
   unfold zuy at hk;split at hk
   ·cases hru with
    |fn ha hb=>
     obtain⟨z,m',h1,h2⟩:=ztH hg hM hT (RepL.app (RepL.app ha hrargs) hb) hk;exact⟨z,m',.call hc2 h1,h2⟩
   ·exact hk.elim
  ·rename_i b hf;rw[hf]at hcop;have hb:cop P (.call cl) m t=zcP P m.nxt cl.argTypes.toList b m xs:=hcop;unfold zoq at hk;split at hk
   ·split at hk
    ·rename_i x;split at hk
     ·rename_i ty hty;cases hrargs with
      |cons hx hnil=>cases hnil with
       |nil=>
        obtain⟨u,z,h1,h2,h3⟩:=zri hM hx hk;refine zau (hb.trans ?_) h2 hT hM h3;rw[hty];exact h1
     ·exact hk.elim
    ·exact hk.elim
   ·split at hk
    ·split at hk
     ·rename_i t1 t2 hty;split at hk
      ·rename_i hq;obtain rfl:=yb0 hq;cases hrargs with
       |cons hx hs=>cases hs with
        |cons hy hs=>cases hs with
         |nil=>
          obtain⟨z,m',h1,h2⟩:=zpm hM hT hx hy hk;refine memOr (hb.trans ?_) h1 h2;rw[hty];rfl
      ·cases hrargs with
       |cons hx hs=>cases hs with
        |cons hy hs=>cases hs with
         |nil=>
          split at hk
          ·split at hk
           ·cases hy;obtain⟨z,m',h1,h2⟩:=zmR hM hT hx hk;refine memOr (hb.trans ?_) h1 h2;rw[hty];rfl
           ·exact hk.elim
          ·exact hk.elim
     ·exact hk.elim
    ·exact hk.elim
   ·obtain⟨u,z,h1,h2,h3⟩:=zdZ hrargs hk;exact zau (hb.trans h1) h2 hT hM h3
   ·obtain⟨u,z,h1,h2,h3⟩:=zdZ hrargs hk;exact zau (hb.trans h1) h2 hT hM h3
   ·split at hk
    ·cases hrargs with
     |cons hx hnil=>cases hnil with
      |nil=>
       obtain⟨u,z,h1,h2,h3⟩:=zeZ hM hx hk;exact zau (hb.trans h1) h2 hT hM h3
    ·exact hk.elim
   ·split at hk
    ·split at hk
     ·rename_i pt it hty;cases hrargs with
      |cons hx hs=>cases hs with
       |cons hy hs=>cases hs with
        |nil=>
         obtain⟨z,m',h1,h2⟩:=zjS hM hT hx hy hk;refine za1 (hb.trans ?_) h2;rw[hty];exact h1
     ·exact hk.elim
    ·exact hk.elim
   ·exact hk.elim
  ·exact hk.elim
end
end Go.Cx
namespace Go.Cx
open Go
noncomputable def zqi(P:Program)(ty:TypeId)(x:SV)(lo hi:Option SV)(K:SV->Prop):Prop:=
 match P.underlying ty with
 |some .string=>match x with
  |.cv (.str s)=>match zir lo 0,zir hi s.length with
   |some a,some b=>(0<=a/\a<=b/\b<=s.length)/\K (.cv (.str (zwO s a b)))
   |_,_=>False
  |_=>False
 |some (.slice elem)=>match P.info? elem with
  |some inf=>match Nat.blt 0 inf.size with
   |true=>match x with
    |.isl sz n el=>match Nat.beq sz inf.size with
     |true=>match zir lo 0,zir hi n with
      |some a,some b=>(0<=a/\a<=b/\b<=n)/\K (.islx sz (b.toNat - a.toNat) (zlg a.toNat el))
      |_,_=>False
     |false=>False
    |.islx sz n el=>match Nat.beq sz inf.size with
     |true=>match zir lo 0,zir hi n with
      |some a,some b=>((0<=a/\a<=b/\b<=n)/\0<n)/\K (.islx sz (b.toNat - a.toNat) (zlg a.toNat el))
      |_,_=>False
     |false=>False
    |_=>False
   |false=>False
  |none=>False
 |_=>False
noncomputable def zuu(P:Program)(c:DCfg)(src dst:TypeId)(x:SV)(K:SV->Prop):Prop:=
 match P.underlying src with
 |none=>False
 |some _=>match P.underlying dst with
  |some (.int k)=>match x with
   |.cv (.int _ n)=>match c.wrap with
    |true=>K (.cv (.int k (k.wrap n)))
    |false=>inK k n/\K (.cv (.int k n))
   |_=>False
  |_=>False
noncomputable def zl1(P:Program)(b:Builtin)(tys:List TypeId)(args:List SV)(O:List SObj)(K:SV->Prop):Prop:=match b with
 |.len=>match args with
  |[x]=>match tys with
   |[ty]=>zxb P ty O x K
   |_=>False
  |_=>False
 |.max=>zfI true args K
 |.min=>zfI false args K
 |.unsafeSliceData=>match args with
  |[x]=>zd7 O x K
  |_=>False
 |_=>False
noncomputable def ztt(P:Program)(c:DCfg)(op:Op)(T:List SV)(O:List SObj)(K:SV->Prop):Prop:=
 match op with
 |.move x=>zaU c T x K
 |.assign x=>zaU c T x K
 |.pick b x y=>zaU c T b fun b=>match b with
  |.cv (.bool b)=>zhz b (zaU c T x K) (zaU c T y K)
  |_=>False
 |.build ty ps=>zrc c T ps.toList fun ps=>zpa P ty ps K
 |.load ty a=>zaU c T a fun p=>zr2 P ty O p K
 |.nilCheck x=>zaU c T x fun v=>zw0 v K
 |.binOp op ty x y _=>zaU c T x fun a=>zaU c T y fun b=>zw1 P c (zis x||zis y) op ty a b K
 |.unOp op _ x=>zaU c T x fun v=>dUn c op v K
 |.convert s d x=>zaU c T x fun v=>zuu P c s d v K
 |.makeInterface ty x=>zaU c T x fun v=>zos P ty v K
 |.typeAssert x _ a ok=>zaU c T x fun v=>zkm P v a ok K
 |.makeFunc fn a b=>match fn with
  |.func f=>zej c T a.toList fun a=>zej c T b.toList fun b=>K (.fn f a b)
  |_=>False
 |.slice ty x lo hi mx=>match mx with
  |none=>zaU c T x fun x=>zmB c T lo fun lo=>zmB c T hi fun hi=>zqi P ty x lo hi K
  |some _=>False
 |.fieldAddr ty x f=>zaU c T x fun x=>zd9 P ty x f K
 |.field ty x f=>zaU c T x fun v=>zod P ty v f K
 |.indexAddr ty x i=>zaU c T x fun x=>zaU c T i fun i=>zd1 P ty O x i K
 |.index ty x i=>zaU c T x fun x=>zaU c T i fun i=>zoa P ty x i K
 |.extract x i=>zaU c T x fun v=>zgX i v K
 |.lookup ty x k ok=>zaU c T x fun x=>zaU c T k fun k=>zjA P ty O x k ok K
 |.call cl=>zej c T cl.args.toList fun args=>match cl.callee with
  |.builtin b=>zl1 P b cl.argTypes.toList args O K
  |_=>False
 |_=>False
section
variable{P:Program}{X:Ext}{c:DCfg}{G:Ctx}{R:RO}{e:DEnv}{m:Mem}{t:Tmps}{T:List SV}{O:List SObj}{op:Op}{K:SV->Prop}
theorem zhx(hg:GlbOk c.glb R)(hM:MSat G R e O m)(hT:TSat R e T t)(h:ztt P c op T O K):zb8 P op=false/\∃v x,cop P op m t=.val x/\Rep R e v x/\K v:=by
 cases op<;>simp only[ztt]at h<;>(try (exact h.elim))
 case move x=>
  obtain⟨v,y,hv,hr,hk⟩:=zab hg hT h;exact⟨rfl,v,y,za2 (f:=ziC) rfl hv rfl,hr,hk⟩
 case assign x=>
  obtain⟨v,y,hv,hr,hk⟩:=zab hg hT h;exact⟨rfl,v,y,za2 (f:=ziC) rfl hv rfl,hr,hk⟩
 case pick b x y=>
  obtain⟨v,z,hv,hr,hk⟩:=zab hg hT h;split at hk
  ·rename_i bb;cases hr;cases bb with
   |true=>
    obtain⟨u,w,hu,hru,hk⟩:=zab hg hT hk;refine⟨rfl,u,w,?_,hru,hk⟩;show zcE b x y m t=_;unfold zcE;simp only[hv];exact zeJ hu
   |false=>
    obtain⟨u,w,hu,hru,hk⟩:=zab hg hT hk;refine⟨rfl,u,w,?_,hru,hk⟩;show zcE b x y m t=_;unfold zcE;simp only[hv];exact zeJ hu
  ·exact hk.elim
 case build ty ps=>
  obtain⟨vs,ys,hv,hr,hk⟩:=zfE hg hT h;obtain⟨u,z,h1,h2,h3⟩:=zlJ hr hk;refine⟨rfl,u,z,?_,h2,h3⟩;show zcG P ty ps m t=_;unfold zcG;simp only[hv];exact h1
 case load ty a=>
  obtain⟨v,y,hv,hr,hk⟩:=zab hg hT h;obtain⟨u,z,h1,h2,h3⟩:=zkh hM hr hk;exact⟨rfl,u,z,za2 (f:=fun m' v=>zdC P m' ty v) rfl hv h1,h2,h3⟩
 case nilCheck x=>
  obtain⟨v,y,hv,hr,hk⟩:=zab hg hT h;obtain⟨u,h1,h2,h3⟩:=zqS (m:=m) hr hk;exact⟨rfl,u,y,za2 (f:=zvV) rfl hv h1,h2,h3⟩
 case binOp o ty x y yt=>
  obtain⟨a,xa,ha,hra,hk⟩:=zab hg hT h;obtain⟨b,xb,hb,hrb,hk⟩:=zab hg hT hk;obtain⟨u,z,h1,h2,h3⟩:=zsc hra hrb hk;exact⟨rfl,u,z,zce (f:=fun _=>zpH P (zis x||zis y) o ty) rfl ha hb h1,h2,h3⟩
 case unOp o ty x=>
  obtain⟨a,xa,ha,hra,hk⟩:=zab hg hT h;obtain⟨u,z,h1,h2,h3⟩:=zux hra hk;exact⟨rfl,u,z,za2 (f:=fun _=>cUn o) rfl ha h1,h2,h3⟩
 case convert s d x=>
  obtain⟨a,xa,ha,hra,hk⟩:=zab hg hT h;unfold zuu at hk;split at hk
  ·exact hk.elim
  ·rename_i sd hs;split at hk
   ·rename_i k hd;have hnew:zb8 P (.convert s d x)=false:=by
     simp only[zb8,hs,hd]
    split at hk
    ·rename_i k' n;cases hra;have hc:=zn5 (P:=P) (m:=m) (T:=m.nxt) (k':=k') (n:=n) hs hd;rw[zbm]at hc;split at hk
     ·exact⟨hnew,_,_,za2 (f:=fun m' v=>za3 P m.nxt m' s d v) rfl ha hc,.cv rfl,hk⟩
     ·rw[zeC hk.1]at hc;exact⟨hnew,_,_,za2 (f:=fun m' v=>za3 P m.nxt m' s d v) rfl ha hc,.cv rfl,hk.2⟩
    ·exact hk.elim
   ·exact hk.elim
 case makeInterface ty x=>
  obtain⟨a,xa,ha,hra,hk⟩:=zab hg hT h;obtain⟨u,z,h1,h2,h3⟩:=zlk (m:=m) hra hk;exact⟨rfl,u,z,za2 (f:=zhh P ty) rfl ha h1,h2,h3⟩
 case typeAssert x xt a ok=>
  obtain⟨v,y,hv,hr,hk⟩:=zab hg hT h;obtain⟨u,z,h1,h2,h3⟩:=zjr hr hk;exact⟨rfl,u,z,za2 (f:=fun _ v=>zaE P v a ok) rfl hv h1,h2,h3⟩
 case makeFunc fn a b=>
  split at h
  ·rename_i f;obtain⟨x,xs,hx,hrx,hk⟩:=zbz hg hT h;obtain⟨y,ys,hy,hry,hk⟩:=zbz hg hT hk;refine⟨rfl,_,_,?_,.fn hrx hry,hk⟩;show zdV (.func f) a b m t=_;unfold zdV;simp only[hx,hy]
  ·exact h.elim
 case slice ty x lo hi mx=>
  split at h
  ·obtain⟨a,xa,ha,hra,hk⟩:=zab hg hT h;obtain⟨l,xl,hl,hrl,hk⟩:=zfA hg hT hk;obtain⟨u,xu,hu,hru,hk⟩:=zfA hg hT hk;unfold zqi at hk;split at hk
   ·rename_i hty;split at hk
    ·rename_i s;cases hra;split at hk
     ·rename_i a' b' ha' hb';obtain⟨⟨h0,h1,h2⟩,hk⟩:=hk;have e1:=zbX (d:=0) hrl ha' h0;have e2:=zbX hru hb' (by omega);refine⟨rfl,_,.str (zwO _ a' b'),?_,.cv rfl,hk⟩;show za7 P ty x lo hi none m t=_;have hmx:zef t none=some none:=rfl;unfold za7;simp only[ha,hl,hu,hmx];unfold zba;simp only[hty,zs2,e1,e2];rw[yb1 (by omega),yb1 (by omega)];rfl
     ·exact hk.elim
    ·exact hk.elim
   ·rename_i elem hty;split at hk
    ·rename_i inf hi0;split at hk
     ·rename_i hp;split at hk
      ·rename_i sz n el;split at hk
       ·rename_i hq;rw[zdG]at hq;simp at hq;subst hq;split at hk
        ·rename_i a' b' ha' hb';obtain⟨⟨h0,h1,h2⟩,hk⟩:=hk;have e1:=zbX (d:=0) hrl ha' h0;have e2:=zbX hru hb' (by omega);obtain⟨y,h3,h4⟩:=zfD hM hty hi0 (ya9 hp) e1 e2 (by omega) (by omega) hra;refine⟨rfl,_,y,?_,h4,hk⟩;show za7 P ty x lo hi none m t=_;have hmx:zef t none=some none:=rfl;unfold za7;simp only[ha,hl,hu,hmx];exact h3
        ·exact hk.elim
       ·exact hk.elim
      ·rename_i sz n el;split at hk
       ·rename_i hq;rw[zdG]at hq;simp at hq;subst hq;split at hk
        ·rename_i a' b' ha' hb';obtain⟨⟨⟨h0,h1,h2⟩,hn⟩,hk⟩:=hk;have e1:=zbX (d:=0) hrl ha' h0;have e2:=zbX hru hb' (by omega);cases hra with
         |islE=>omega
         |islx hra=>
          obtain⟨y,h3,h4⟩:=zfD hM hty hi0 (ya9 hp) e1 e2 (by omega) (by omega) hra;refine⟨rfl,_,y,?_,h4,hk⟩;show za7 P ty x lo hi none m t=_;have hmx:zef t none=some none:=rfl;unfold za7;simp only[ha,hl,hu,hmx];exact h3
        ·exact hk.elim
       ·exact hk.elim
      ·exact hk.elim
     ·exact hk.elim
    ·exact hk.elim
   ·exact hk.elim
  ·exact h.elim
 case fieldAddr ty x f=>
  obtain⟨a,xa,ha,hra,hk⟩:=zab hg hT h;obtain⟨u,z,h1,h2,h3⟩:=zfc hra hk;exact⟨rfl,u,z,za2 (f:=fun _ v=>za5 P ty v f) rfl ha h1,h2,h3⟩
 case field ty x f=>
  obtain⟨a,xa,ha,hra,hk⟩:=zab hg hT h;obtain⟨u,z,h1,h2,h3⟩:=zkV hra hk;exact⟨rfl,u,z,za2 (f:=fun _ v=>zfx P ty v f) rfl ha h1,h2,h3⟩
 case indexAddr ty x i=>
  obtain⟨a,xa,ha,hra,hk⟩:=zab hg hT h;obtain⟨b,xb,hb,hrb,hk⟩:=zab hg hT hk;obtain⟨u,z,h1,h2,h3⟩:=zfu hM hra hrb hk;exact⟨rfl,u,z,zce (f:=fun m' x i=>zai P m' ty x i) rfl ha hb h1,h2,h3⟩
 case index ty x i=>
  obtain⟨a,xa,ha,hra,hk⟩:=zab hg hT h;obtain⟨b,xb,hb,hrb,hk⟩:=zab hg hT hk;obtain⟨u,z,h1,h2,h3⟩:=zmd hra hrb hk;exact⟨rfl,u,z,zce (f:=fun _ x i=>zdK P ty x i) rfl ha hb h1,h2,h3⟩
 case extract x i=>
  obtain⟨a,xa,ha,hra,hk⟩:=zab hg hT h;obtain⟨u,z,h1,h2,h3⟩:=zhX (m:=m) hra hk;exact⟨rfl,u,z,za2 (f:=zea i) rfl ha h1,h2,h3⟩
 case lookup ty x k ok=>
  obtain⟨a,xa,ha,hra,hk⟩:=zab hg hT h;obtain⟨b,xb,hb,hrb,hk⟩:=zab hg hT hk;obtain⟨u,z,h1,h2,h3⟩:=ziV hM hra hrb hk;exact⟨rfl,u,z,zce (f:=fun m' x k=>zbC P m' ty x k ok) rfl ha hb h1,h2,h3⟩
 case call cl=>
  obtain⟨args,xs,hargs,hrargs,hk⟩:=zbz hg hT h;have hcop:cop P (.call cl) m t=znd P m.nxt cl.argTypes.toList cl.callee m t xs:=by
   show zbn P m.nxt cl m t=_;unfold zbn;simp only[hargs]
  split at hk
  ·rename_i b hf;rw[hf]at hcop;have hb:cop P (.call cl) m t=zcP P m.nxt cl.argTypes.toList b m xs:=hcop;unfold zl1 at hk;split at hk
   ·split at hk
    ·rename_i x;split at hk
     ·rename_i ty hty;cases hrargs with
      |cons hx hnil=>cases hnil with
       |nil=>
        obtain⟨u,z,h1,h2,h3⟩:=zri hM hx hk;refine⟨rfl,u,z,hb.trans ?_,h2,h3⟩;rw[hty];exact h1
     ·exact hk.elim
    ·exact hk.elim
   ·obtain⟨u,z,h1,h2,h3⟩:=zdZ hrargs hk;exact⟨rfl,u,z,hb.trans h1,h2,h3⟩
   ·obtain⟨u,z,h1,h2,h3⟩:=zdZ hrargs hk;exact⟨rfl,u,z,hb.trans h1,h2,h3⟩
   ·split at hk
    ·cases hrargs with
     |cons hx hnil=>cases hnil with
      |nil=>
       obtain⟨u,z,h1,h2,h3⟩:=zeZ hM hx hk;exact⟨rfl,u,z,hb.trans h1,h2,h3⟩
    ·exact hk.elim
   ·exact hk.elim
  ·exact hk.elim
end
end Go.Cx
namespace Go.Cx
open Go
structure FreeT(G:Ctx)(m:Mem)(a:Nat):Prop where
 own:G.m0.nxt<=a
 free:m.get a=none
structure NewF(G:Ctx)(m:Mem)(a:Nat)(o:CO)(m':Mem):Prop where
 own:G.m0.nxt<=a
 free:m.get a=none
 nxt:m.nxt<=m'.nxt
 lt:a<m'.nxt
 get:∀t,m'.get t=if t=a then some o else m.get t
theorem NewF.at{G:Ctx}{m:Mem}{a:Nat}(h:FreeT G m a)(o:CO):NewF G m a o (m.newAt a o):=by
 refine⟨h.own,h.free,?_,?_,fun t=>Mem.get_newAt m a o t⟩
 ·show m.nxt<=Bool.rec (motive:=fun _=>Nat) (Nat.succ a) m.nxt (Nat.blt a m.nxt);cases hb:Nat.blt a m.nxt with
  |true=>exact Nat.le_refl _
  |false=>
   show m.nxt<=Nat.succ a;have:¬a<m.nxt:=fun hh=>by rw[show Nat.blt a m.nxt=true from yb1 hh]at hb;cases hb
   omega
 ·show a<Bool.rec (motive:=fun _=>Nat) (Nat.succ a) m.nxt (Nat.blt a m.nxt);cases hb:Nat.blt a m.nxt with
  |true=>exact ya9 hb
  |false=>exact Nat.lt_succ_self _
section
variable{P:Program}{X:Ext}{c:DCfg}{G:Ctx}{R R':RO}{e:DEnv}{O:List SObj}{m m':Mem}{T:List SV}{t:Tmps}{a:Nat}{o:CO}
theorem NewF.self(h:NewF G m a o m'):m'.get a=some o:=by rw[h.get,if_pos rfl]
theorem NewF.ne(h:NewF G m a o m'){t:Nat}(ht:t≠a):m'.get t=m.get t:=by rw[h.get,if_neg ht]
theorem NewF.wf(h:NewF G m a o m')(hw:Wf m):Wf m':=fun t ht=>by
 have:=h.nxt;have:=h.lt;rw[h.get,if_neg (by omega)];exact hw t (by omega)
theorem NewF.fr(h:NewF G m a o m')(k:Fr G.S0 G.m0 m):Fr G.S0 G.m0 m':=
 ⟨Nat.le_trans k.nxt h.nxt,fun t ht hS=>by have:=h.own;rw[h.get,if_neg (by omega)];exact k.get t ht hS,fun w=>h.wf (k.wf w)⟩
theorem NewF.keep(h:NewF G m a o m')(k:Mk R m):Mk R m':=⟨h.wf k.wf,fun t x hh=>by
 have h1:=k.ro t x hh;rw[h.get,if_neg]
 ·exact h1
 ·rintro rfl;rw[h.free]at h1;cases h1⟩
theorem NewF.ro(h:NewF G m a o m')(k:Mk R m):R a=none:=by
 cases hh:R a with
 |none=>rfl
 |some x=>have:=k.ro a x hh;rw[h.free]at this;cases this
theorem MSat.newF(h:MSat G R e O m){T:Nat}{co:CO}(hn:NewF G m T co m'){x:CV}{so:SObj}(hx:tg x=some T)(hrec:zcl co=false)(hne:so≠.dead)(hor:∀e',e.le e'->OR R e' m' x so):e.le (e.put O.length (some x))/\MSat G R (e.put O.length (some x)) (O++[so]) m':=by
 have hle:e.le (e.put O.length (some x)):=DEnv.le_put (h.free (Nat.le_refl _)) _;have hT:∀{o t:Nat} {y:CV},e o=some y->tg y=some t->t≠T:=fun hy ht hq=>by
  obtain⟨_,hg,_,_⟩:=h.lt hy ht;rw[hq,hn.free]at hg;cases hg
 refine⟨hle,⟨hn.fr h.fr,hn.keep h.sk,h.le,h.rn,fun o y t hy ht=>?_,fun o o' y y' t hy hy' ht ht'=>?_,fun o so' ho=>?_,fun o y hy=>?_⟩⟩
 ·unfold DEnv.put at hy;split at hy
  ·cases hy;rw[hx]at ht;cases ht;exact⟨.inl hn.own,hn.ro h.sk⟩
  ·exact h.own o y t hy ht
 ·unfold DEnv.put at hy hy';split at hy<;>split at hy'
  ·omega
  ·cases hy;rw[hx]at ht;cases ht;exact absurd rfl (hT hy' ht')
  ·cases hy';rw[hx]at ht';cases ht';exact absurd rfl (hT hy ht)
  ·exact h.inj o o' y y' t hy hy' ht ht'
 ·rcases Nat.lt_trichotomy o O.length with hq |hq |hq
  ·rw[yb8 hq]at ho;rcases h.ob o so' ho with h1 |⟨y,h1,h2⟩
   ·exact .inl h1
   ·refine .inr ⟨y,by rw[DEnv.put_ne _ _ (by omega)];exact h1,h2.mono (RO.le.refl R) hle fun t ht=>?_⟩;rw[hn.get,if_neg (hT h1 ht)]
  ·subst hq;simp at ho;subst ho;exact .inr ⟨x,DEnv.put_self ..,hor _ hle⟩
  ·rw[List.getElem?_eq_none (by simp;omega)]at ho;cases ho
 ·unfold DEnv.put at hy;split at hy
  ·rename_i hq;subst hq;exact⟨so,by simp,hne⟩
  ·obtain⟨so',h1,h2⟩:=h.dom o y hy;exact⟨so',by rw[yb8 (List.getElem?_eq_some_iff.1 h1).1];exact h1,h2⟩
theorem zh3:∀(n:Nat) {vs:List SV} {xs:List CV} {T:List SV} {O:List SObj} {R:RO} {e:DEnv} {k:List SV->List SV->List SObj->Prop},RepL R e vs xs->TSat R e T t->MSat G R e O m->zmp n vs T O k ->
  ∃R' e' vs' T' O',R.le R'/\(∀o u,e o=some (PM.c u)->e' o=some (PM.c u))/\RepL R' e' vs' xs/\TSat R' e' T' t/\MSat G R' e' O' m/\k vs' T' O'/\(∀o y,e' o=some y->e o=some y)/\O'.length=O.length
 |0,_,_,_,_,_,_,_,_,_,_,h=>h.elim
 |n+1,vs,xs,T,O,R,e,k,hv,hT,hM,h=>by
  unfold zmp at h;split at h
  ·exact⟨R,e,vs,T,O,RO.le.refl R,fun _ _ h=>h,hv,hT,hM,h,fun _ _ h=>h,rfl⟩
  ·rename_i o _;split at h
   ·rename_i ty sz k' el ho;rw[zft,zaf (zgn o _ zah),zav]at h;have ho':=zay ho (by simp);obtain⟨R',h1,h2,h3,h4⟩:=hM.freeze ho';have hpt:∀i u,e i=some (PM.c u)->e.put o none i=some (PM.c u):=fun i u hi=>by
     refine h3 i _ (fun hq=>?_) hi;subst hq;rcases hM.ob i _ ho' with h5 |⟨x,h5,h6⟩
     ·cases h5
     ·rw[hi]at h5;cases h5;rcases h6 with⟨h7 |⟨_,_,_,_,h7,_⟩,_⟩ |⟨_,_,_,h7,_⟩ |⟨_,_,h7,_⟩<;>cases u<;>cases h7
    obtain⟨R2,e2,vs2,T2,O2,g1,g2,g3,g4,g5,g6,g7,g8⟩:=zh3 n (hv.sb h1 h3 h2 zah) (hT.sb h1 h3 h2) h4 h;refine⟨R2,e2,vs2,T2,O2,h1.trans g1,fun i u hi=>g2 i u (hpt i u hi),g3,g4,g5,g6,fun i y hy=>?_,by rw[g8,List.length_set,yb7]⟩;have:=g7 i y hy;unfold DEnv.put at this;split at this
    ·cases this
    ·exact this
   ·exact h.elim
structure GoneN(G:Ctx)(R:RO)(e:DEnv)(O:List SObj)(t:Tmps)(a:Nat)(emp:Bool)(K:DK)(x:CV)(m:Mem):Prop where
 ex:∃R' e' v T' O',R.le R'/\(∀o u,e o=some (PM.c u)->e' o=some (PM.c u))/\Rep R' e' v x/\TSat R' e' T' t/\MSat G R' e' O' m/\K v T' O'/\(∀o y,o<O.length->e' o=some y->e o=some y)/\O'.length=O.length+1/\(emp=true\/∃y,e' O.length=some y/\tg y=some a)
theorem zfb{K:DK}{co:CO}{x y:CV}{v:SV}{so:SObj}{emp:Bool}(hM:MSat G R e O m)(hT:TSat R e T t)(hn:NewF G m a co m')(hx:tg x=some a)(hrec:zcl co=false)(hne:so≠.dead)
  (hor:∀e',e.le e'->OR R e' m' x so) (hv:∀e',e' O.length=some x->Rep R e' v y) (hk:K v T (O++[so])):GoneN G R e O t a emp K y m':=by
 obtain⟨h1,h2⟩:=hM.newF hn hx hrec hne hor;refine⟨R,_,v,T,_,RO.le.refl R,fun o u h=>h1 _ _ h,hv _ (DEnv.put_self ..),hT.mono (RO.le.refl R) h1,h2,hk,fun o z ho hz=>?_,by simp,.inr ⟨x,DEnv.put_self ..,hx⟩⟩;rw[DEnv.put_ne _ _ (by omega)]at hz;exact hz
theorem zop{K:DK}{ty:TypeId}{v:SV}{x:CV}{emp:Bool}(hM:MSat G R e O m)(hF:FreeT G m a)(hT:TSat R e T t)(hv:Rep R e v x)(h:zvX ty v T O K):∃z m',zim a m ty x=.mem z m'/\GoneN G R e O t a emp K z m':=by
 unfold zvX at h;split at h
 ·rename_i cs hc;split at h
  ·rename_i ha;rw[zbE]at h;obtain⟨ys,h1,h2⟩:=hv.cells hc;have hn:=NewF.at hF (CO.cells ty ys);refine⟨.ptr a 0,_,?_,zfb (so:=.cells ty cs) (x:=.ptr a 0) hM hT hn rfl rfl (by simp) (fun e' he=>⟨_,_,rfl,hn.self,h2.mono (RO.le.refl R) he⟩) (fun e' he=>.ptr he) h⟩;unfold zim;simp only[h1,h2.all ha]
  ·exact h.elim
 ·exact h.elim
theorem zlK{K:DK}{elem:TypeId}{sz n:Nat}{el:Nat->List SV}{ys:List CV}{c:Nat}{emp:Bool}(hM:MSat G R e O m)(hF:FreeT G m a)(hT:TSat R e T t)(hn:n<=c)(hl:c*sz=ys.length)(ha:ys.all one=true)(hel:∀i,i<n->RepL R noE (el i) (seg ys (i*sz) sz))(hemp:c=0->emp=true)(h:K (.lst O.length) T (O++[.list elem sz n el])):GoneN G R e O t a emp K (.slc a 0 n c) (m.newAt a (.cells elem ys)):=by
 have hnw:=NewF.at hF (CO.cells elem ys);rcases Nat.eq_zero_or_pos c with hc |hc
 ·subst hc;obtain rfl:n=0:=by omega
  have hR:=hnw.ro hM.sk;have hle:=RO.le_add (o:=CO.cells elem ys) hR;have hM':MSat G (R.add a (.cells elem ys)) e O (m.newAt a (.cells elem ys)):=by
   refine⟨hnw.fr hM.fr,(hnw.keep hM.sk).add hnw.self,hM.le.trans hle,fun t o hh=>?_,fun o x t hx ht=>?_,hM.inj,fun o so ho=>?_,hM.dom⟩
   ·unfold RO.add at hh;split at hh
    ·rename_i hq;subst hq;exact .inr (.inl hF.own)
    ·exact hM.rn t o hh
   ·obtain⟨h1,h2⟩:=hM.own o x t hx ht;obtain⟨_,hg,_,_⟩:=hM.lt hx ht;exact⟨h1,by rw[RO.add_ne (fun hq=>by rw[hq,hF.free]at hg;cases hg)];exact h2⟩
   ·rcases hM.ob o so ho with h1 |⟨x,h1,h2⟩
    ·exact .inl h1
    ·exact .inr ⟨x,h1,h2.mono hle (DEnv.le.refl _) fun t ht=>by
      obtain⟨_,hg,_,_⟩:=hM.lt h1 ht;rw[hnw.ne (fun hq=>by rw[hq,hF.free]at hg;cases hg)]⟩
  have hTx:=hT.mono hle (DEnv.le.refl e);have hlp:=DEnv.le_put (hM'.free (Nat.le_refl _)) (some (CV.slc a 0 0 0));have hx:zsB (CV.slc a 0 0 0)=true\/∃t off o cs,(CV.slc a 0 0 0)=.slc t off 0 0/\(R.add a (.cells elem ys)) t=some o/\zjK o=some cs/\off<=cs.length/\cs.all one=true:=.inr ⟨a,0,_,ys,rfl,RO.add_self,rfl,Nat.zero_le _,ha⟩;refine⟨R.add a (.cells elem ys),e.put O.length (some (.slc a 0 0 0)),.lst O.length,T,O++[.list elem sz 0 el],hle,fun o u ho=>hlp _ _ ho,.lstE (DEnv.put_self ..),hTx.mono (RO.le.refl _) hlp,?_,h,fun o z ho hz=>?_,by simp,.inl (hemp rfl)⟩
  ·refine⟨hM'.fr,hM'.sk,hM'.le,hM'.rn,fun o y t hy ht=>?_,fun o o' y y' t hy hy' ht ht'=>?_,fun o so ho=>?_,fun o y hy=>?_⟩
   ·unfold DEnv.put at hy;split at hy
    ·cases hy;cases ht
    ·exact hM'.own o y t hy ht
   ·unfold DEnv.put at hy hy';split at hy<;>split at hy'
    ·omega
    ·cases hy;cases ht
    ·cases hy';cases ht'
    ·exact hM'.inj o o' y y' t hy hy' ht ht'
   ·rcases Nat.lt_trichotomy o O.length with hq |hq |hq
    ·rw[yb8 hq]at ho;rcases hM'.ob o so ho with h1 |⟨y,h1,h2⟩
     ·exact .inl h1
     ·exact .inr ⟨y,by rw[DEnv.put_ne _ _ (by omega)];exact h1,h2.mono (RO.le.refl _) hlp fun _ _=>rfl⟩
    ·subst hq;simp at ho;subst ho;exact .inr ⟨_,DEnv.put_self ..,OR.mkE hx⟩
    ·rw[List.getElem?_eq_none (by simp;omega)]at ho;cases ho
   ·unfold DEnv.put at hy;split at hy
    ·rename_i hq;subst hq;exact⟨_,by simp;rfl,by simp⟩
    ·obtain⟨so',h1,h2⟩:=hM'.dom o y hy;exact⟨so',by rw[yb8 (List.getElem?_eq_some_iff.1 h1).1];exact h1,h2⟩
  ·rw[DEnv.put_ne _ _ (by omega)]at hz;exact hz
 ·exact zfb hM hT hnw (zcD hc) rfl (by simp) (fun e' _=>OR.mkS hc hn hnw.self hl ha hel) (fun e' he=>.lstS he) h
theorem zph{R0:RO}{e0:DEnv}{O0:List SObj}{K:DK}{x:CV}{emp:Bool}(hR:R0.le R)(he:∀o u,e0 o=some (PM.c u)->e o=some (PM.c u))(hs:∀o y,e o=some y->e0 o=some y)(hl:O.length=O0.length)(h:GoneN G R e O t a emp K x m'):GoneN G R0 e0 O0 t a emp K x m':=by
 obtain⟨R',e',v,T',O',q1,q2,q3,q4,q5,q6,q7,q8,q9⟩:=h.ex;exact⟨R',e',v,T',O',hR.trans q1,fun o u hh=>q2 o u (he o u hh),q3,q4,q5,q6,fun o y ho hy=>hs o y (q7 o y (by omega) hy),by omega,by rw[<- hl];exact q9⟩
theorem zil{K:DK}{ws:List TypeId}{ty:TypeId}{n:Nat}{ps:List (Nat×SV)}{qs:List (Nat×CV)}(hM:MSat G R e O m)(hF:FreeT G m a)(hT:TSat R e T t)(hp:RepPs R e ps qs)(h:zcA P ws ty n ps T O K):∃z m',za0 P a m ty n qs=.mem z m'/\GoneN G R e O t a (Nat.beq n 0) K z m':=by
 unfold zcA at h;split at h
 ·rename_i elem hu;split at h
  ·rename_i i hi;split at h
   ·rename_i z hz;split at h
    ·rename_i hb;have hb':=hb;simp only[ya2]at hb';rw[zeS zgr]at h;obtain⟨vs,xs,h1,h2,h3⟩:=ze0 (zdx (rep z n)) hp h;obtain⟨R1,e1,vs1,T1,O1,q1,q2,q3,q4,q5,h4,q6,q7⟩:=zh3 9 h2 hT hM h3;split at h4
     ·rename_i ha;simp only[ya2]at ha;obtain⟨el,h4,hel⟩:=zi3 h4;rw[zbE]at h4;have hall:=q3.all ha.1;have himm:=q3.imm ha.2;have hlen:xs.length=n*i.size:=by
       rw[zhD h1,zhp];have:=hb'.2.2;rw[zdG]at this;simp at this;rw[this]
      refine⟨.slc a 0 n n,_,?_,zph q1 q2 q6 q7 (zlK q5 hF q4 (Nat.le_refl n) hlen.symm hall (fun j hj=>?_) (fun hn=>by rw[hn];rfl) h4)⟩
      ·unfold za0;simp only[hu,hi,hz,hb,h1,hall]
      ·rw[hel j n hj (by rw[q3.length,hlen])];exact himm.seg (j*i.size) i.size
     ·exact h4.elim
    ·exact h.elim
   ·exact h.elim
  ·exact h.elim
 ·exact h.elim
theorem ziu{K:DK}{ty:TypeId}{v w:SV}{x y:CV}{emp:Bool}(hM:MSat G R e O m)(hF:FreeT G m a)(hT:TSat R e T t)(hv:Rep R e v x)(hw:Rep R e w y)(h:zc9 P ty v w T O K):∃z m',zan P a m ty x y=.mem z m'/\GoneN G R e O t a emp K z m':=by
 unfold zc9 at h;split at h
 ·rename_i elem hu;split at h
  ·rename_i i hi;split at h
   ·rename_i z hz;split at h
    ·rename_i l c';cases hv;cases hw;split at h
     ·rename_i hb;simp only[ya2]at hb;obtain⟨⟨h0,h1,h2,h3,h4⟩,h5⟩:=h;rw[zeS zgr,zbE]at h5;obtain⟨p,rfl,hp⟩:=za9 h0;obtain⟨b,rfl,hb'⟩:=za9 (show(0:Int)<=c' by omega);rw[hp]at h5;rw[hb']at h4;have hab:p<=b:=by have:(p:Int)<=b:=h1;omega
      have hb3:b<=100000:=by have:(b:Int)<=100000:=h3;omega
      have hb0:0<b:=by have:(0:Int)<b:=h2;omega
      have hzl:z.length=i.size:=by have:=hb.2.1;rw[zdG]at this;simpa using this
      refine⟨.slc a 0 p b,_,?_,zlK (ys:=rep z b) hM hF hT hab (by rw[zhp,hzl]) (zms hb.2.2 b) (fun j hj=>?_) (fun hn=>by omega) h5⟩
      ·unfold zan;simp only[hu,hi,hz,hb.1,hb.2.1,hb.2.2,yb1 hab,yb1 hb3,yb1 h4,Bool.and_self]
      ·have hs:=znm (z:=z) (n:=b) (i:=j) (by omega);rw[hzl]at hs;rw[hs];exact zdx z
     ·exact h.elim
    ·exact h.elim
   ·exact h.elim
  ·exact h.elim
 ·exact h.elim
theorem zlA{K:DK}{ty:TypeId}{r:Option Operand}{emp:Bool}(hM:MSat G R e O m)(hF:FreeT G m a)(hT:TSat R e T t)(h:zfs P ty r T O K):∃y m',zgy a r m t=.mem y m'/\GoneN G R e O t a emp K y m':=by
 unfold zfs at h;split at h
 ·exact h.elim
 ·split at h
  ·split at h
   ·rename_i c hc;rw[zbE]at h;have hn:=NewF.at hF (.map [] 0);exact⟨_,_,rfl,zfb (so:=.map c (fun _=>none) none) hM hT hn (x:=.map a) rfl rfl (by simp) (fun e' _=>⟨a,[],0,rfl,hn.self,MapRep.nil⟩) (fun e' he=>.map he) h⟩
   ·exact h.elim
  ·exact h.elim
theorem zrM{K:DK}{c:DCfg}{s d:TypeId}{v:SV}{x:CV}{emp:Bool}{y:Operand}(hnw:zb8 P (.convert s d y)=true)(hM:MSat G R e O m)(hF:FreeT G m a)(hT:TSat R e T t)(hv:Rep R e v x)(h:zrA P c s d v T O K):∃z m',za3 P a m s d x=.mem z m'/\GoneN G R e O t a emp K z m':=by
 unfold zb8 at hnw;simp only at hnw;split at hnw
 ·rename_i el hs hd;unfold zrA at h;rw[hs,hd]at h;simp only at h;split at h
  ·rename_i he;split at h
   ·rename_i str;cases hv;obtain⟨h1,hk⟩:=h;rw[zbE]at hk;have hn:=NewF.at hF (CO.opn el 1 (str.map fun b=>.int .u8 (.ofNat (b%256))));refine⟨_,_,ziH hs hd he h1,zfb (so:=.list el 1 str.length (zje str)) (x:=.opn a 0 str.length) hM hT hn rfl rfl (by simp) (fun e' _=>OR.mkO hn.self (by simp) (by simp[one]) fun i hi=>?_) (fun e' he=>.lstO he) hk⟩;have:seg (str.map fun b=>CV.int .u8 (.ofNat (b%256))) (i*1) 1=[.int .u8 (.ofNat (str.getD i 0%256))]:=by
     unfold seg;rw[Nat.mul_one,List.drop_eq_getElem_cons (by simpa using hi)];simp[ya8,yb5 hi]
    rw[this];exact .cons (.cv rfl) .nil
   ·exact h.elim
  ·exact h.elim
 ·cases hnw
def zu7:Op->Bool
 |.buildSlice _ n _=>Nat.beq n 0
 |_=>false
theorem zvK{K:DK}{op:Op}(hnw:zb8 P op=true)(hg:GlbOk c.glb R)(hM:MSat G R e O m)(hF:FreeT G m a)(hT:TSat R e T t)(h:dop P X c op T O K):∃x m',za4 P a op m t=.mem x m'/\GoneN G R e O t a (zu7 op) K x m':=by
 cases op<;>(try (simp[zb8]at hnw;done))<;>simp only[dop]at h
 case alloc ty=>
  split at h
  ·rename_i z hz;obtain⟨w,m',h1,h2⟩:=zop hM hF hT (zdB z) (zcN h).2;refine⟨w,m',?_,h2⟩;show zbO P a ty m t=_;unfold zbO;simp only[hz];exact h1
  ·exact h.elim
 case box ty x=>
  obtain⟨v,y,hv,hr,hk⟩:=zab hg hT h;obtain⟨w,m',h1,h2⟩:=zop hM hF hT hr hk;refine⟨w,m',?_,h2⟩;show un1 (fun m v=>zim a m ty v) x m t=_;rw[zeJ hv];exact h1
 case buildSlice ty n ps=>
  obtain⟨vs,ys,hv,hr,hk⟩:=zfE hg hT h;obtain⟨z,m',h1,h2⟩:=zil hM hF hT hr hk;refine⟨z,m',?_,h2⟩;show zal P a ty n ps m t=_;unfold zal;simp only[hv];exact h1
 case convert s d x=>
  obtain⟨v,y,hv,hr,hk⟩:=zab hg hT h;obtain⟨z,m',h1,h2⟩:=zrM hnw hM hF hT hr hk;refine⟨z,m',?_,h2⟩;show un1 (fun m v=>za3 P a m s d v) x m t=_;rw[zeJ hv];exact h1
 case makeMap ty r=>
  obtain⟨z,m',h1,h2⟩:=zlA hM hF hT h;exact⟨z,m',h1,h2⟩
 case makeSlice ty l cc=>
  obtain⟨u,xu,hu,hru,hk⟩:=zab hg hT h;obtain⟨b,xb,hb,hrb,hk⟩:=zab hg hT hk;obtain⟨z,m',h1,h2⟩:=ziu hM hF hT hru hrb hk;refine⟨z,m',?_,h2⟩;show zbL (fun m l c=>zan P a m ty l c) l cc m t=_;rw[zjH hu hb];exact h1
end
end Go.Cx
namespace Go.Cx
open Go
structure Gh where
 n:Nat
 st:Bool
def gh0:Gh:=⟨0,false⟩
def Gh.step(n:Nat)(b:Bool):Gh:=match b with
 |true=>⟨n+1,false⟩
 |false=>⟨n,true⟩
abbrev Inv:=Gh->List Nat->RO->Mem->Prop
abbrev Old:=Nat->Prop
structure Far(b:Old)(W:List Nat)(R:RO)(m:Mem)(R':RO)(m':Mem):Prop where
 nxt:m.nxt<=m'.nxt
 get:∀t,b t\/t∈W->m'.get t=m.get t
 le:R.le R'
 sk:Mk R' m'
 rn:∀t o,R' t=some o->R t=some o\/¬b t
 w:∀t∈W,R' t=none
structure WStep(W:List Nat)(R:RO)(m:Mem)(W':List Nat)(R':RO)(m':Mem):Prop where
 fr:Fr W m m'
 le:R.le R'
 sk:Mk R' m'
 w:∀t∈W',(t∈W\/m.nxt<=t)/\t<m'.nxt/\R' t=none/\m'.get t≠some (.dfr true)
 rn:∀t o,R' t=some o->R t=some o\/t∈W\/m.nxt<=t
def Marks(R:RO)(m:Mem)(R':RO)(m':Mem):Prop:=∀k,m.get k=some (.dfr true)->R k=none->m'.get k=some (.dfr true)/\R' k=none
structure YLaw(P:Program)(X:Ext)(l:Nat)(ys:Nat->Option (List SV))(b:Old)(I:Inv):Prop where
 far:∀{g W R m R' m'},I g W R m->Far b W R m R' m'->I g W R' m'
 yl:∀{n W R m vs xs},I ⟨n,false⟩ W R m->(∀t∈W,t<m.nxt/\R t=none/\m.get t≠some (.dfr true))->Mk R m->ys n=some vs->RepL R noE vs xs ->
  ∃bb m' R' W',Evt P X (fun ih=>zbN ih l xs m=.ret (.bool bb) m')/\I (Gh.step n bb) W' R' m'/\WStep W R m W' R' m'
structure DIter(P:Program)(X:Ext)(gl:List (Nat×List CV))(f:FuncId)(args:Nat->List SV)(ys:Nat->Option (List SV))(post:Gh->SV->Prop):Prop where
 run:∀{l:Nat} {b:Old} {I:Inv} {W:List Nat} {R:RO} {m:Mem} {xs:List CV},YLaw P X l ys b I->(∀t,b t->t<m.nxt)->GlbOk gl R->Mk R m->I gh0 W R m->(∀t∈W,t<m.nxt/\R t=none/\m.get t≠some (.dfr true))->RepL R noE (args l) xs ->
  ∃y m' R' W' g v,Ev P X (.call f xs m) (.ret y m')/\I g W' R' m'/\WStep W R m W' R' m'/\(∀e,Rep R' e v y)/\post g v
theorem DIter.mono{P:Program}{X:Ext}{gl:List (Nat×List CV)}{f:FuncId}{args:Nat->List SV}{ys:Nat->Option (List SV)}{post post':Gh->SV->Prop}(h:DIter P X gl f args ys post)(k:∀g v,post g v->post' g v):DIter P X gl f args ys post':=
 ⟨fun h1 h0 h2 h3 h4 h5 h6=>by
  obtain⟨y,m',R',W',g,v,q1,q2,q3,q4,q5⟩:=h.run h1 h0 h2 h3 h4 h5 h6;exact⟨y,m',R',W',g,v,q1,q2,q3,q4,k g v q5⟩⟩
structure DIterO(P:Program)(X:Ext)(gl:List (Nat×List CV))(f:FuncId)(args:Nat->List SV)(objs:List SObj)(ys:Nat->Option (List SV))(post:Gh->SV->List SObj->Prop):Prop where
 run:∀{l:Nat} {b:Old} {I:Inv} {W:List Nat} {R:RO} {e:DEnv} {m:Mem} {xs:List CV},YLaw P X l ys b I->(∀t,b t->t<m.nxt)->GlbOk gl R->I gh0 W R m->(∀t∈W,t<m.nxt/\R t=none/\m.get t≠some (.dfr true))->(∀t∈zac e (List.range objs.length),¬b t/\t∉W)->MSat ⟨m,zac e (List.range objs.length),R⟩ R e objs m->RepL R e (args l) xs ->
  ∃y m' R' W' e' g v O',Ev P X (.call f xs m) (.ret y m')/\I g W' R' m'/\WStep (zac e (List.range objs.length)++W) R m (zac e' (List.range O'.length)++W') R' m'/\(∀t∈zac e' (List.range O'.length),¬b t/\t∉W')/\(∀o u,e o=some (PM.c u)->e' o=some (PM.c u))/\Rep R' e' v y/\MSat ⟨m',zac e' (List.range O'.length),R'⟩ R' e' O' m'/\post g v O'
theorem DIterO.mono{P:Program}{X:Ext}{gl:List (Nat×List CV)}{f:FuncId}{args:Nat->List SV}{objs:List SObj}{ys:Nat->Option (List SV)}{post post':Gh->SV->List SObj->Prop}(h:DIterO P X gl f args objs ys post)(k:∀g v O,post g v O->post' g v O):DIterO P X gl f args objs ys post':=
 ⟨fun h1 h2 h3 h4 h5 h6 h7 h8=>by
  obtain⟨y,m',R',W',e',g,v,O',q1,q2,q3,q4,q5,q6,q7,q8⟩:=h.run h1 h2 h3 h4 h5 h6 h7 h8;exact⟨y,m',R',W',e',g,v,O',q1,q2,q3,q4,q5,q6,q7,k g v O' q8⟩⟩
section
variable{P:Program}{X:Ext}{G:Ctx}{R R':RO}{e:DEnv}{O:List SObj}{m m':Mem}{W W' W0:List Nat}{b:Old}
theorem YLaw.shift{l:Nat}{ys ys':Nat->Option (List SV)}{b:Old}{I:Inv}(h:YLaw P X l ys b I)(n:Nat)(hys:∀k vs,ys' k=some vs->ys (n+k)=some vs):YLaw P X l ys' b fun g=>I ⟨n+g.n,g.st⟩:=
 ⟨fun hi hf=>h.far hi hf,
  fun{k W R m vs xs} hi hw hm hy hr=>by
  obtain⟨bb,m',R',W',q1,q2,q3⟩:=h.yl hi hw hm (hys _ _ hy) hr;refine⟨bb,m',R',W',q1,?_,q3⟩;cases bb<;>exact q2⟩
theorem MSat.far(hM:MSat G R e O m)(hb:∀t,b t->t<G.m0.nxt)(hS:∀t∈G.S0,¬b t)(hW:∀t∈W,t<G.m0.nxt/\t∉G.S0/\G.R0 t=none):Far b W G.R0 G.m0 R m:=by
 refine⟨hM.fr.nxt,fun t ht=>?_,hM.le,hM.sk,fun t o hh=>?_,fun t ht=>?_⟩
 ·rcases ht with ht |ht
  ·exact hM.fr.get t (hb t ht) fun h=>hS t h ht
  ·exact hM.fr.get t (hW t ht).1 (hW t ht).2.1
 ·rcases hM.rn t o hh with h |h |h
  ·exact .inl h
  ·exact .inr fun hbt=>by have:=hb t hbt;omega
  ·exact .inr (hS t h)
 ·cases hq:R t with
  |none=>rfl
  |some o=>
   obtain⟨h1,h2,h3⟩:=hW t ht;rcases hM.rn t o hq with h |h |h
   ·rw[h3]at h;cases h
   ·omega
   ·exact absurd h h2
theorem MSat.world(hM:MSat G R e O m)(hW:∀t∈W,t<G.m0.nxt/\t∉G.S0)(h:WStep W R m W' R' m'):MSat ⟨m',zac e (List.range O.length),R'⟩ R' e O m':=by
 have hno:∀t,G.own t->t∉W:=fun t ho hw=>by
  rcases ho with ho |ho
  ·have:=(hW t hw).1;omega
  ·exact(hW t hw).2 ho
 refine⟨Fr.refl _ _,h.sk,RO.le.refl _,fun t o hh=>.inl hh,fun o x t hx ht=>⟨.inr (zaD (List.mem_range.2 (by
  obtain⟨so,h1,_⟩:=hM.dom o x hx;exact(List.getElem?_eq_some_iff.1 h1).1)) hx ht),?_⟩,hM.inj,fun o so ho=>?_,hM.dom⟩
 ·obtain⟨h1,h2⟩:=hM.own o x t hx ht;obtain⟨_,_,_,hl⟩:=hM.lt hx ht;cases hq:R' t with
  |none=>rfl
  |some oo=>
   rcases h.rn t oo hq with h3 |h3 |h3
   ·rw[h2]at h3;cases h3
   ·exact absurd h3 (hno t h1)
   ·omega
 ·rcases hM.ob o so ho with h1 |⟨x,h1,h2⟩
  ·exact .inl h1
  ·refine .inr ⟨x,h1,h2.mono h.le (DEnv.le.refl _) fun t ht=>?_⟩;obtain⟨_,_,_,hl⟩:=hM.lt h1 ht;exact h.fr.get t hl (hno t (hM.own o x t h1 ht).1)
theorem WStep.refl(hm:Mk R m)(hw:∀t∈W,t<m.nxt/\R t=none/\m.get t≠some (.dfr true)):WStep W R m W R m:=
 ⟨Fr.refl _ _,RO.le.refl _,hm,fun t ht=>⟨.inl ht,hw t ht⟩,fun t o h=>.inl h⟩
theorem WStep.trans{R0:RO}{m0:Mem}(h:WStep W0 R0 m0 W R m)(k:WStep W R m W' R' m'):WStep W0 R0 m0 W' R' m':=by
 refine⟨⟨Nat.le_trans h.fr.nxt k.fr.nxt,fun t ht hn=>?_,fun w=>k.sk.wf⟩,h.le.trans k.le,k.sk,fun t ht=>⟨?_,(k.w t ht).2⟩,fun t o hh=>?_⟩
 ·have:=h.fr.nxt;rw[k.fr.get t (by omega) fun hw=>?_]
  ·exact h.fr.get t ht hn
  ·rcases(h.w t hw).1 with h1 |h1
   ·exact hn h1
   ·omega
 ·rcases(k.w t ht).1 with h1 |h1
  ·exact(h.w t h1).1
  ·have:=h.fr.nxt;exact .inr (by omega)
 ·rcases k.rn t o hh with h1 |h1 |h1
  ·exact h.rn t o h1
  ·rcases(h.w t h1).1 with h2 |h2
   ·exact .inr (.inl h2)
   ·exact .inr (.inr h2)
  ·have:=h.fr.nxt;exact .inr (.inr (by omega))
theorem WStep.marks(h:WStep W R m W' R' m')(hm:Mk R m)(hw:∀t∈W,t<m.nxt/\R t=none/\m.get t≠some (.dfr true)):Marks R m R' m':=fun k h1 h2=>by
 have hk:k∉W:=fun h3=>(hw k h3).2.2 h1
 have hl:=hm.wf.lt h1;refine⟨by rw[h.fr.get k hl hk];exact h1,?_⟩;cases hq:R' k with
 |none=>rfl
 |some o=>
  rcases h.rn k o hq with h3 |h3 |h3
  ·rw[h2]at h3;cases h3
  ·exact absurd h3 hk
  ·omega
theorem MSat.tagW(hM:MSat G R e O m):∀t∈zac e (List.range O.length),t<m.nxt/\R t=none/\m.get t≠some (.dfr true):=fun t ht=>by
 obtain⟨i,x,_,h1,h2⟩:=zap ht;obtain⟨o,h3,h4,hl⟩:=hM.lt h1 h2;refine⟨hl,(hM.own i x t h1 h2).2,fun h=>?_⟩;rw[h]at h3;cases h3;cases h4
theorem MSat.tagN(hM:MSat G R e O m){l:Nat}{o:CO}(h:m.get l=some o)(hr:zcl o=true){L:List Nat}:l∉zac e L:=fun ht=>by
 obtain⟨i,x,_,h1,h2⟩:=zap ht;obtain⟨o',h3,h4,_⟩:=hM.lt h1 h2;rw[h]at h3;cases h3;rw[hr]at h4;cases h4
theorem WStep.of{e':DEnv}{O':List SObj}(hM:MSat G R e O m)(h:MSat ⟨m,zac e (List.range O.length),R⟩ R' e' O' m'):WStep (zac e (List.range O.length)) R m (zac e' (List.range O'.length)) R' m':=by
 refine⟨h.fr,h.le,h.sk,fun t ht=>?_,fun t o hh=>?_⟩
 ·obtain⟨h1,h2,h3⟩:=h.tagW t ht;obtain⟨i,x,_,h4,h5⟩:=zap ht;exact⟨(h.own i x t h4 h5).1.symm.imp id id,h1,h2,h3⟩
 ·rcases h.rn t o hh with h1 |h1 |h1
  ·exact .inl h1
  ·exact .inr (.inr h1)
  ·exact .inr (.inl h1)
theorem WStep.cons(h:WStep W R m W' R' m'){l:Nat}(hl:l<m.nxt)(hR:R l=none)(hd:m.get l≠some (.dfr true))(hn:l∉W):WStep (l::W) R m (l::W') R' m':=by
 have hR':R' l=none:=by
  cases hq:R' l with
  |none=>rfl
  |some o=>
   rcases h.rn l o hq with h3 |h3 |h3
   ·rw[hR]at h3;cases h3
   ·exact absurd h3 hn
   ·omega
 refine⟨⟨h.fr.nxt,fun t ht hs=>h.fr.get t ht fun hh=>hs (ya4 _ hh),h.fr.wf⟩,h.le,h.sk,fun t ht=>?_,fun t o hh=>?_⟩
 ·rcases List.mem_cons.1 ht with rfl |ht
  ·exact⟨.inl (ya5 ..),Nat.lt_of_lt_of_le hl h.fr.nxt,hR',by rw[h.fr.get t hl hn];exact hd⟩
  ·exact⟨(h.w t ht).1.imp (ya4 _) id,(h.w t ht).2⟩
 ·exact(h.rn t o hh).imp id (Or.imp (ya4 _) id)
theorem WStep.sub(h:WStep W R m W' R' m'){V:List Nat}(hv:∀t∈V,t∈W'):WStep W R m V R' m':=
 ⟨h.fr,h.le,h.sk,fun t ht=>h.w t (hv t ht),h.rn⟩
theorem WStep.recd(hm:Mk R m)(hw:∀t∈W,t<m.nxt/\R t=none/\m.get t≠some (.dfr true)){l:Nat}{o:CO}(hl:l∈W)(ho:o≠.dfr true):WStep W R m W R (m.put l o):=by
 have hlt:=(hw l hl).1;have hn:(m.put l o).nxt=m.nxt:=rfl;refine⟨⟨Nat.le_refl _,fun t ht hs=>?_,fun w t ht=>?_⟩,RO.le.refl _,⟨fun t ht=>?_,fun t oo hh=>?_⟩,fun t ht=>⟨.inl ht,(hw t ht).1,(hw t ht).2.1,?_⟩,fun t oo hh=>.inl hh⟩
 ·rw[Mem.get_put,if_neg (by rintro rfl;exact hs hl)]
 ·rw[Mem.get_put,if_neg (by have:m.nxt<=t:=ht;omega)];exact w t ht
 ·rw[Mem.get_put,if_neg (by have:m.nxt<=t:=ht;omega)];exact hm.wf t ht
 ·rw[Mem.get_put,if_neg (by rintro rfl;rw[(hw t hl).2.1]at hh;cases hh)];exact hm.ro t oo hh
 ·rw[Mem.get_put];split
  ·simpa using ho
  ·exact(hw t ht).2.2
theorem MSat.recd(hM:MSat G R e O m){l:Nat}{o o':CO}(hg:m.get l=some o')(hr:zcl o'=true)(hR:R l=none)(hG:G.own l):MSat G R e O (m.put l o):=by
 have hlt:=hM.sk.wf.lt hg;have hne:∀i x t,e i=some x->tg x=some t->t≠l:=fun i x t h1 h2=>by
  rintro rfl;obtain⟨oo,h3,h4,_⟩:=hM.lt h1 h2;rw[hg]at h3;cases h3;rw[hr]at h4;cases h4
 refine⟨⟨hM.fr.nxt,fun t ht hs=>?_,fun w=>?_⟩,⟨?_,fun t oo hh=>?_⟩,hM.le,hM.rn,hM.own,hM.inj,fun i so hi=>?_,hM.dom⟩
 ·rw[Mem.get_put,if_neg (by rintro rfl;rcases hG with h |h;omega;exact hs h)];exact hM.fr.get t ht hs
 ·intro t ht;rw[Mem.get_put,if_neg (by have:m.nxt<=t:=ht;omega)];exact hM.sk.wf t ht
 ·intro t ht;rw[Mem.get_put,if_neg (by have:m.nxt<=t:=ht;omega)];exact hM.sk.wf t ht
 ·rw[Mem.get_put,if_neg (by rintro rfl;rw[hR]at hh;cases hh)];exact hM.sk.ro t oo hh
 ·rcases hM.ob i so hi with h1 |⟨x,h1,h2⟩
  ·exact .inl h1
  ·exact .inr ⟨x,h1,h2.mono (RO.le.refl R) (DEnv.le.refl _) fun t ht=>by rw[Mem.get_put,if_neg (hne i x t h1 ht)]⟩
theorem Far.sub{b':Old}{V:List Nat}(h:Far b W R m R' m')(hb:∀t,b' t->b t)(hv:∀t∈V,t∈W):Far b' V R m R' m':=
 ⟨h.nxt,fun t ht=>h.get t (ht.imp (hb t) (hv t)),h.le,h.sk,fun t o hh=>(h.rn t o hh).imp id fun h hb'=>h (hb t hb'),fun t ht=>h.w t (hv t ht)⟩
theorem WStep.far{R0:RO}{m0:Mem}(h:WStep W0 R0 m0 W R m)(hf:Far b W R m R' m')(hq:∀t,t<m0.nxt->t∉W0->b t):WStep W0 R0 m0 W R' m':=by
 refine⟨⟨Nat.le_trans h.fr.nxt hf.nxt,fun t ht hn=>?_,fun w=>hf.sk.wf⟩,h.le.trans hf.le,hf.sk,fun t ht=>⟨(h.w t ht).1,Nat.lt_of_lt_of_le (h.w t ht).2.1 hf.nxt,hf.w t ht,by rw[hf.get t (.inr ht)];exact(h.w t ht).2.2.2⟩,fun t o hh=>?_⟩
 ·rw[hf.get t (.inl (hq t ht hn))];exact h.fr.get t ht hn
 ·rcases hf.rn t o hh with h1 |h1
  ·exact h.rn t o h1
  ·refine .inr ?_;by_cases h2:t∈W0
   ·exact .inl h2
   ·refine .inr (Nat.le_of_not_lt fun h3=>h1 (hq t h3 h2))
theorem MSat.farNow(hM:MSat G R e O m)(hf:Far b W R m R' m')(hW:∀t∈zac e (List.range O.length),t∈W):MSat ⟨m',zac e (List.range O.length),R'⟩ R' e O m':=by
 have hmem:∀i x t,e i=some x->tg x=some t->t∈zac e (List.range O.length):=fun i x t h1 h2=>by
  obtain⟨so,h4,_⟩:=hM.dom i x h1;exact zaD (List.mem_range.2 (List.getElem?_eq_some_iff.1 h4).1) h1 h2
 refine⟨Fr.refl _ _,hf.sk,RO.le.refl _,fun t o hh=>.inl hh,fun i x t h1 h2=>⟨.inr (hmem i x t h1 h2),hf.w t (hW t (hmem i x t h1 h2))⟩,hM.inj,fun i so hi=>?_,hM.dom⟩;rcases hM.ob i so hi with h1 |⟨x,h1,h2⟩
 ·exact .inl h1
 ·exact .inr ⟨x,h1,h2.mono hf.le (DEnv.le.refl _) fun t ht=>hf.get t (.inr (hW t (hmem i x t h1 ht)))⟩
theorem MSat.more{m0:Mem}{S S':List Nat}{R0:RO}(hM:MSat ⟨m0,S,R0⟩ R e O m)(hs:∀t∈S,t∈S'):MSat ⟨m0,S',R0⟩ R e O m:=by
 have ho:∀t,(⟨m0,S,R0⟩:Ctx).own t->(⟨m0,S',R0⟩:Ctx).own t:=fun t h=>h.imp id (hs t)
 exact⟨⟨hM.fr.nxt,fun t ht hn=>hM.fr.get t ht fun hh=>hn (hs t hh),hM.fr.wf⟩,hM.sk,hM.le,fun t o hh=>(hM.rn t o hh).imp id (ho t),fun i x t h1 h2=>⟨ho t (hM.own i x t h1 h2).1,(hM.own i x t h1 h2).2⟩,hM.inj,hM.ob,hM.dom⟩
theorem WStep.own2(hM:MSat G R e O m)(hW:∀t∈W,t<G.m0.nxt/\t∉G.S0/\G.R0 t=none/\G.m0.get t≠some (.dfr true)):WStep (G.S0++W) G.R0 G.m0 (zac e (List.range O.length)++W) R m:=by
 refine⟨⟨hM.fr.nxt,fun t ht hn=>hM.fr.get t ht fun hh=>hn (List.mem_append_left _ hh),hM.fr.wf⟩,hM.le,hM.sk,fun t ht=>?_,fun t o hh=>?_⟩
 ·rcases List.mem_append.1 ht with ht |ht
  ·obtain⟨h1,h2,h3⟩:=hM.tagW t ht;obtain⟨i,x,_,h4,h5⟩:=zap ht;exact⟨(hM.own i x t h4 h5).1.symm.imp (List.mem_append_left _) id,h1,h2,h3⟩
  ·obtain⟨h1,h2,h3,h4⟩:=hW t ht;refine⟨.inl (yc3 _ ht),Nat.lt_of_lt_of_le h1 hM.fr.nxt,?_,by rw[hM.fr.get t h1 h2];exact h4⟩;cases hq:R t with
   |none=>rfl
   |some o=>
    rcases hM.rn t o hq with h5 |h5 |h5
    ·rw[h3]at h5;cases h5
    ·omega
    ·exact absurd h5 h2
 ·rcases hM.rn t o hh with h1 |h1 |h1
  ·exact .inl h1
  ·exact .inr (.inr h1)
  ·exact .inr (.inl (List.mem_append_left _ h1))
theorem WStep.app(h:WStep W R m W' R' m'):∀{V:List Nat},(∀t∈V,t<m.nxt/\R t=none/\m.get t≠some (.dfr true)/\t∉W)->WStep (V++W) R m (V++W') R' m'
 |[],_=>h
 |v::V,hv=>by
  have ih:=WStep.app h (V:=V) fun t ht=>hv t (ya4 _ ht)
  by_cases hm:v∈V
  ·refine⟨⟨ih.fr.nxt,fun t ht hn=>ih.fr.get t ht fun hh=>hn (ya4 _ hh),ih.fr.wf⟩,ih.le,ih.sk,fun t ht=>?_,fun t o hh=>(ih.rn t o hh).imp id (Or.imp (ya4 _) id)⟩;have:t∈V++W':=by
    rcases List.mem_cons.1 ht with rfl |ht
    ·exact List.mem_append_left _ hm
    ·exact ht
   exact⟨(ih.w t this).1.imp (ya4 _) id,(ih.w t this).2⟩
  ·obtain⟨h1,h2,h3,h4⟩:=hv v ya5;exact WStep.cons ih h1 h2 h3 fun hh=>(List.mem_append.1 hh).elim hm h4
theorem MSat.tagOwn(hM:MSat G R e O m):∀t∈zac e (List.range O.length),G.m0.nxt<=t\/t∈G.S0:=fun t ht=>by
 obtain⟨i,x,_,h1,h2⟩:=zap ht;exact(hM.own i x t h1 h2).1
def wB(I:Inv)(b:Old)(V0:List Nat)(R0:RO)(m0:Mem):Gh->Ctx->Prop:=fun g G=>
 ∃W,I g W G.R0 G.m0/\WStep V0 R0 m0 (G.S0++W) G.R0 G.m0/\(∀t∈W,t∉G.S0)/\∀t∈G.S0,¬b t
section
variable{V0:List Nat}{R0:RO}{m0:Mem}{I:Inv}
theorem ztU(h2:WStep V0 R0 m0 (G.S0++W) G.R0 G.m0)(h3:∀t∈W,t∉G.S0):∀t∈W,t<G.m0.nxt/\t∉G.S0/\G.R0 t=none/\G.m0.get t≠some (.dfr true):=fun t ht=>by
 obtain⟨_,h4,h5,h6⟩:=h2.w t (yc3 _ ht);exact⟨h4,h3 t ht,h5,h6⟩
theorem zlM(hb:∀t,b t->t<m0.nxt)(h2:WStep V0 R0 m0 (G.S0++W) G.R0 G.m0)(h3:∀t∈W,t∉G.S0)(h4:∀t∈G.S0,¬b t)(hM:MSat G R e O m):Far b W G.R0 G.m0 R m:=
 hM.far (fun t ht=>Nat.lt_of_lt_of_le (hb t ht) h2.fr.nxt) h4 fun t ht=>⟨(ztU h2 h3 t ht).1,h3 t ht,(ztU h2 h3 t ht).2.2.1⟩
theorem ziL(h2:WStep V0 R0 m0 (G.S0++W) G.R0 G.m0)(h3:∀t∈W,t∉G.S0)(hM:MSat G R e O m):WStep V0 R0 m0 (zac e (List.range O.length)++W) R m:=h2.trans (WStep.own2 hM (ztU h2 h3))
theorem znW(h2:WStep V0 R0 m0 (G.S0++W) G.R0 G.m0)(h3:∀t∈W,t∉G.S0)(hM:MSat G R e O m):∀t∈W,t∉zac e (List.range O.length):=fun t ht hh=>by
 rcases hM.tagOwn t hh with h |h
 ·have:=(ztU h2 h3 t ht).1;omega
 ·exact h3 t ht h
theorem zn8(hb:∀t,b t->t<m0.nxt)(h2:WStep V0 R0 m0 (G.S0++W) G.R0 G.m0)(h4:∀t∈G.S0,¬b t)(hM:MSat G R e O m):∀t∈zac e (List.range O.length),¬b t:=fun t ht hbt=>by
 rcases hM.tagOwn t ht with h |h
 ·have:=hb t hbt;have:=h2.fr.nxt;omega
 ·exact h4 t h hbt
theorem zr8{g':Gh}(hb:∀t,b t->t<m0.nxt)(h2:WStep V0 R0 m0 (G.S0++W) G.R0 G.m0)(h3:∀t∈W,t∉G.S0)(h4:∀t∈G.S0,¬b t)(hM:MSat G R e O m)(k:WStep W R m W' R' m')(hi:I g' W' R' m'):
  ∃G',wB I b V0 R0 m0 g' G'/\MSat G' R' e O m':=by
 have hd:=znW h2 h3 hM;refine⟨_,⟨W',hi,(ziL h2 h3 hM).trans (k.app (V:=zac e (List.range O.length)) fun t ht=>⟨(hM.tagW t ht).1,(hM.tagW t ht).2.1,(hM.tagW t ht).2.2,fun hh=>hd t hh ht⟩),fun t ht hs=>?_,zn8 hb h2 h4 hM⟩,hM.world (fun t ht=>⟨(ztU h2 h3 t ht).1,h3 t ht⟩) k⟩;rcases(k.w t ht).1 with h5 |h5
 ·exact hd t h5 hs
 ·have:=(hM.tagW t hs).1;omega
end
structure WOk(P:Program)(X:Ext)(gl:List (Nat×List CV))(l:Nat)(ys:Nat->Option (List SV))(B:Gh->Ctx->Prop):Prop where
 yl:∀{n:Nat} {G:Ctx} {R:RO} {e:DEnv} {O:List SObj} {m:Mem} {vs:List SV} {xs:List CV},B ⟨n,false⟩ G->MSat G R e O m->ys n=some vs->RepL R noE vs xs ->
  ∃bb m' R' G',Evt P X (fun ih=>zbN ih l xs m=.ret (.bool bb) m')/\R.le R'/\Marks R m R' m'/\B (Gh.step n bb) G'/\MSat G' R' e O m'
 it:∀{n:Nat} {G:Ctx} {R:RO} {e:DEnv} {O:List SObj} {m:Mem} {f:FuncId} {args:Nat->List SV} {ys':Nat->Option (List SV)} {post:Gh->SV->Prop} {xs:List CV},B ⟨n,false⟩ G->MSat G R e O m->GlbOk gl R->DIter P X gl f args ys' post ->
  (∀k vs,ys' k=some vs->ys (n+k)=some vs)->RepL R noE (args l) xs ->
  ∃y m' R' G' g v,Ev P X (.call f xs m) (.ret y m')/\R.le R'/\Marks R m R' m'/\B ⟨n+g.n,g.st⟩ G'/\MSat G' R' e O m'/\(∀e,Rep R' e v y)/\post g v
 itO:∀{n:Nat} {G:Ctx} {R:RO} {e:DEnv} {O:List SObj} {m:Mem} {f:FuncId} {args:Nat->List SV} {ids:List Nat} {ys':Nat->Option (List SV)} {post:Gh->SV->List SObj->Prop} {xs:List CV},B ⟨n,false⟩ G->MSat G R e O m->GlbOk gl R->zcu ids=true->(∀i∈ids,i<O.length)->DIterO P X gl f args (ids.map fun i=>mvO (fun n=>zes n ids 0) (zbt O i)) ys' post ->
  (∀k vs,ys' k=some vs->ys (n+k)=some vs)->RepL R (inE e ids) (args l) xs ->
  ∃y m' R' G' g v e2 O2,Ev P X (.call f xs m) (.ret y m')/\R.le R'/\Marks R m R' m'/\B ⟨n+g.n,g.st⟩ G'/\(∀o u,inE e ids o=some (PM.c u)->e2 o=some (PM.c u))/\(∀i j x,zdr ids O i=some j->e i=some x->zix e e2 ids O.length j=some x) /\
   MSat G' R' (zix e e2 ids O.length) (ziB (zbV ids O.length) ids O2 (O.map (mvO (zdr ids O)))++(O2.drop ids.length).map (mvO (zbV ids O.length))) m'/\Rep R' e2 v y/\post g v O2
theorem zxh{l:Nat}{ys:Nat->Option (List SV)}{I:Inv}{gl:List (Nat×List CV)}{V0:List Nat}{R0:RO}{m0:Mem}(hI:YLaw P X l ys b I)(hb:∀t,b t->t<m0.nxt):WOk P X gl l ys (wB I b V0 R0 m0):=by
 refine⟨fun hB hM hy hr=>?_,fun hB hM hg hD hy hr=>?_,fun hB hM hg hd hlt hD hy hr=>?_⟩
 ·obtain⟨W,h1,h2,h3,h4⟩:=hB;have hs:=ziL h2 h3 hM;have hw:∀t∈W,_:=fun t ht=>(hs.w t (yc3 _ ht)).2
  obtain⟨bb,m',R',W',q1,q2,q3⟩:=hI.yl (hI.far h1 (zlM hb h2 h3 h4 hM)) hw hM.sk hy hr;obtain⟨G',g1,g2⟩:=zr8 hb h2 h3 h4 hM q3 q2;exact⟨bb,m',R',G',q1,q3.le,q3.marks hM.sk hw,g1,g2⟩
 ·rename_i n G R e O m f args ys' post xs;obtain⟨W,h1,h2,h3,h4⟩:=hB;have hs:=ziL h2 h3 hM;have hw:∀t∈W,_:=fun t ht=>(hs.w t (yc3 _ ht)).2
  obtain⟨y,m',R',W',g,v,q1,q2,q3,q4,q5⟩:=hD.run (hI.shift n hy) (fun t ht=>Nat.lt_of_lt_of_le (hb t ht) hs.fr.nxt) hg hM.sk (I:=fun g=>I ⟨n+g.n,g.st⟩) (hI.far h1 (zlM hb h2 h3 h4 hM)) hw hr;obtain⟨G',g1,g2⟩:=zr8 hb h2 h3 h4 hM q3 q2;exact⟨y,m',R',G',g,v,q1,q3.le,q3.marks hM.sk hw,g1,g2,q4,q5⟩
 ·rename_i n G R e O m f args ids ys' post xs;obtain⟨W,h1,h2,h3,h4⟩:=hB;have hs:=ziL h2 h3 hM;have hw:∀t∈W,_:=fun t ht=>(hs.w t (yc3 _ ht)).2
  have hdis:=znW h2 h3 hM;have htag:=zn8 hb h2 h4 hM;have hE:=(hM.enter hd).rebase0;have hsub:∀t∈zac (inE e ids) (List.range (ids.map fun i=>mvO (fun n=>zes n ids 0) (zbt O i)).length),t∈zac e ids:=fun t ht=>by
   obtain⟨j,x,_,a1,a2⟩:=zap ht;obtain⟨i,a3,a4⟩:=zed a1;exact zaD (zdH a3).2 a4 a2
  have hsub2:∀t∈zac e ids,t∈zac e (List.range O.length):=fun t ht=>by
   obtain⟨i,x,a0,a1,a2⟩:=zap ht;exact zaD (List.mem_range.2 (hlt i a0)) a1 a2
  generalize hS:zac (inE e ids) (List.range (ids.map fun i=>mvO (fun n=>zes n ids 0) (zbt O i)).length)=S at *;obtain⟨y,m',R',W',e2,g,v,O2,q1,q2,q3,q4,q5,q6,q7,q8⟩:=hD.run (hI.shift n hy) (fun t ht=>Nat.lt_of_lt_of_le (hb t ht) hs.fr.nxt) hg (I:=fun g=>I ⟨n+g.n,g.st⟩) (hI.far h1 (zlM hb h2 h3 h4 hM)) hw (by
   rw[hS];exact fun t ht=>⟨htag t (hsub2 t (hsub t ht)),fun hh=>hdis t hh (hsub2 t (hsub t ht))⟩) (by rw[hS];exact hE) hr
  rw[hS]at q3;have hfr:Fr (zac e ids++W) m m':=⟨q3.fr.nxt,fun t ht hn=>q3.fr.get t ht fun hh=>hn ((List.mem_append.1 hh).elim (fun h=>List.mem_append_left _ (hsub t h)) (yc3 _)),q3.fr.wf⟩
  have hM2:MSat ⟨m,zac e ids++W,R⟩ R' e2 O2 m':=⟨hfr,q3.sk,q3.le,fun t o hh=>by
    rcases q3.rn t o hh with a |a |a
    ·exact .inl a
    ·exact .inr (.inr ((List.mem_append.1 a).elim (fun h=>List.mem_append_left _ (hsub t h)) (yc3 _)))
    ·exact .inr (.inl a),fun o x t a1 a2=>⟨by
     have hmem:t∈zac e2 (List.range O2.length):=by
      obtain⟨so,a3,_⟩:=q7.dom o x a1;exact zaD (List.mem_range.2 (List.getElem?_eq_some_iff.1 a3).1) a1 a2
     rcases(q3.w t (List.mem_append_left _ hmem)).1 with a |a
     ·exact .inr ((List.mem_append.1 a).elim (fun h=>List.mem_append_left _ (hsub t h)) (yc3 _))
     ·exact .inl a,(q7.own o x t a1 a2).2⟩,q7.inj,q7.ob,q7.dom⟩
  obtain⟨g1,g2⟩:=(hM.rebase0.more (S':=zac e (List.range O.length)++W) fun t ht=>List.mem_append_left _ ht).leaveS hd hlt q3.le q5 (fun t ht=>.inr ((List.mem_append.1 ht).elim (fun h=>List.mem_append_left _ (hsub2 t h)) (yc3 _))) (fun i x t hi hx ht hh=>by
   rcases List.mem_append.1 hh with hh |hh
   ·obtain⟨i',x',a1,a2,a3⟩:=zap hh;exact hi (by rw[hM.inj i i' x x' t hx a2 ht a3];exact a1)
   ·obtain⟨so,a3,_⟩:=hM.dom i x hx;exact hdis t hh (zaD (List.mem_range.2 (List.getElem?_eq_some_iff.1 a3).1) hx ht)) hM2
  have hname:∀{i:Nat} {x:CV} {t:Nat},zix e e2 ids O.length i=some x->tg x=some t->t∈zac e2 (List.range O2.length)\/(t∈zac e (List.range O.length)/\t∉zac e ids):=fun{i x t} a1 a2=>by
   rcases zc2 a1 with⟨j,a3,_⟩ |⟨a3,a4,a5⟩
   ·obtain⟨so,a6,_⟩:=q7.dom j x a3;exact .inl (zaD (List.mem_range.2 (List.getElem?_eq_some_iff.1 a6).1) a3 a2)
   ·refine .inr ⟨zaD (List.mem_range.2 a4) a5 a2,fun hh=>?_⟩;obtain⟨i',x',b1,b2,b3⟩:=zap hh;exact a3 (by rw[hM.inj i i' x x' t a5 b2 a2 b3];exact b1)
  have hWS:∀t∈W',t∉zac e2 (List.range O2.length):=fun t ht hh=>(q4 t hh).2 ht
  refine⟨y,m',R',_,g,v,e2,O2,q1,q3.le,q3.marks hM.sk (fun t ht=>?_),⟨W',q2,hs.trans ⟨⟨q3.fr.nxt,fun t ht hn=>?_,q3.fr.wf⟩,q3.le,q3.sk,fun t ht=>?_,fun t o hh=>?_⟩,fun t ht hh=>?_,fun t ht=>?_⟩,q5,g1,g2.rebase0,q6,q8⟩
  ·rcases List.mem_append.1 ht with ht |ht
   ·exact hM.tagW t (hsub2 t (hsub t ht))
   ·exact hw t ht
  ·refine q3.fr.get t ht fun hh=>hn ?_
   exact(List.mem_append.1 hh).elim (fun h=>List.mem_append_left _ (hsub2 t (hsub t h))) (yc3 _)
  ·rcases List.mem_append.1 ht with ht |ht
   ·exact⟨(g2.tagOwn t ht).symm.imp id id,g2.tagW t ht⟩
   ·obtain⟨a1,a2⟩:=q3.w t (yc3 _ ht);exact⟨a1.imp (fun hh=>(List.mem_append.1 hh).elim (fun h=>List.mem_append_left _ (hsub2 t (hsub t h))) (yc3 _)) id,a2⟩
  ·rcases q3.rn t o hh with a |a |a
   ·exact .inl a
   ·exact .inr (.inl ((List.mem_append.1 a).elim (fun h=>List.mem_append_left _ (hsub2 t (hsub t h))) (yc3 _)))
   ·exact .inr (.inr a)
  ·obtain⟨i,x,_,a1,a2⟩:=zap hh;rcases hname a1 a2 with a3 |⟨a3,a4⟩
   ·exact hWS t ht a3
   ·rcases(q3.w t (yc3 _ ht)).1 with a5 |a5
    ·rcases List.mem_append.1 a5 with a5 |a5
     ·exact a4 (hsub t a5)
     ·exact hdis t a5 a3
    ·have:=(hM.tagW t a3).1;omega
  ·obtain⟨i,x,_,a1,a2⟩:=zap ht;rcases hname a1 a2 with a3 |⟨a3,_⟩
   ·exact(q4 t a3).1
   ·exact htag t a3
end
def IL(l0:Nat)(o0:CO)(I:Inv):Inv:=fun g W R m=>∃W1,W=l0::W1/\I g W1 R m/\m.get l0=some o0/\l0∉W1
theorem zuv{P:Program}{X:Ext}{l:Nat}{ys:Nat->Option (List SV)}{b:Old}{I:Inv}{l0:Nat}{o0:CO}(hI:YLaw P X l ys b I):YLaw P X l ys b (IL l0 o0 I):=by
 refine⟨fun hi hf=>?_,fun{n W R m vs xs} hi hw hm hy hr=>?_⟩
 ·obtain⟨W1,rfl,h1,h2,h3⟩:=hi;exact⟨W1,rfl,hI.far h1 (hf.sub (fun _ h=>h) fun t ht=>ya4 _ ht),by rw[hf.get l0 (.inr ya5)];exact h2,h3⟩
 ·obtain⟨W1,rfl,h1,h2,h3⟩:=hi;obtain⟨bb,m',R',W',q1,q2,q3⟩:=hI.yl h1 (fun t ht=>hw t (ya4 _ ht)) hm hy hr;obtain⟨a1,a2,a3⟩:=hw l0 ya5;refine⟨bb,m',R',l0::W',q1,⟨W',rfl,q2,by rw[q3.fr.get l0 a1 h3];exact h2,fun hh=>?_⟩,q3.cons a1 a2 a3 h3⟩;rcases(q3.w l0 hh).1 with h4 |h4
  ·exact h3 h4
  ·omega
end Go.Cx
namespace Go.Cx
open Go
inductive DDef where
 |fn (f:FuncId) (args:List SV)
inductive Md where
 |fn
 |it
 |rd
 |df
 |ry
 |pf
def zxt:Md->Bool
 |.pf=>true
 |_=>false
def ylM:Md->Bool
 |.it=>true
 |.ry=>true
 |_=>false
abbrev DKK:=CEx->List SV->List SObj->List DDef->Gh->Prop
abbrev DW:=List SV->List SObj->List DDef->Gh->DKK->Prop
def znH:Nat->SV->Bool
 |_,.cv _=>true
 |_,.ptr _ _=>true
 |_,.map _=>true
 |_,.isl _ _ _=>true
 |_,.ipt _ _=>true
 |d+1,.agg cs=>cs.all (znH d)
 |d+1,.fn _ a b=>a.all (znH d)&&b.all (znH d)
 |_,_=>false
def zfM:List SV->Nat->SV->(List SV->Prop)->Prop
 |[],_,_,_=>False
 |_::xs,0,v,k=>k (v::xs)
 |x::xs,n+1,v,k=>zfM xs n v fun r=>k (x::r)
theorem zcT:∀{l:List SV} {n:Nat} {v:SV} {k:List SV->Prop},zfM l n v k->n<l.length/\k (l.set n v)
 |[],_,_,_,h=>h.elim
 |_::xs,0,v,k,h=>⟨by simp,h⟩
 |x::xs,n+1,v,k,h=>by
  obtain⟨h1,h2⟩:=zcT (l:=xs) h;exact⟨by simpa using h1,h2⟩
def zfi(gs:List Nat)(dst:Option Tmp)(v:SV)(T:List SV)(K:List SV->Prop):Prop:=
 match dst with
 |none=>K T
 |some d=>match zaH d gs with
  |false=>zfM T d v K
  |true=>match v with
   |.cv (.bool b)=>zhz b (zfM T d (.cv (.bool true)) K) (zfM T d (.cv (.bool false)) K)
   |v=>zfM T d v K
noncomputable def zmE(ops:List Oper)(T:List SV)(j:Nat):SV:=
 match nth ops j with
 |some o=>match o.dst with
  |some d=>zdR T d
  |none=>.junk
 |none=>.junk
noncomputable def zfJ(ops:List Oper)(T:List SV)(g:Option (Nat×Bool))(yes no:Prop):Prop:=
 match g with
 |none=>yes
 |some (j,want)=>match zmE ops T j with
  |.cv (.bool b)=>match b with
   |true=>match want with
    |true=>yes
    |false=>no
   |false=>match want with
    |true=>no
    |false=>yes
  |.tup l=>match l with
   |[]=>no
   |_=>False
  |_=>False
noncomputable def zqQ(c:DCfg)(md:Md)(cl:Call)(gs:List Nat)(dst:Option Tmp)(T:List SV)(dd:List DDef)(K:List SV->List DDef->Prop):Prop:=
 match md with
 |.rd=>False
 |.df=>False
 |.ry=>False
 |_=>zej c T cl.args.toList fun args=>match cl.callee with
  |.value f=>zaU c T f fun f=>match f with
   |.fn g a b=>match(a++args++b).all (znH zah) with
    |true=>zfi gs dst (.tup []) T fun T=>K T (.fn g (a++args++b)::dd)
    |false=>False
   |_=>False
  |_=>False
def zwZ:List SV->Bool
 |[]=>false
 |.cv x::r=>match x with
  |.yld _=>true
  |_=>zwZ r
 |_::r=>zwZ r
def zva(O:List SObj):List Nat->Bool
 |[]=>false
 |o::r=>match zbt O o with
  |.cells _ cs=>match zwZ cs with
   |true=>true
   |false=>zva O r
  |_=>zva O r
noncomputable def zum(c:DCfg)(l:Nat)(args:List SV)(T:List SV)(O:List SObj)(g:Gh)(K:SV->List SV->List SObj->Gh->Prop):Prop:=
 zmp 9 args T O fun args T O=>match args.all (zeg zah) with
  |true=>(l=c.yl/\g.st=false/\c.ys g.n=some args)/\K (.cv (.bool true)) T O ⟨g.n+1,false⟩/\K (.cv (.bool false)) T O ⟨g.n,true⟩
  |false=>False
noncomputable def znX(P:Program)(X:Ext)(c:DCfg)(f:FuncId)(args:List SV)(T:List SV)(O:List SObj)(g:Gh)(K:SV->List SV->List SObj->Gh->Prop):Prop:=
 zmp 9 args T O fun args T O=>match args.all (zeg zah) with
  |true=>∃(fa:Nat->List SV) (ys:Nat->Option (List SV)) (post:Gh->SV->Prop),DIter P X c.glb f fa ys post/\(fa c.yl=args/\g.st=false/\∀k vs,ys k=some vs->c.ys (g.n+k)=some vs)/\∀g' v,post g' v->K v T O ⟨g.n+g'.n,g'.st⟩
  |false=>zcV 60 O (args.flatMap (zaG zah)) [] fun rids=>zuU rids [] fun ids=>
   match zcu ids&&ids.all (fun i=>Nat.blt i (zcd O)) with
   |true=>zbq (ziz (fun n=>zes n ids 0) zah) args fun args=>zmW ids O ids fun objs=>
     ∃(fa:Nat->List SV) (ys:Nat->Option (List SV)) (post:Gh->SV->List SObj->Prop),DIterO P X c.glb f fa objs ys post/\(fa c.yl=args/\g.st=false/\∀k vs,ys k=some vs->c.ys (g.n+k)=some vs)/\∀g' v O',post g' v O' ->
      ziz (zbV ids (zcd O)) zah v fun v=>zbq (ziz (zdr ids O) zah) T fun T=>zbq (zp7 (zdr ids O)) O fun O1=>
       zcm (zbV ids (zcd O)) ids O' O1 fun rest O2=>zbq (zp7 (zbV ids (zcd O))) rest fun rest=>zeL O2 rest fun O3=>K v T O3 ⟨g.n+g'.n,g'.st⟩
   |false=>False
noncomputable def zuz(P:Program)(X:Ext)(c:DCfg)(cl:Call)(T:List SV)(O:List SObj)(g:Gh)(K:SV->List SV->List SObj->Gh->Prop)(other:Prop):Prop:=
 match cl.callee with
 |.value f=>zej c T cl.args.toList fun args=>zaU c T f fun f=>match f with
  |.cv x=>match x with
   |.yld l=>zum c l args T O g K
   |_=>False
  |.fn h a b=>match zwZ (a++args++b) with
   |true=>znX P X c h (a++args++b) T O g K
   |false=>match zva O ((a++args++b).flatMap (zaG zah)) with
    |true=>znX P X c h (a++args++b) T O g K
    |false=>other
  |_=>False
 |_=>other
noncomputable def zth(P:Program)(X:Ext)(c:DCfg)(gs:List Nat)(md:Md)(op:Op)(dst:Option Tmp)(T:List SV)(O:List SObj)(dd:List DDef)(g:Gh)(K:List SV->List SObj->List DDef->Gh->Prop):Prop:=
 match op with
 |.defer cl=>zqQ c md cl gs dst T dd fun T dd=>K T O dd g
 |.call cl=>match ylM md with
  |true=>zuz P X c cl T O g (fun v T O g=>zfi gs dst v T fun T=>K T O dd g) (dop P X c (.call cl) T O fun v T O=>zfi gs dst v T fun T=>K T O dd g)
  |false=>dop P X c (.call cl) T O fun v T O=>zfi gs dst v T fun T=>K T O dd g
 |op=>dop P X c op T O fun v T O=>zfi gs dst v T fun T=>K T O dd g
noncomputable def zq6(P:Program)(X:Ext)(c:DCfg)(gs:List Nat)(op:Op)(dst:Option Tmp)(T:List SV)(O:List SObj)(dd:List DDef)(g:Gh)(K:List SV->List SObj->List DDef->Gh->Prop)(KX:CV->List SV->List SObj->Prop):Prop:=
 match op with
 |.defer cl=>zqQ c .pf cl gs dst T dd fun T dd=>K T O dd g
 |.panic x=>zaU c T x fun v=>cvOfK zah v fun x=>match x with
  |.ifc a b=>KX (.ifc a b) T O
  |_=>False
 |.call cl=>match cl.callee with
  |.value f=>zej c T cl.args.toList fun args=>zaU c T f fun f=>match f with
   |.fn h a b=>match zaH h c.pans with
    |true=>zo4 P X c h (a++args++b) T O (fun v T O=>zfi gs dst v T fun T=>K T O dd g) KX
    |false=>dop P X c (.call cl) T O fun v T O=>zfi gs dst v T fun T=>K T O dd g
   |_=>False
  |_=>dop P X c (.call cl) T O fun v T O=>zfi gs dst v T fun T=>K T O dd g
 |op=>dop P X c op T O fun v T O=>zfi gs dst v T fun T=>K T O dd g
noncomputable def done(P:Program)(X:Ext)(c:DCfg)(gs:List Nat)(md:Md)(op:Op)(dst:Option Tmp)(T:List SV)(O:List SObj)(dd:List DDef)(g:Gh)(K:List SV->List SObj->List DDef->Gh->Prop)(KX:CV->List SV->List SObj->Prop):Prop:=
 match zxt md with
 |true=>zq6 P X c gs op dst T O dd g K KX
 |false=>zth P X c gs md op dst T O dd g K
noncomputable def zvZ(P:Program)(X:Ext)(c:DCfg)(gs:List Nat)(ops:List Oper)(md:Md):List Oper->DW
 |[],T,O,dd,g,K=>K .normal T O dd g
 |o::l,T,O,dd,g,K=>zfJ ops T o.guard
   (done P X c gs md o.op o.dst T O dd g (fun T O dd g=>zvZ P X c gs ops md l T O dd g K) fun x T O=>K (.panic x) T O dd g)
   (zfi gs o.dst (.tup []) T fun T=>zvZ P X c gs ops md l T O dd g K)
noncomputable def zpG(P:Program)(c:DCfg)(gs:List Nat)(ops:List Oper)(O:List SObj):List Oper->List SV->(List SV->Prop)->Prop
 |[],T,K=>K T
 |o::l,T,K=>zfJ ops T o.guard (ztt P c o.op T O fun v=>zfi gs o.dst v T fun T=>zpG P c gs ops O l T K)
   (zfi gs o.dst (.tup []) T fun T=>zpG P c gs ops O l T K)
noncomputable def zwX:List Oper->Bool
 |[]=>false
 |o::r=>match zcQ o.op with
  |true=>zwX r
  |false=>match isN o.op with
   |true=>zwX r
   |false=>true
def zqM:Op->Bool
 |.defer _=>false
 |_=>true
structure DRg where
 ws:List (Nat×List Nat×List Bool)
 ps:List (Nat×Option Nat)
 fs:List (Nat×Option (List Nat)×List Operand)
 tf:List SV
 o0:List SObj
def zmo:Nat->SV->Bool
 |_,.cv _=>true
 |d+1,.agg cs=>cs.all (zmo d)
 |d+1,.tup cs=>cs.all (zmo d)
 |_,_=>false
def zxp(v:SV)(k:SV->Prop):Prop:=match zeg zah v with
 |true=>k v
 |false=>k .junk
def imJ(v:SV):SV:=match zeg zah v with
 |true=>v
 |false=>.junk
theorem zuQ(v:SV)(k:SV->Prop):zxp v k=k (imJ v):=by unfold zxp imJ;split<;>rfl
def zpy:Op->Bool
 |.load _ _=>true
 |.move _=>true
 |.assign _=>true
 |.indexAddr _ _ _=>true
 |.fieldAddr _ _ _=>true
 |.slice _ _ _ _ _=>true
 |.field _ _ _=>true
 |.index _ _ _=>true
 |.extract _ _=>true
 |_=>false
def zs5(tf:List SV):List Operand->Bool
 |[]=>true
 |.tmp d::r=>match zdR tf d with
  |.junk=>false
  |_=>zs5 tf r
 |_::r=>zs5 tf r
def zxW:SV->Bool
 |.junk=>false
 |_=>true
def opV(tf:List SV):Operand->SV
 |.tmp d=>zdR tf d
 |_=>.junk
def zxf(tf:List SV)(o0:List SObj):Op->Bool
 |.load _ a=>match opV tf a with
  |.ptr o i=>match zbt o0 o with
   |.cells _ cs=>zxW (zdR cs i)
   |_=>false
  |.ipt cs i=>zxW (zdR cs i)
  |_=>false
 |.indexAddr _ x _=>match opV tf x with
  |.isl _ _ _=>true
  |.ipt _ _=>true
  |_=>false
 |.fieldAddr _ x _=>match opV tf x with
  |.ptr _ _=>true
  |.ipt _ _=>true
  |_=>false
 |.slice _ x _ _ _=>match opV tf x with
  |.isl _ _ _=>true
  |_=>false
 |_=>true
noncomputable def zsW(P:Program)(c:DCfg)(o:Oper)(tf:List SV)(o0:List SObj)(v:SV)(k:List SV->Prop):Prop:=match o.dst with
 |none=>k tf
 |some d=>match zmo zah v with
  |true=>zcI tf d v k
  |false=>match zpy o.op&&(zs5 tf (zaz o.op)&&zxf tf o0 o.op) with
   |true=>ztt P c o.op tf o0 fun w=>match zeg zah w with
    |true=>zcI tf d w k
    |false=>match w with
     |.ptr _ _=>zcI tf d w k
     |_=>zcI tf d .junk k
   |false=>zcI tf d .junk k
def tf1(O:List SObj)(v:SV):SV:=match zeg zah v with
 |true=>v
 |false=>match v with
  |.ptr o i=>match zbt O o with
   |.cells _ _=>.ptr o i
   |_=>.junk
  |_=>.junk
def zw6(O:List SObj)(v:SV)(k:SV->Prop):Prop:=match zeg zah v with
 |true=>k v
 |false=>match v with
  |.ptr o i=>match zbt O o with
   |.cells _ _=>k (.ptr o i)
   |_=>k .junk
  |_=>k .junk
theorem zvf(O:List SObj)(v:SV)(k:SV->Prop):zw6 O v k=k (tf1 O v):=by
 unfold zw6 tf1;split
 ·rfl
 ·split
  ·split<;>rfl
  ·rfl
def o1(so:SObj):SObj:=match so with
 |.cells ty cs=>.cells ty (cs.map imJ)
 |_=>.dead
def o1K(so:SObj)(k:SObj->Prop):Prop:=match so with
 |.cells ty cs=>zbq zxp cs fun cs=>k (.cells ty cs)
 |_=>k .dead
def tf2(L:List Nat)(v:SV):SV:=match zeg zah v with
 |true=>v
 |false=>match v with
  |.ptr o i=>match zaH o L with
   |true=>.junk
   |false=>.ptr o i
  |_=>.junk
def zxU(L:List Nat)(v:SV)(k:SV->Prop):Prop:=match zeg zah v with
 |true=>k v
 |false=>match v with
  |.ptr o i=>match zaH o L with
   |true=>k .junk
   |false=>k (.ptr o i)
  |_=>k .junk
theorem zvN(L:List Nat)(v:SV)(k:SV->Prop):zxU L v k=k (tf2 L v):=by
 unfold zxU tf2;split
 ·rfl
 ·split
  ·split<;>rfl
  ·rfl
def o2(L:List Nat):Nat->List SObj->List SObj
 |_,[]=>[]
 |i,so::r=>(match zaH i L with
  |true=>.dead
  |false=>o1 so)::o2 L (i+1) r
def o2K(L:List Nat):Nat->List SObj->(List SObj->Prop)->Prop
 |_,[],k=>k []
 |i,so::r,k=>match zaH i L with
  |true=>o2K L (Nat.succ i) r fun r=>k (.dead::r)
  |false=>o1K so fun so=>o2K L (Nat.succ i) r fun r=>k (so::r)
def zkR:SV->List Nat
 |.ptr o _=>[o]
 |.ept o _ _ _=>[o]
 |.lst o=>[o]
 |.sub o _ _ _=>[o]
 |.map o=>[o]
 |_=>[]
def zdd(T:List SV):List Operand->List Nat
 |[]=>[]
 |.tmp d::r=>zkR (zdR T d)++zdd T r
 |_::r=>zdd T r
def zoz(T:List SV):List Operand->List Nat
 |[]=>[]
 |.tmp d::r=>zaG zah (zdR T d)++zoz T r
 |_::r=>zoz T r
def leB:List Bool->List Bool->Bool
 |[],_=>true
 |x::a,[]=>match x with
  |true=>false
  |false=>leB a []
 |x::a,y::b=>match x with
  |true=>match y with
   |true=>leB a b
   |false=>false
  |false=>leB a b
def zw8(a b:List Nat):Bool:=a.all fun i=>match zaH i b with
 |true=>false
 |false=>true
def ztP(O:List SObj)(p:Nat):Bool:=match zbt O p with
 |.dead=>true
 |_=>false
def zuc(O:List SObj)(b:List Bool)(L:List Nat):List (Nat×Option Nat)->Bool
 |[]=>true
 |(j,p)::r=>match zfG b j with
  |true=>zuc O b L r
  |false=>match p with
   |none=>false
   |some p=>match ztP O p with
    |true=>false
    |false=>match zaH p L with
     |true=>false
     |false=>zuc O b L r
def zw3(b:List Bool):List (Nat×List Nat×List Bool)->Bool
 |[]=>true
 |(w,_,mb)::r=>match zfG b w&&leB mb b with
  |true=>zw3 b r
  |false=>false
def zwx(b:List Bool)(L:List Nat):List (Nat×Option (List Nat)×List Operand)->Bool
 |[]=>true
 |(q,x,_)::r=>match zfG b q with
  |true=>zwx b L r
  |false=>match x with
   |none=>false
   |some l=>match zw8 l L with
    |true=>zwx b L r
    |false=>false
def zmQ(L:List Nat):List (Nat×Option (List Nat)×List Operand)->List (Nat×Option (List Nat)×List Operand)
 |[]=>[]
 |(q,x,us)::r=>match x with
  |none=>(q,none,us)::zmQ L r
  |some l=>match zw8 l L with
   |true=>(q,some l,us)::zmQ L r
   |false=>(q,none,us)::zmQ L r
def zeo(O:List SObj):List (Nat×Option (List Nat)×List Operand)->List (Nat×Option (List Nat)×List Operand)
 |[]=>[]
 |(q,x,us)::r=>match x with
  |none=>(q,none,us)::zeo O r
  |some l=>match l.all fun o => !ztP O o with
   |true=>(q,some l,us)::zeo O r
   |false=>(q,none,us)::zeo O r
def zwv(n0:Nat)(ws:List (Nat×List Nat×List Bool))(l:List Nat):Bool:=(l.all fun o=>Nat.blt o n0)&&ws.all fun w=>zw8 l w.2.1
def zoC(d:Nat):Operand->Bool
 |.tmp u=>match Nat.beq u d with
  |true=>false
  |false=>true
 |_=>true
def znG(d:Option Tmp)(fs:List (Nat×Option (List Nat)×List Operand)):Bool:=match d with
 |none=>true
 |some d=>fs.all fun f=>match f.2.1 with
  |none=>true
  |some _=>f.2.2.all (zoC d)
def zgI(T:List SV):List Operand->Bool
 |[]=>true
 |.tmp d::r=>match zdR T d with
  |.cv _=>zgI T r
  |.ptr _ _=>zgI T r
  |.map _=>zgI T r
  |.agg _=>zgI T r
  |.tup _=>zgI T r
  |_=>false
 |.global _::_=>false
 |_::r=>zgI T r
def zqD(b:List Bool):List (Nat×List Nat×List Bool)->Bool
 |[]=>true
 |(w,_,_)::r=>match zfG b w with
  |true=>zqD b r
  |false=>false
def noJ:Nat->SV->Bool
 |_,.junk=>false
 |d+1,.agg cs=>cs.all (noJ d)
 |d+1,.tup cs=>cs.all (noJ d)
 |d+1,.fn _ a b=>a.all (noJ d)&&b.all (noJ d)
 |d+1,.ifc _ v=>noJ d v
 |0,.agg _=>false
 |0,.tup _=>false
 |0,.fn _ _ _=>false
 |0,.ifc _ _=>false
 |_,_=>true
def stV(f:Nat->Bool):Nat->SV->Bool
 |_,.ptr o _=>f o
 |_,.ept o _ _ _=>f o
 |_,.lst o=>f o
 |_,.sub o _ _ _=>f o
 |_,.map o=>f o
 |d+1,.agg cs=>cs.all (stV f d)
 |d+1,.tup cs=>cs.all (stV f d)
 |d+1,.fn _ a b=>a.all (stV f d)&&b.all (stV f d)
 |d+1,.ifc _ v=>stV f d v
 |0,.agg _=>false
 |0,.tup _=>false
 |0,.fn _ _ _=>false
 |0,.ifc _ _=>false
 |_,_=>true
def zx6:SObj->Bool
 |.cells _ _=>true
 |.map _ _ _=>true
 |_=>false
def zvU:Op->Bool
 |.store _ _ _=>true
 |_=>false
def zww:SObj->Bool
 |.dead=>false
 |_=>true
def zih(q:Bool)(L:List Nat)(O O':List SObj)(i:Nat):Bool:=match zaH i L with
 |false=>true
 |true=>match zx6 (zbt O i) with
  |true=>true
  |false=>match q with
   |false=>false
   |true=>zww (zbt O' i)
def zi4(L:List Nat):Nat->List SObj->(List SObj->Prop)->Prop
 |_,[],k=>k []
 |i,so::r,k=>match zaH i L with
  |true=>match so with
   |.cells ty cs=>zbq (rsK L zah) cs fun cs=>zi4 L (Nat.succ i) r fun r=>k (.cells ty cs::r)
   |so=>zi4 L (Nat.succ i) r fun r=>k (so::r)
  |false=>zi4 L (Nat.succ i) r fun r=>k (.dead::r)
def stC(f:Nat->Bool)(v:SV):SV:=match stV f zah v with
 |true=>v
 |false=>.junk
def zxg(f:Nat->Bool)(v:SV)(k:SV->Prop):Prop:=match stV f zah v with
 |true=>k v
 |false=>k .junk
def stO(f:Nat->Bool):SObj->SObj
 |.cells ty cs=>.cells ty (cs.map (stC f))
 |so=>so
def zxi(f:Nat->Bool)(so:SObj)(k:SObj->Prop):Prop:=match so with
 |.cells ty cs=>zbq (zxg f) cs fun cs=>k (.cells ty cs)
 |so=>k so
def zhS(f:Nat->Bool):List SV->List SV->(List SV->Prop)->Prop
 |[],_,k=>k []
 |_::_,[],_=>False
 |v::r,w::s,k=>match stV f zah v with
  |true=>zhS f r s fun l=>k (v::l)
  |false=>zhS f r s fun l=>k (w::l)
def zhu(f:Nat->Bool)(L:List Nat):Nat->List SObj->List SObj->(List SObj->Prop)->Prop
 |_,[],s,k=>k s
 |_,_::_,[],_=>False
 |i,so::r,s0::s,k=>match zaH i L with
  |true=>zhu f L (Nat.succ i) r s fun l=>k (s0::l)
  |false=>match s0 with
   |.dead=>zxi f so fun so=>zhu f L (Nat.succ i) r s fun l=>k (so::l)
   |_=>False
def zev:Op->Bool
 |.call cl=>match cl.callee with
  |.value _=>true
  |_=>false
 |_=>false
def zqA(b:List Bool):List (Nat×Option Nat)->List (Nat×Option Nat)
 |[]=>[]
 |(j,p)::r=>match zfG b j with
  |true=>zqA b r
  |false=>(j,p)::zqA b r
def zi0(L:List Nat):List (Nat×Option Nat)->List (Nat×Option Nat)
 |[]=>[]
 |(j,p)::r=>match p with
  |none=>(j,none)::zi0 L r
  |some o=>match zaH o L with
   |true=>(j,none)::zi0 L r
   |false=>(j,some o)::zi0 L r
def psW(b:List Bool)(L:List Nat)(op:Op)(ps:List (Nat×Option Nat)):List (Nat×Option Nat):=match zev op with
 |true=>zqA b ps
 |false=>zi0 L ps
def zwY:List Nat->(List Nat->Prop)->Prop
 |[],k=>k []
 |x::r,k=>zwY r fun r=>k (x::r)
theorem zqx:∀(l:List Nat) (k:List Nat->Prop),zwY l k=k l
 |[],k=>rfl
 |x::r,k=>by rw[zwY,zqx r]
def zvI:List (Nat×Option (List Nat)×List Operand)->(List (Nat×Option (List Nat)×List Operand)->Prop)->Prop
 |[],k=>k []
 |(q,x,us)::r,k=>match x with
  |none=>zvI r fun r=>k ((q,none,us)::r)
  |some l=>zwY l fun l=>zvI r fun r=>k ((q,some l,us)::r)
theorem znC:∀(l:List (Nat×Option (List Nat)×List Operand)) (k:List (Nat×Option (List Nat)×List Operand)->Prop),zvI l k=k l
 |[],k=>rfl
 |(q,none,us)::r,k=>by rw[zvI,znC r]
 |(q,some l,us)::r,k=>by rw[zvI,zqx,znC r]
def zuW:List (Nat×Option Nat)->(List (Nat×Option Nat)->Prop)->Prop
 |[],k=>k []
 |(j,p)::r,k=>match p with
  |none=>zuW r fun r=>k ((j,none)::r)
  |some o=>zuW r fun r=>k ((j,some o)::r)
theorem zm3:∀(l:List (Nat×Option Nat)) (k:List (Nat×Option Nat)->Prop),zuW l k=k l
 |[],k=>rfl
 |(j,none)::r,k=>by rw[zuW,zm3 r]
 |(j,some o)::r,k=>by rw[zuW,zm3 r]
def zt3(D:DRg)(f:List (Nat×List Nat×List Bool)->List (Nat×Option Nat)->List (Nat×Option (List Nat)×List Operand)->List SV->List SObj->Prop):Prop:=match D with
 |⟨ws,ps,fs,tf,o0⟩=>zuW ps fun ps=>zvI fs fun fs=>f ws ps fs tf o0
theorem zf7(D:DRg)(f:List (Nat×List Nat×List Bool)->List (Nat×Option Nat)->List (Nat×Option (List Nat)×List Operand)->List SV->List SObj->Prop):zt3 D f=f D.ws D.ps D.fs D.tf D.o0:=by
 cases D;show(zuW _ fun ps=>zvI _ fun fs=>f _ ps fs _ _)=_;rw[zm3,znC]
noncomputable def zsJ(P:Program)(X:Ext)(c:DCfg)(gs:List Nat)(o:Oper)(i:Nat)(D:DRg)(T:List SV)(O:List SObj)(k:DRg->List SV->List SObj->Prop):Prop:=
 zt3 D fun ws ps fs tf0 o0=>dop P X c o.op T O fun v T O=>zsW P c o tf0 o0 v fun tf=>zfi gs o.dst v T fun T=>match zu7 o.op with
  |true=>k ⟨ws,(i,none)::ps,zeo O fs,tf,o0⟩ T O
  |false=>zwb (Nat.pred (zcd O)) fun n=>k ⟨ws,(i,some n)::ps,zeo O fs,tf,o0⟩ T O
noncomputable def zq3(o:Oper):Bool:=match o.dst with
 |none=>true
 |some d=>(zaz o.op).all (zoC d)
noncomputable def znQ(P:Program)(c:DCfg)(gs:List Nat)(n0:Nat)(o:Oper)(i:Nat)(b:List Bool)(D:DRg)(T:List SV)(O:List SObj)(k:DRg->List SV->Prop):Prop:=
 zt3 D fun ws ps fs tf0 o0=>
 match zuc O b (zdd T (zaz o.op)) ps||zs5 tf0 (zaz o.op) with
 |false=>False
 |true=>match(zqD b ws||(zwv n0 ws (zdd T (zaz o.op))&&zgI T (zaz o.op)))||zs5 tf0 (zaz o.op) with
  |false=>False
  |true=>ztt P c o.op T O fun v=>match noJ zah v with
   |false=>False
   |true=>zsW P c o tf0 o0 v fun tf=>zfi gs o.dst v T fun T'=>match zwv n0 ws (zdd T (zaz o.op))&&zq3 o with
    |true=>k ⟨ws,ps,(i,some (zdd T (zaz o.op)),zaz o.op)::fs,tf,o0⟩ T'
    |false=>k ⟨ws,ps,(i,none,[])::fs,tf,o0⟩ T'
noncomputable def zhK(P:Program)(X:Ext)(c:DCfg)(gs:List Nat)(o:Oper)(i:Nat)(b:List Bool)(D:DRg)(T:List SV)(O:List SObj)(k:DRg->List SV->List SObj->Prop)(L:List Nat):Prop:=
 zt3 D fun ws ps fs tf0 o0=>
 match zuc O b L ps&&(zw3 b ws&&zwx b L fs) with
  |false=>False
  |true=>zbq (rsK L zah) T fun T1=>zi4 L 0 O fun O1=>dop P X c o.op T1 O1 fun v T2 O2=>zsW P c o tf0 o0 v fun tf=>
    zhS (zih (zvU o.op) L O O2) T T2 fun T3=>zhu (zih (zvU o.op) L O O2) L 0 O O2 fun O3=>o2K L 0 o0 fun o0=>zbq (zxU L) tf fun tf=>zfi gs o.dst v T3 fun T4=>
     k ⟨(i,L,b)::ws,psW b L o.op ps,(i,none,[])::zmQ L fs,tf,o0⟩ T4 O3
noncomputable def zeH(P:Program)(X:Ext)(c:DCfg)(gs:List Nat)(o:Oper)(i:Nat)(b:List Bool)(D:DRg)(T:List SV)(O:List SObj)(k:DRg->List SV->List SObj->Prop):Prop:=
 zcV 60 O (zoz T (zaz o.op)) [] fun L=>zhK P X c gs o i b D T O k L
theorem ziN{P:Program}{X:Ext}{c:DCfg}{gs:List Nat}{o:Oper}{i:Nat}{b:List Bool}{D:DRg}{T:List SV}{O:List SObj}{k:DRg->List SV->List SObj->Prop}(h:zeH P X c gs o i b D T O k):∃L,zhK P X c gs o i b D T O k L:=by
 unfold zeH at h;obtain⟨L,hL⟩:=ze9 60 O (zoz T (zaz o.op)) [] (fun L=>zhK P X c gs o i b D T O k L);rw[hL]at h;exact⟨L,h⟩
structure Alt(a b:Prop):Prop where
 or:a\/b
noncomputable def zky(P:Program)(X:Ext)(c:DCfg)(gs:List Nat)(ops:List Oper)(n0 z:Nat):List Oper->List (List Bool)->Nat->DRg->List SV->List SObj->(List SV->Prop)->Prop
 |[],_,_,_,T,_,K=>K T
 |_::_,[],_,_,_,_,_=>False
 |o::l,b::bs,i,D,T,O,K=>match zfG b z with
  |true=>zky P X c gs ops n0 z l bs (Nat.succ i) D T O K
  |false=>match Nat.ble (zcd b) i&&znG o.dst D.fs with
   |false=>False
   |true=>zfJ ops T o.guard
    (match zb8 P o.op with
     |true=>zsJ P X c gs o i D T O fun D T O=>zky P X c gs ops n0 z l bs (Nat.succ i) D T O K
     |false=>match zcQ o.op with
      |true=>zt3 D fun ws ps fs tf0 o0=>ztt P c o.op T O fun v=>zsW P c o tf0 o0 v fun tf=>zfi gs o.dst v T fun T=>zky P X c gs ops n0 z l bs (Nat.succ i) ⟨ws,ps,fs,tf,o0⟩ T O K
      |false=>match isN o.op with
       |true=>znQ P c gs n0 o i b D T O fun D T=>zky P X c gs ops n0 z l bs (Nat.succ i) D T O K
       |false=>False)
    (zt3 D fun ws ps fs tf0 o0=>zsW P c o tf0 o0 (.tup []) fun tf=>zfi gs o.dst (.tup []) T fun T=>zky P X c gs ops n0 z l bs (Nat.succ i) ⟨ws,ps,fs,tf,o0⟩ T O K)
def zw7:List SV->(List SV->Prop)->Prop
 |[],k=>k []
 |_::r,k=>zw7 r fun l=>k (.junk::l)
theorem zso:∀(l:List SV) (k:List SV->Prop),zw7 l k=k (l.map fun _=>.junk)
 |[],_=>rfl
 |_::r,k=>by rw[zw7,zso r];rfl
noncomputable def zu1(c:DCfg)(op:Op)(T:List SV)(yes:FuncId->List SV->Prop)(no:Prop):Prop:=match op with
 |.call cl=>match cl.callee with
  |.value f=>zej c T cl.args.toList fun args=>zaU c T f fun f=>match f with
   |.fn h a b=>match zaH h c.pans with
    |true=>yes h (a++args++b)
    |false=>no
   |_=>no
  |_=>no
 |_=>no
noncomputable def zfV(P:Program)(X:Ext)(c:DCfg)(gs:List Nat)(ops:List Oper)(n0:Nat):List Oper->List (List Bool)->Nat->DRg->List SV->List SObj->(List SV->List SObj->Prop)->(CV->List SV->List SObj->Prop)->Prop
 |[],_,_,_,T,O,K,_=>K T O
 |_::_,[],_,_,_,_,_,_=>False
 |o::l,b::bs,i,D,T,O,K,KX=>match Nat.ble (zcd b) i&&znG o.dst D.fs with
  |false=>False
  |true=>zfJ ops T o.guard
   (match zb8 P o.op with
    |true=>zsJ P X c gs o i D T O fun D T O=>zfV P X c gs ops n0 l bs (Nat.succ i) D T O K KX
    |false=>match zcQ o.op with
     |true=>zt3 D fun ws ps fs tf0 o0=>ztt P c o.op T O fun v=>zsW P c o tf0 o0 v fun tf=>zfi gs o.dst v T fun T=>zfV P X c gs ops n0 l bs (Nat.succ i) ⟨ws,ps,fs,tf,o0⟩ T O K KX
     |false=>match isN o.op with
      |true=>znQ P c gs n0 o i b D T O fun D T=>zfV P X c gs ops n0 l bs (Nat.succ i) D T O K KX
      |false=>match zqM o.op with
       |true=>match c.pans with
        |[]=>zeH P X c gs o i b D T O fun D T O=>zfV P X c gs ops n0 l bs (Nat.succ i) D T O K KX
        |_::_=>zu1 c o.op T
         (fun h args=>Alt (zeH P X c gs o i b D T O fun D T O=>zfV P X c gs ops n0 l bs (Nat.succ i) D T O K KX)
          (match D.ws,D.ps with
           |[],[]=>zo4 P X c h args T O (fun _ _ _=>False) fun x _ O1=>zky P X c gs ops n0 i l bs (Nat.succ i) D T O fun T1=>zw7 T1 fun T1=>KX x T1 O1
           |_,_=>False))
         (zeH P X c gs o i b D T O fun D T O=>zfV P X c gs ops n0 l bs (Nat.succ i) D T O K KX)
       |false=>False)
   (zt3 D fun ws ps fs tf0 o0=>zsW P c o tf0 o0 (.tup []) fun tf=>zfi gs o.dst (.tup []) T fun T=>zfV P X c gs ops n0 l bs (Nat.succ i) ⟨ws,ps,fs,tf,o0⟩ T O K KX)
def zmr:Nat->SV->Bool
 |_,.lst _=>false
 |_,.ept _ _ _ _=>false
 |d+1,.agg cs=>cs.all (zmr d)
 |d+1,.tup cs=>cs.all (zmr d)
 |d+1,.fn _ a b=>a.all (zmr d)&&b.all (zmr d)
 |d+1,.ifc _ v=>zmr d v
 |0,.agg _=>false
 |0,.tup _=>false
 |0,.fn _ _ _=>false
 |0,.ifc _ _=>false
 |_,_=>true
def zse(v:SV)(k:SV->Prop):Prop:=match zmr zah v with
 |true=>k v
 |false=>k .junk
def ztC(v:SV):SV:=match zmr zah v with
 |true=>v
 |false=>.junk
theorem zqu(v:SV)(k:SV->Prop):zse v k=k (ztC v):=by unfold zse ztC;split<;>rfl
def zsq:List SV->List Nat->(List SV->Prop)->Prop
 |T,[],k=>k T
 |T,i::r,k=>zcI T i .junk fun T=>zsq T r k
def junks(T:List SV)(l:List Nat):List SV:=l.foldl (fun T i=>T.set i .junk) T
theorem zkC:∀(l:List Nat) (T:List SV) (k:List SV->Prop),zsq T l k=k (junks T l)
 |[],_,_=>rfl
 |i::r,T,k=>by rw[zsq,zav,zkC r];rfl
def zoD(T:List SV):List Nat->(List SV->Prop)->Prop
 |[],k=>k []
 |s::ss,k=>knK (zdR T s) fun v=>zoD T ss fun vs=>k (v::vs)
def zeW:List SV->List Nat->List SV->(List SV->Prop)->Prop
 |T,[],[],k=>k T
 |T,s::ss,v::vs,k=>zfM T s v fun T=>zeW T ss vs k
 |_,_,_,_=>False
def zb0:List DDef->List Nat
 |[]=>[]
 |.fn _ args::r=>args.flatMap (zaG zah)++zb0 r
def zhy:Nat->List Nat->Bool
 |0,_=>true
 |n+1,L=>match zaH n L with
  |true=>zhy n L
  |false=>false
def zxn(l L:List Nat):Bool:=l.all fun i=>zaH i L
def zq4(np:Nat)(ms ss:List Nat)(dd:List DDef)(T:List SV)(O:List SObj)(k:List SV->List SV->List SObj->Prop):Prop:=
 zoD T ss fun vs=>zsq T ms fun T=>zsq T ss fun T=>zbq zse T fun T=>
  zcV 60 O (List.range np++(zb0 dd++(vs.flatMap (zaG zah)++T.flatMap (zaG zah)))) [] fun L=>match zhy np L&&zxn (zb0 dd) L with
   |true=>zbq (rsK L zah) T fun T=>zbq (rsK L zah) vs fun vs=>ze7 L 0 O fun O=>k T vs O
   |false=>False
def zxC(f:DW)(K:DKK):DKK:=fun x T O dd g=>match x with
 |.normal=>f T O dd g K
 |x=>K x T O dd g
def zmM(id:Nat)(K:DKK):DKK:=fun x T O dd g=>match x with
 |.exit i=>match Nat.beq i id with
  |true=>K .normal T O dd g
  |false=>K (.exit i) T O dd g
 |x=>K x T O dd g
def zrX(K:DKK):DKK:=fun x T O dd g=>match x with
 |.goto _=>False
 |x=>K x T O dd g
def zv5(np:Nat)(ms ss:List Nat)(dd0:List DDef)(J:List SV->List SV->List SObj->Gh->Prop)(K:DKK):DKK:=fun x T O dd g=>match x with
 |.normal=>dd=dd0/\zq4 np ms ss dd T O fun T vs O=>J T vs O g
 |x=>K x T O dd g
def zxk(c:DCfg)(np:Nat)(a b:Code)(fa fb:DW):DW:=fun T O dd g K=>match zwJ c.cut (zbd b) with
 |none=>fa T O dd g (zxC fb K)
 |some ss=>∃J:List SV->List SV->List SObj->Gh->Prop,fa T O dd g (zv5 np (zgK a []) ss dd J K)/\∀T0 vs O' g',J T0 vs O' g'->zeW T0 ss vs fun T=>fb T O' dd g' K
def zty(x:Operand)(b:Bool)(T:List SV)(K:List SV->Prop):Prop:=match x with
 |.tmp d=>zfM T d (.cv (.bool b)) K
 |_=>K T
noncomputable def zvs(c:DCfg)(x:Operand)(fa fb:DW):DW:=fun T O dd g K=>zaU c T x fun v=>match v with
 |.cv (.bool b)=>zhz b (zty x true T fun T=>fa T O dd g K) (zty x false T fun T=>fb T O dd g K)
 |_=>False
def zwc(np:Nat)(ms ss:List Nat)(dd0:List DDef)(T0:List SV)(J:List SV->List SObj->Gh->Prop)(lt:List SV->List SObj->Prop)(K:DKK):DKK:=fun x T O dd g=>match x with
 |.normal=>dd=dd0/\zq4 np ms ss dd T O fun T vs O=>T=T0/\J vs O g/\lt vs O
 |x=>K x T O dd g
def zlj:List (DPlc×TypeId×Nat)->List SV->List SObj->(List SV->List SObj->Prop)->Prop
 |[],T,O,k=>k T O
 |(.slot s,ty,sz)::r,T,O,k=>match zdR T s with
  |.cv x=>match x with
   |.nils=>zpi O (.list ty sz 0 fun _=>[]) fun n O=>zfM T s (.lst n) fun T=>zlj r T O k
   |_=>False
  |.lst _=>zlj r T O k
  |_=>False
 |(.cell o off,ty,sz)::r,T,O,k=>match zbt O o with
  |.cells ty' cs=>match zdR cs off with
   |.cv x=>match x with
    |.nils=>zfM cs off (.lst (zcd O)) fun cs=>zcI O o (.cells ty' cs) fun O1=>zrL O1 (.list ty sz 0 fun _=>[]) fun O2=>zlj r T O2 k
    |_=>False
   |.lst _=>zlj r T O k
   |_=>False
  |_=>False
def zwM(l:List (Nat×List (DPlc×TypeId×Nat)))(x:Option Nat):List (DPlc×TypeId×Nat):=
 match l with
 |[]=>[]
 |p::l=>match x with
  |some r=>match List.lookup r (p::l) with
   |some v=>v
   |none=>[]
  |none=>[]
def zvA(c:DCfg)(np:Nat)(b:Code)(fb:DW):DW:=fun T O dd g K=>match zwJ c.ann (zbd b) with
 |none=>False
 |some ss=>zlj (zwM c.nils (zbd b)) T O fun T O=>zq4 np (zgK b []) ss dd T O fun T0 vs O=>∃(J:List SV->List SObj->Gh->Prop) (μ : List SV->List SObj->Nat),J vs O g /\
   ∀vs' O' g',J vs' O' g'->zeW T0 ss vs' fun T=>fb T O' dd g' (zwc np (zgK b []) ss dd T0 J (fun vs2 O2 => μ vs2 O2 < μ vs' O') K)
def zlN(v:SV)(k:SV->Prop):Prop:=match znH zah v with
 |true=>k v
 |false=>k .junk
def dropP(v:SV):SV:=match znH zah v with
 |true=>v
 |false=>.junk
theorem zhb(v:SV)(k:SV->Prop):zlN v k=k (dropP v):=by unfold zlN dropP;split<;>rfl
def zv3(np:Nat)(T:List SV)(dd:List DDef)(O:List SObj)(k:List SObj->Prop):Prop:=
 zcV 60 O (List.range np++(zb0 dd++T.flatMap (zaG zah))) [] fun L=>match zhy np L&&zxn (zb0 dd++T.flatMap (zaG zah)) L with
  |true=>ze7 L 0 O k
  |false=>False
def zmV(ids:List Nat)(v:SV)(k:SV->Prop):Prop:=match(zaG zah v).all fun i => !zaH i ids with
 |true=>k v
 |false=>k .junk
def dropId(ids:List Nat)(v:SV):SV:=match(zaG zah v).all fun i => !zaH i ids with
 |true=>v
 |false=>.junk
theorem zpV(ids:List Nat)(v:SV)(k:SV->Prop):zmV ids v k=k (dropId ids v):=by unfold zmV dropId;split<;>rfl
def zrf(ids:List Nat):List Nat->(List Nat->Prop)->Prop
 |[],k=>k []
 |i::r,k=>match zaH i ids with
  |true=>zrf ids r k
  |false=>zrf ids r fun l=>k (i::l)
theorem zjJ{ids:List Nat}:∀{l:List Nat} {k:List Nat->Prop},zrf ids l k->∃l',k l'/\∀i∈l',zaH i ids=false
 |[],k,h=>⟨[],h,fun i hi=>by cases hi⟩
 |i::r,k,h=>by
  unfold zrf at h;split at h
  ·exact zjJ h
  ·rename_i hm;obtain⟨l',h1,h2⟩:=zjJ h;exact⟨_,h1,fun j hj=>by
    rcases List.mem_cons.1 hj with rfl |hj
    ·exact hm
    ·exact h2 j hj⟩
def zxL(np:Nat)(ids:List Nat)(T:List SV)(dd:List DDef)(O:List SObj)(k:List SObj->Prop):Prop:=
 zcV 60 O (List.range np++(zb0 dd++T.flatMap (zaG zah))) [] fun L0=>zrf ids L0 fun L=>match zhy np L&&zxn (zb0 dd++T.flatMap (zaG zah)) L with
  |true=>ze7 L 0 O k
  |false=>False
def zl7:List Tmp->List SV->List SV->(List SV->Prop)->Prop
 |[],[],T,k=>k T
 |p::ps,v::vs,T,k=>zfM T p v fun T=>zl7 ps vs T k
 |_,_,_,_=>False
def zrg(f:DW)(K:DKK):DKK:=fun x T O dd g=>match x with
 |.normal=>match dd with
  |[]=>f T O [] g K
  |_=>False
 |_=>False
def zjC(np:Nat)(T0:List SV)(dd0:List DDef)(g0:Gh)(J:List SObj->Prop)(K:DKK):DKK:=fun x T O dd g=>match x with
 |.normal=>zv3 np T0 dd0 O J
 |.ret=>K .ret T0 O dd0 g0
 |.exit i=>K (.exit i) T0 O dd0 g0
 |_=>False
def zxG(np:Nat)(O:List SObj):SV->Bool
 |.lst o=>match Nat.ble np o with
  |true=>match zbt O o with
   |.list _ _ _ _=>O.all fun so=>match so with
    |.cells _ cs => !zaH o (cs.flatMap (zaG zah))
    |_=>true
   |_=>false
  |false=>false
 |_=>false
def zpZ(np:Nat)(O:List SObj):List SV->List SV->(List SV->Prop)->Prop
 |[],acc,k=>k acc
 |v::r,acc,k=>match zxG np O v with
  |true=>zpZ np O r (v::acc) k
  |false=>zpZ np O r acc k
theorem zgU{np:Nat}{O:List SObj}:∀{T acc:List SV} {k:List SV->Prop},zpZ np O T acc k->∃L,k L/\∀v∈L,v∈acc\/v∈T
 |[],acc,k,h=>⟨acc,h,fun v hv=>.inl hv⟩
 |v::r,acc,k,h=>by
  unfold zpZ at h;split at h
  ·obtain⟨L,h1,h2⟩:=zgU h;refine⟨L,h1,fun w hw=>?_⟩;rcases h2 w hw with h3 |h3
   ·rcases List.mem_cons.1 h3 with rfl |h3
    ·exact .inr ya5
    ·exact .inl h3
   ·exact .inr (ya4 _ h3)
  ·obtain⟨L,h1,h2⟩:=zgU h;exact⟨L,h1,fun w hw=>(h2 w hw).imp id (ya4 _)⟩
noncomputable def zqj(P:Program)(X:Ext)(c:DCfg)(np:Nat)(gf:Operand)(ps:List Tmp)(fa fb:Nat->DW):DW:=fun T O dd g K=>
 zaU c T gf fun v=>zpZ np O T [] fun L=>zmp 30 (v::L) T O fun l T O=>match l with
  |v::_=>match v with
   |.fn f a b=>match a.all (zeg zah)&&b.all (zeg zah) with
    |true=>zbq zlN T fun T0=>zv3 np T0 dd O fun O0=>∃(ys:Nat->Option (List SV)) (post:Gh->SV->Prop),DIter P X c.glb f (fun l=>a++[.cv (.yld l)]++b) ys post /\
      ∃J:Nat->List SObj->Prop,J 0 O0 /\
       (∀n O' vs,J n O'->ys n=some vs->zl7 ps vs T0 fun T1=>fa (zcd O0) T1 O' [] g (zrg (fb (zcd O0)) (zjC np T0 dd g (J (n+1)) K))) /\
       ∀n O' v,J n O'->post ⟨n,false⟩ v->K .normal T0 O' dd g
    |false=>zcV 60 O ((a++b).flatMap (zaG zah)) [] fun rids=>zuU rids [] fun ids=>
     match zcu ids&&ids.all (fun i=>Nat.blt i (zcd O)) with
     |true=>zbq (ziz (fun n=>zes n ids 0) zah) a fun a=>zbq (ziz (fun n=>zes n ids 0) zah) b fun b=>zmW ids O ids fun objs=>
      zbq zlN T fun T0=>zbq (zmV ids) T0 fun T0=>zxL np ids T0 dd O fun O0=>∃(ys:Nat->Option (List SV)) (post:Gh->SV->List SObj->Prop),DIterO P X c.glb f (fun l=>a++[.cv (.yld l)]++b) objs ys post /\
       ∃J:Nat->List SObj->Prop,J 0 O0 /\
        (∀n O' vs,J n O'->ys n=some vs->zl7 ps vs T0 fun T1=>fa (zcd O0) T1 O' [] g (zrg (fb (zcd O0)) (zjC np T0 dd g (J (n+1)) K))) /\
        ∀n O' v Oz,J n O'->post ⟨n,false⟩ v Oz->K .normal T0 O' dd g
     |false=>False
   |_=>False
  |_=>False
def znc(np:Nat)(T0:List SV)(dd0:List DDef)(J:List SObj->Gh->Prop)(K:DKK):DKK:=fun x T O dd g=>match x with
 |.normal=>zv3 np T0 dd0 O fun O=>J O g
 |.ret=>K .ret T0 O dd0 g
 |.exit i=>K (.exit i) T0 O dd0 g
 |_=>False
noncomputable def zjE(P:Program)(X:Ext)(c:DCfg)(np:Nat)(gf:Operand)(ps:List Tmp)(fa fb:Nat->DW):DW:=fun T O dd g K=>
 zaU c T gf fun v=>zpZ np O T [] fun L=>zmp 30 (v::L) T O fun l T O=>match l with
  |v::_=>match v with
   |.fn f a b=>match a.all (zeg zah)&&b.all (zeg zah) with
    |true=>zbq zlN T fun T0=>zv3 np T0 dd O fun O0=>∃(ys:Nat->Option (List SV)) (post:Gh->SV->Prop),DIter P X c.glb f (fun l=>a++[.cv (.yld l)]++b) ys post /\
      ∃J:Nat->List SObj->Gh->Prop,J 0 O0 g /\
       (∀n O' g' vs,J n O' g'->ys n=some vs->zl7 ps vs T0 fun T1=>fa (zcd O0) T1 O' [] g' (zrg (fb (zcd O0)) (znc np T0 dd (J (n+1)) K))) /\
       ∀n O' g' v,J n O' g'->post ⟨n,false⟩ v->K .normal T0 O' dd g'
    |false=>False
   |_=>False
  |_=>False
noncomputable def dwp(P:Program)(X:Ext)(c:DCfg):Code->Nat->Md->DW
 |.skip,_,_,T,O,dd,g,K=>K .normal T O dd g
 |.label _,_,_,T,O,dd,g,K=>K .normal T O dd g
 |.ret,_,_,T,O,dd,g,K=>K .ret T O dd g
 |.exit id,_,_,T,O,dd,g,K=>K (.exit id) T O dd g
 |.region _ ops draw,_,md,T,O,dd,g,K=>match draw with
  |false=>zvZ P X c (zsA ops.toList ops.toList) ops.toList md ops.toList T O dd g K
  |true=>match zwX ops.toList with
   |false=>ClosedB (zgJ ops.toList).isSome/\zpG P c (zsA ops.toList ops.toList) ops.toList O ops.toList T fun T=>K .normal T O dd g
   |true=>ClosedB (zgJ ops.toList).isSome/\zly ops.toList [] fun bs=>zbq (zw6 O) T fun tf=>zbq o1K O fun o0=>zfV P X c (zsA ops.toList ops.toList) ops.toList (zcd O) ops.toList bs 0 ⟨[],[],[],tf,o0⟩ T O (fun T O=>K .normal T O dd g) fun x T O=>match zxt md with
    |true=>K (.panic x) T O dd g
    |false=>False
 |.seq a b,np,md,T,O,dd,g,K=>zxk c np a b (dwp P X c a np md) (dwp P X c b np md) T O dd g K
 |.cond x a b,np,md,T,O,dd,g,K=>zvs c x (dwp P X c a np md) (dwp P X c b np md) T O dd g K
 |.block id b,np,md,T,O,dd,g,K=>dwp P X c b np md T O dd g (zmM id K)
 |.loop b,np,md,T,O,dd,g,K=>zvA c np b (dwp P X c b np md) T O dd g K
 |.scope b,np,md,T,O,dd,g,K=>dwp P X c b np md T O dd g (zrX K)
 |.rangeFunc gf ps asg body,np,md,T,O,dd,g,K=>match md with
  |.df=>False
  |.pf=>False
  |.ry=>zjE P X c np gf ps.toList (fun np=>dwp P X c asg np .rd) (fun np=>dwp P X c body np .ry) T O dd g K
  |.it=>zjE P X c np gf ps.toList (fun np=>dwp P X c asg np .rd) (fun np=>dwp P X c body np .ry) T O dd g K
  |_=>zqj P X c np gf ps.toList (fun np=>dwp P X c asg np .rd) (fun np=>dwp P X c body np .rd) T O dd g K
 |_,_,_,_,_,_,_,_=>False
end Go.Cx
