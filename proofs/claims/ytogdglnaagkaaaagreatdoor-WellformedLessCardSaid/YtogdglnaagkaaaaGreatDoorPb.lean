import Derived.Test.YtogdglnaagkaaaaGreatDoorAb
import Derived.Test.YtogdglnaagkaaaaGreatDoorGp
set_option linter.unusedSimpArgs false
set_option linter.unusedVariables false
set_option maxRecDepth 100000
namespace Go.Proofs.YtogdglnaagkaaaaGreatDoor
open Go Go.Cx
theorem zFi{gl:List (Nat×List CV)}{P:Program}{X:Ext}{f:FuncId}{fn:Func}(hf:P.funcs[f]? = some fn)(hX:X f=none)(hb:fn.body=none)(hn:(fn.name == "internal/abi.NoEscape" && fn.origin == "")=true){o off:Nat}{objs:List SObj}:DSpec P X gl f [.ptr o off] objs (fun v O=>v=.ptr o off/\O=objs):=
 ⟨fun G R e m xs _ hM ha=>by
  cases ha with |cons h hs=>?_
  cases hs;cases h with |ptr he=>?_
  rename_i t;refine⟨_,m,R,e,.ptr o off,objs,Ev.step (.all fun ih=>?_),RO.le.refl R,fun _ _ h=>h,.ptr he,hM,rfl,rfl⟩;show znY P ih f [.ptr t off] m (X f)=.ret (.ptr t off) m;rw[hX];show zpq P ih [.ptr t off] m P.funcs[f]? = _;rw[hf];show(match fn.body with
   |some c=>zbi P ih fn [.ptr t off] m (zbT P ih fn.results.toList) (some c)
   |none=>zCu fn m [.ptr t off])=_
  rw[hb];show(match fn.name == "internal/abi.NoEscape" && fn.origin == "" with
   |true=>Res.ret (.ptr t off) m
   |false=>.no fn.name)=_
  rw[hn]⟩
theorem zrZ{P:Program}{X:Ext}{gl:List (Nat×List CV)}{tk:List CV->Mem->Task}{args:List SV}{c0:SObj}{ty lt:TypeId}{Q:Nat->(Nat->List SV)->Prop}
  (h:DSpecT P X gl tk args [c0] (fun v O=>v=.tup []/\∃n el,Q n el/\∃j,0<j/\O[0]? = some (.cells ty [.ptr 0 0,.lst j])/\O[j]? = some (.list lt 1 n el))):
  DSpecT P X gl tk args [c0] (fun v O=>v=.tup []/\∃n el,Q n el/\O=[.cells ty [.ptr 0 0,.lst 1],.list lt 1 n el]):=
 ⟨fun G R e m xs h1 h2 h3=>by
  obtain⟨y,m',R',e',v,O',q1,q2,q3,q4,q5,rfl,n,el,hQ,j,hj,k0,kj⟩:=h.run G R e m xs h1 h2 h3;have hne:(j=0)=False:=by simp;omega
  have o0:∃x,e' 0=some x/\OR R' e' m' x (.cells ty [.ptr 0 0,.lst j]):=by
   rcases q5.ob 0 _ k0 with h |h
   ·cases h
   ·exact h
  have oj:∃x,e' j=some x/\OR R' e' m' x (.list lt 1 n el):=by
   rcases q5.ob j _ kj with h |h
   ·cases h
   ·exact h
  obtain⟨x0,e0,t,ys,rfl,g0,r0⟩:=o0;obtain⟨xj,ej,rj⟩:=oj
  let e2:DEnv:=fun o=>match o with |0=>some (.ptr t 0) |1=>some xj |_=>none
  refine⟨y,m',R',e2,.tup [],_,q1,q2,fun o u hu=>?_,?_,⟨q5.fr,q5.sk,q5.le,q5.rn,fun o x tt ho ht=>?_,fun o o' x x' tt ho ho' ht ht'=>?_,fun o so ho=>?_,fun o x ho=>?_⟩,rfl,n,el,hQ,rfl⟩
  ·obtain⟨so,hs,_⟩:=h2.dom o _ hu
   match o,hs with
   |0,_=>
    have hh:e2 0=some (.ptr t 0):=rfl;rw[hh,<- e0];exact q3 0 u hu
   |o+1,hs=>simp at hs
  ·cases q4 with |tup h=>cases h;exact .tup .nil
  ·match o,ho with
   |0,ho=>cases ho;exact q5.own 0 _ tt e0 ht
   |1,ho=>cases ho;exact q5.own j _ tt ej ht
   |o+2,ho=>cases ho
  ·match o,o',ho,ho' with
   |0,0,_,_=>rfl
   |1,1,_,_=>rfl
   |0,1,ho,ho'=>
    cases ho;cases ho';have:=q5.inj 0 j _ _ tt e0 ej ht ht';omega
   |1,0,ho,ho'=>
    cases ho;cases ho';have:=q5.inj j 0 _ _ tt ej e0 ht ht';omega
   |o+2,_,ho,_=>cases ho
   |_,o'+2,_,ho'=>cases ho'
  ·match o,ho with
   |0,ho=>
    cases ho;refine .inr ⟨.ptr t 0,rfl,t,ys,rfl,g0,?_⟩;cases r0 with |cons a b=>?_
    cases b with |cons b c=>?_
    cases c;refine .cons ?_ (.cons ?_ .nil)
    ·cases a with |ptr he=>?_
     rw[e0]at he;cases he;exact .ptr rfl
    ·cases b with
     |lstN he=>rw[ej]at he;cases he;exact .lstN rfl
     |lstV he=>rw[ej]at he;cases he;exact .lstV rfl
     |lstS he=>rw[ej]at he;cases he;exact .lstS rfl
     |lstE he=>rw[ej]at he;cases he;exact .lstE rfl
     |lstO he=>rw[ej]at he;cases he;exact .lstO rfl
   |1,ho=>
    cases ho;exact .inr ⟨xj,rfl,rj⟩
   |o+2,ho=>simp at ho
  ·match o,ho with
   |0,_=>exact⟨_,rfl,by simp⟩
   |1,_=>exact⟨_,rfl,by simp⟩
   |o+2,ho=>cases ho⟩
theorem zui{o off:Nat}{objs:List SObj}:DSpec Tryz.prog axX axG 108 [.ptr o off] objs (fun v O=>v=.ptr o off/\O=objs):=zFi Tryz.func108 rfl rfl (by kernel_rfl)
structure Byt(bs:List Nat)(n:Nat)(el:Nat->List SV):Prop where
 len:n=bs.length
 at':∀j,j<n->bs.getD j 0<256/\el j=[.cv (.int .u8 ((bs.getD j 0:Nat):Int))]
theorem Byt.to{bs bs':List Nat}{n:Nat}{el:Nat->List SV}(h:Byt bs n el)(e:bs=bs'):Byt bs' n el:=e ▸ h
abbrev B0:List SObj:=[.cells 76 [.cv .nilp,.cv .nils]]
abbrev B1(n:Nat)(el:Nat->List SV):List SObj:=[.cells 76 [.ptr 0 0,.lst 1],.list 5 1 n el]
theorem zvq{s:List Nat}(hs:∀b∈s,b<256):Byt s s.length (zft s):=⟨rfl,fun j hj=>by
 have h:s.getD j 0<256:=by rw[ya8,yb5 hj];exact hs _ (List.getElem_mem _)
 refine⟨h,?_⟩;unfold zft;rw[Nat.mod_eq_of_lt h]⟩
theorem zAt{bs s:List Nat}{n:Nat}{el:Nat->List SV}(h:Byt bs n el)(hs:∀b∈s,b<256):Byt (bs++s) (n+s.length) (zcb n el (zft s)):=by
 obtain⟨rfl,h⟩:=h;refine⟨by rw[ya1],fun j hj=>?_⟩;unfold zcb;split
 ·rename_i hq;rw[ya8,yb8 hq,<- ya8];exact h j hq
 ·rename_i hq;rw[ya8,yd0 (by omega),<- ya8];exact(zvq hs).2 _ (by omega)
theorem zBg:DSpec Tryz.prog axX axG 94 [.ptr 0 0] B0 (fun v O=>v=.tup []/\O=[.cells 76 [.ptr 0 0,.cv .nils]]):=by
 refine zac { glb:=axG } true Tryz.func94 (by kernel_rfl) rfl ?_
 repeat' (
   (conv=>whnf)
   first
    |exact zad (by kernel_rfl)
    |refine And.intro ?_ ?_
    |refine zaa ?_ ?_
    |(refine⟨_,zui,?_⟩;rintro v O' ⟨rfl,rfl⟩)
    |(contradiction)
    |((refine⟨true,⟨by kernel_rfl⟩,?_⟩))
    |((refine⟨false,⟨by kernel_rfl⟩,?_⟩))
    |intro _)
 all_goals first
  |rfl
  |exact⟨rfl,rfl⟩
theorem zBG(n:Nat)(el:Nat->List SV):DSpec Tryz.prog axX axG 94 [.ptr 0 0] (B1 n el) (fun v O=>v=.tup []/\O=B1 n el):=by
 refine zac { glb:=axG } true Tryz.func94 (by kernel_rfl) rfl ?_
 repeat' (
   (conv=>whnf)
   first
    |exact zad (by kernel_rfl)
    |refine And.intro ?_ ?_
    |refine zaa ?_ ?_
    |(refine⟨_,zui,?_⟩;rintro v O' ⟨rfl,rfl⟩)
    |(contradiction)
    |((refine⟨true,⟨by kernel_rfl⟩,?_⟩))
    |((refine⟨false,⟨by kernel_rfl⟩,?_⟩))
    |intro _)
 all_goals first
  |rfl
  |exact⟨rfl,rfl⟩
theorem zyz{s:List Nat}(hs:∀b∈s,b<256)(hl:s.length<=1000000):DSpec Tryz.prog axX axG 78 [.ptr 0 0,.cv (.str s)] B0 (fun v O=>v=.tup [ai s.length,.cv .nili]/\∃n el,Byt s n el/\O=B1 n el):=by
 refine zac { glb:=axG } true Tryz.func78 (by kernel_rfl) rfl ?_
 repeat' (
   (conv=>whnf)
   first
    |exact zad (by kernel_rfl)
    |refine And.intro ?_ ?_
    |refine zaa ?_ ?_
    |(refine⟨_,zBg,?_⟩;rintro v O' ⟨rfl,rfl⟩)
    |intro _)
 all_goals first
  |rfl
  |omega
  |exact⟨_,_,zvq hs,rfl⟩
theorem zq4{bs s:List Nat}{n:Nat}{el:Nat->List SV}(hb:Byt bs n el)(hs:∀b∈s,b<256)(hl:n+s.length<=1000000):DSpec Tryz.prog axX axG 78 [.ptr 0 0,.cv (.str s)] (B1 n el) (fun v O=>v=.tup [ai s.length,.cv .nili]/\∃n el,Byt (bs++s) n el/\O=B1 n el):=by
 refine zac { glb:=axG } true Tryz.func78 (by kernel_rfl) rfl ?_
 repeat' (
   (conv=>whnf)
   first
    |exact zad (by kernel_rfl)
    |refine And.intro ?_ ?_
    |refine zaa ?_ ?_
    |(refine⟨_,zBG n el,?_⟩;rintro v O' ⟨rfl,rfl⟩)
    |intro _)
 all_goals first
  |rfl
  |omega
  |exact⟨_,_,zAt hb hs,rfl⟩
theorem zzP{bs:List Nat}{n:Nat}{el:Nat->List SV}(hb:Byt bs n el)(hl:n<=1000000):DSpec Tryz.prog axX axG 58 [.ptr 0 0] (B1 n el) (fun v O=>v=ai (bs.length:Int)/\O=B1 n el):=by
 obtain⟨rfl,hb⟩:=hb;refine zac { glb:=axG } true Tryz.func58 (by kernel_rfl) rfl ?_
 repeat' (
   (conv=>whnf)
   first
    |exact zad (by kernel_rfl)
    |refine And.intro ?_ ?_
    |refine zaa ?_ ?_
    |intro _)
 all_goals first
  |rfl
  |omega
  |exact⟨rfl,rfl⟩
theorem zzD{bs:List Nat}{n:Nat}{el:Nat->List SV}(hb:Byt bs n el)(h0:0<n)(hl:n<=1000000):DSpec Tryz.prog axX axG 59 [.ptr 0 0] (B1 n el) (fun v O=>v=.cv (.str bs)/\O=[.cells 76 [.ptr 0 0,.junk],.list 5 1 0 el]):=by
 refine zac { glb:=axG } true Tryz.func59 (by kernel_rfl) rfl ?_
 repeat' (
   (conv=>whnf)
   first
    |exact zad (by kernel_rfl)
    |refine And.intro ?_ ?_
    |refine zaa ?_ ?_
    |((refine⟨bs,⟨hb.1.symm,fun j hj=>hb.2 j hj⟩,?_⟩))
    |intro _)
 all_goals first
  |rfl
  |omega
  |exact⟨rfl,rfl⟩
end Go.Proofs.YtogdglnaagkaaaaGreatDoor
