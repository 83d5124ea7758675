import Derived.Test.YtogdglnaagkaaaaGreatDoorAg
set_option linter.unusedSimpArgs false
set_option linter.unusedVariables false
set_option maxRecDepth 100000
namespace Go.Proofs.YtogdglnaagkaaaaGreatDoor
open Go Go.Cx
noncomputable def inU(l:List (List Nat))(x:List Nat):Bool:=l.any fun y=>zbu x y
noncomputable def zns(l:List (List Nat))(x:List Nat):List (List Nat):=bif inU l x then l else l++[x]
noncomputable def zdZ(l:List (List Nat)):List (List Nat):=l.foldl zns []
def nmH(h:HaveM):List Nat:=nm h.agg.name
def nmA(a:AggM):List Nat:=nm a.name
noncomputable def zbc(q:QueryM):List (List Nat):=zdZ (q.hv.map nmH++q.em.map nmA)
theorem zk5(l:List (List Nat))(x:List Nat):zdZ (l++[x])=zns (zdZ l) x:=by
 unfold zdZ;rw[List.foldl_append];rfl
theorem zyh(l:List (List Nat))(x:List Nat):(zns l x).length<=l.length+1:=by
 unfold zns;cases inU l x<;>simp
theorem zjt(l:List (List Nat)):(zdZ l).length<=l.length:=by
 have key:∀(l acc:List (List Nat)),(l.foldl zns acc).length<=acc.length+l.length:=by
  intro l
  induction l with
  |nil=>intro acc;simp
  |cons x r ih=>
   intro acc;have h1:=ih (zns acc x);have h2:=zyh acc x;rw[List.foldl_cons,ya7];omega
 have:=key l [];simpa[zdZ]using this
def zkB(s:List Nat):List SV:=[.cv (.str s)]
def SeenS(l:List (List Nat))(f:CV->Option SV):Prop:=∀x,f (.str x)=if inU l x then some (ab true)else none
theorem SeenS.allB{l:List (List Nat)}{f:CV->Option SV}(h:SeenS l f)(x:List Nat):allB f (.str x):=fun v hv=>by
 rw[h x]at hv;split at hv
 ·cases hv;exact⟨_,rfl⟩
 ·cases hv
theorem SeenS.mapB{l:List (List Nat)}{f:CV->Option SV}(h:SeenS l f)(x:List Nat):mapB f (.str x)=inU l x:=by
 unfold Go.Cx.mapB;rw[h x];cases inU l x<;>rfl
theorem ziu(l:List (List Nat))(x y:List Nat):inU (l++[y]) x=(inU l x||zbu x y):=by
 unfold inU;rw[List.any_append];simp
theorem SeenS.step{l:List (List Nat)}{f:CV->Option SV}(h:SeenS l f)(x:List Nat):SeenS (l++[x]) (zse (.str x) (ab true) f):=fun y=>by
 unfold zse;rw[ziu,h y];show(match zbu y x with |true=>_ |false=>_)=_;cases zbu y x<;>simp
theorem SeenS.add{l:List (List Nat)}{f:CV->Option SV}(h:SeenS l f)(x:List Nat)(hx:(!Go.Cx.mapB f (.str x))=true):SeenS (zns l x) (zse (.str x) (ab true) f):=by
 rw[h.mapB]at hx;unfold zns;rw[Bool.not_eq_true']at hx;rw[hx];exact h.step x
theorem zud{l:List (List Nat)}{f:CV->Option SV}(h:SeenS l f){x:List Nat}(hx:(!mapB f (.str x))=false):zns l x=l:=by
 rw[h.mapB,Bool.not_eq_false']at hx;unfold zns;rw[hx];rfl
theorem zxp{l:List (List Nat)}{f:CV->Option SV}(h:SeenS l f){x:List Nat}(hx:(!mapB f (.str x))=true):zns l x=l++[x]:=by
 rw[h.mapB,Bool.not_eq_true']at hx;unfold zns;rw[hx];rfl
theorem zwV(a:AggM)(l:List (List Nat))(f:CV->Option SV)(st:Option (CV×Nat))(m:Nat)(el:Nat->List SV)(hl:LElA zkB l m el)(hf:SeenS l f)(hm:l.length<=900000):
  DSpec Tryz.prog axX axG 45 [.agg (zlZ a),.ptr 0 0,.ptr 2 0] [.cells 87 [.map 1],.map .str f st,.cells 40 [.lst 3],.list 9 1 m el]
   (fun v O=>∃f' st' m' el',LElA zkB (zns l (nmA a)) m' el'/\SeenS (zns l (nmA a)) f'/\v=.tup []/\O=[.cells 87 [.map 1],.map .str f' st',.cells 40 [.lst 3],.list 9 1 m' el']):=by
 refine zac { glb:=axG } true Tryz.func45 (by kernel_rfl) rfl ?_
 repeat' (
   (conv=>whnf)
   first
    |exact zad (by kernel_rfl)
    |refine And.intro ?_ ?_
    |refine zaa ?_ ?_
    |intro _)
 all_goals first
  |rfl
  |omega
  |exact hf.allB _ _ (by assumption)
  |(have h1:=hl.1;omega)
  |(rename_i hz;exact⟨_,_,_,_,by rw[zxp (x:=nmA a) hf hz];exact hl.snoc rfl rfl,hf.add (nmA a) hz,rfl,rfl⟩)
  |(rename_i hz;exact⟨_,_,_,_,by rw[zud (x:=nmA a) hf hz];exact hl,by rw[zud (x:=nmA a) hf hz];exact hf,rfl,rfl⟩)
theorem zlo{q:QueryM}{k:Nat}(hk:k<q.hv.length):zdZ ((q.hv.take (k+1)).map nmH)=zns (zdZ ((q.hv.take k).map nmH)) (nmH (q.hv.getD k default)):=by
 rw[List.take_add_one,yb5 hk,List.map_append,ya8,yb5 hk];exact zk5 _ _
theorem zkK{q:QueryM}{k:Nat}(hk:k<q.em.length):zdZ (q.hv.map nmH++(q.em.take (k+1)).map nmA)=zns (zdZ (q.hv.map nmH++(q.em.take k).map nmA)) (nmA (q.em.getD k default)):=by
 rw[List.take_add_one,yb5 hk,List.map_append,<- yc1,ya8,yb5 hk];exact zk5 _ _
theorem zut(q:QueryM)(k:Nat):(zdZ ((q.hv.take k).map nmH)).length<=q.hv.length:=by
 refine Nat.le_trans (zjt _) ?_;rw[yb7,List.length_take];omega
theorem zuh(q:QueryM)(k:Nat):(zdZ (q.hv.map nmH++(q.em.take k).map nmA)).length<=q.hv.length+q.em.length:=by
 refine Nat.le_trans (zjt _) ?_;rw[ya1,yb7,yb7,List.length_take];omega
theorem zj8{q:QueryM}{k:Nat}(hk:q.hv.length<=k):zdZ (q.hv.map nmH++(q.em.take 0).map nmA)=zdZ ((q.hv.take k).map nmH):=by
 rw[List.take_of_length_le hk];simp
theorem zwH{q:QueryM}{k:Nat}{m:Nat}{el:Nat->List SV}(hk:q.em.length<=k)(hl:LElA zkB (zdZ (q.hv.map nmH++(q.em.take k).map nmA)) m el):Same (.isl 1 m el) (.isl 1 (zbc q).length (elF zkB (zbc q))):=by
 rw[List.take_of_length_le hk]at hl;obtain⟨rfl,h⟩:=hl;exact .isl h
set_option maxHeartbeats 4000000 in
theorem zzN(q:QueryM)(hq:QFit q)(hs:q.hv.length+q.em.length<=900000):DSpec Tryz.prog axX axG 29 [.agg (zaD q)] [] (fun v O=>v=.isl 1 (zbc q).length (elF zkB (zbc q))/\O=[]):=by
 refine DSpec.same (post:=fun v O=>Same v (.isl 1 (zbc q).length (elF zkB (zbc q)))/\O=[]) ?_ fun v O h=>⟨_,h.1,rfl,h.2⟩
 refine zac { glb:=axG,ann:=[(5,[15]),(10,[27])],nils:=[(5,[(.cell 1 0,9,1)])] } true Tryz.func29 (by kernel_rfl) rfl ?_
 repeat' (
   (conv=>whnf)
   first
    |exact zad (by kernel_rfl)
    |refine And.intro ?_ ?_
    |refine zaa ?_ ?_
    |((have:=hk;refine⟨fun vs O _=>∃(k m:Nat) (el:Nat->List SV) (f:CV->Option SV) (st:_),k<=q.em.length/\LElA zkB (zdZ (q.hv.map nmH++(q.em.take k).map nmA)) m el/\SeenS (zdZ (q.hv.map nmH++(q.em.take k).map nmA)) f/\vs=[ai k]/\O=[.cells 34 (zaD q),.cells 40 [.lst 4],.map .str f st,.cells 87 [.map 2],.list 9 1 m el],fun vs O=>match vs with |[.cv (.int _ k)]=>q.em.length - k.toNat |_=>0,⟨0,m,el,f,st,Nat.zero_le _,by rw[zj8 (k:=k) (by(simp only[zz]at *;omega))];exact hl,by rw[zj8 (k:=k) (by(simp only[zz]at *;omega))];exact hf,rfl,rfl⟩,?_⟩;rintro vs O _ ⟨k2,m2,el2,f2,st2,hk2,hl2,hf2,rfl,rfl⟩))
    |((refine⟨fun vs O _=>∃(k m:Nat) (el:Nat->List SV) (f:CV->Option SV) (st:_),k<=q.hv.length/\LElA zkB (zdZ ((q.hv.take k).map nmH)) m el/\SeenS (zdZ ((q.hv.take k).map nmH)) f/\vs=[ai k]/\O=[.cells 34 (zaD q),.cells 40 [.lst 4],.map .str f st,.cells 87 [.map 2],.list 9 1 m el],fun vs O=>match vs with |[.cv (.int _ k)]=>q.hv.length - k.toNat |_=>0,⟨0,0,_,_,_,Nat.zero_le _,⟨rfl,fun i h=>absurd h (by omega)⟩,fun x=>rfl,rfl,rfl⟩,?_⟩;rintro vs O _ ⟨k,m,el,f,st,hk,hl,hf,rfl,rfl⟩))
    |(refine⟨_,zwV (q.em.getD k2 default) _ f2 st2 m2 el2 hl2 hf2 (by have:=zuh q k2;omega),?_⟩;rintro v O' ⟨f',st',m',el',hl',hf',rfl,rfl⟩)
    |(refine⟨_,zwV (q.hv.getD k default).agg _ f st m el hl hf (by have:=zut q k;omega),?_⟩;rintro v O' ⟨f',st',m',el',hl',hf',rfl,rfl⟩)
    |intro _)
 all_goals first
  |rfl
  |omega
  |(simp only[zz]at *;omega)
  |exact⟨k2+1,m',el',f',st',by(simp only[zz]at *;omega),by rw[zkK (by(simp only[zz]at *;omega))];exact hl',by rw[zkK (by(simp only[zz]at *;omega))];exact hf',rfl,rfl⟩
  |exact⟨k+1,m',el',f',st',by(simp only[zz]at *;omega),by rw[zlo (by(simp only[zz]at *;omega))];exact hl',by rw[zlo (by(simp only[zz]at *;omega))];exact hf',rfl,rfl⟩
  |exact zwH (by(simp only[zz]at *;omega)) hl2
end Go.Proofs.YtogdglnaagkaaaaGreatDoor
