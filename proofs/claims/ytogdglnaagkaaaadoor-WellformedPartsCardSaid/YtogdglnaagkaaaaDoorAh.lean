import Derived.Test.YtogdglnaagkaaaaDoorAg
set_option linter.unusedSimpArgs false
set_option linter.unusedVariables false
set_option maxRecDepth 100000
namespace Go.Proofs.YtogdglnaagkaaaaDoor
open Go Go.Cx
noncomputable def inU(l:List (List Nat))(x:List Nat):Bool:=l.any fun y=>zbE x y
noncomputable def znY(l:List (List Nat))(x:List Nat):List (List Nat):=bif inU l x then l else l++[x]
noncomputable def zdS(l:List (List Nat)):List (List Nat):=l.foldl znY []
def nmH(h:HaveM):List Nat:=nm h.agg.name
def nmA(a:AggM):List Nat:=nm a.name
noncomputable def zf0(q:QueryM):List (List Nat):=zdS (q.hv.map nmH++q.em.map nmA)
theorem zj9(l:List (List Nat))(x:List Nat):zdS (l++[x])=znY (zdS l) x:=by
 unfold zdS;rw[List.foldl_append];rfl
theorem zwD(l:List (List Nat))(x:List Nat):(znY l x).length<=l.length+1:=by
 unfold znY;cases inU l x<;>simp
theorem zh9(l:List (List Nat)):(zdS l).length<=l.length:=by
 have key:∀(l acc:List (List Nat)),(l.foldl znY acc).length<=acc.length+l.length:=by
  intro l
  induction l with
  |nil=>intro acc;simp
  |cons x r ih=>
   intro acc;have h1:=ih (znY acc x);have h2:=zwD acc x;rw[List.foldl_cons,ya7];omega
 have:=key l [];simpa[zdS]using this
def zw5(s:List Nat):List SV:=[.cv (.str s)]
def SeenS(l:List (List Nat))(f:CV->Option SV):Prop:=∀x,f (.str x)=if inU l x then some (ab true)else none
theorem SeenS.allB{l:List (List Nat)}{f:CV->Option SV}(h:SeenS l f)(x:List Nat):allB f (.str x):=fun v hv=>by
 rw[h x]at hv;split at hv
 ·cases hv;exact⟨_,rfl⟩
 ·cases hv
theorem SeenS.mapB{l:List (List Nat)}{f:CV->Option SV}(h:SeenS l f)(x:List Nat):mapB f (.str x)=inU l x:=by
 unfold Go.Cx.mapB;rw[h x];cases inU l x<;>rfl
theorem zhM(l:List (List Nat))(x y:List Nat):inU (l++[y]) x=(inU l x||zbE x y):=by
 unfold inU;rw[List.any_append];simp
theorem SeenS.step{l:List (List Nat)}{f:CV->Option SV}(h:SeenS l f)(x:List Nat):SeenS (l++[x]) (zpQ (.str x) (ab true) f):=fun y=>by
 unfold zpQ;rw[zhM,h y];show(match zbE y x with |true=>_ |false=>_)=_;cases zbE y x<;>simp
theorem SeenS.add{l:List (List Nat)}{f:CV->Option SV}(h:SeenS l f)(x:List Nat)(hx:(!Go.Cx.mapB f (.str x))=true):SeenS (znY l x) (zpQ (.str x) (ab true) f):=by
 rw[h.mapB]at hx;unfold znY;rw[Bool.not_eq_true']at hx;rw[hx];exact h.step x
theorem zuY{l:List (List Nat)}{f:CV->Option SV}(h:SeenS l f){x:List Nat}(hx:(!mapB f (.str x))=false):znY l x=l:=by
 rw[h.mapB,Bool.not_eq_false']at hx;unfold znY;rw[hx];rfl
theorem zvK{l:List (List Nat)}{f:CV->Option SV}(h:SeenS l f){x:List Nat}(hx:(!mapB f (.str x))=true):znY l x=l++[x]:=by
 rw[h.mapB,Bool.not_eq_true']at hx;unfold znY;rw[hx];rfl
theorem zuU(a:AggM)(l:List (List Nat))(f:CV->Option SV)(st:Option (CV×Nat))(m:Nat)(el:Nat->List SV)(hl:LElA zw5 l m el)(hf:SeenS l f)(hm:l.length<=900000):
  DSpec Tryd.prog axX axG 44 [.agg (znZ a),.ptr 0 0,.ptr 2 0] [.cells 77 [.map 1],.map .str f st,.cells 48 [.lst 3],.list 9 1 m el]
   (fun v O=>∃f' st' m' el',LElA zw5 (znY l (nmA a)) m' el'/\SeenS (znY l (nmA a)) f'/\v=.tup []/\O=[.cells 77 [.map 1],.map .str f' st',.cells 48 [.lst 3],.list 9 1 m' el']):=by
 refine zac { glb:=axG } true Tryd.func44 (by kernel_rfl) rfl ?_
 repeat' (
   (conv=>whnf)
   first
    |exact zaf (by kernel_rfl)
    |refine And.intro ?_ ?_
    |refine zaa ?_ ?_
    |intro _)
 all_goals first
  |rfl
  |omega
  |exact hf.allB _ _ (by assumption)
  |(have h1:=hl.1;omega)
  |(rename_i hz;exact⟨_,_,_,_,by rw[zvK (x:=nmA a) hf hz];exact hl.snoc rfl rfl,hf.add (nmA a) hz,rfl,rfl⟩)
  |(rename_i hz;exact⟨_,_,_,_,by rw[zuY (x:=nmA a) hf hz];exact hl,by rw[zuY (x:=nmA a) hf hz];exact hf,rfl,rfl⟩)
theorem zkl{q:QueryM}{k:Nat}(hk:k<q.hv.length):zdS ((q.hv.take (k+1)).map nmH)=znY (zdS ((q.hv.take k).map nmH)) (nmH (q.hv.getD k default)):=by
 rw[List.take_add_one,yb5 hk,List.map_append,ya8,yb5 hk];exact zj9 _ _
theorem zj7{q:QueryM}{k:Nat}(hk:k<q.em.length):zdS (q.hv.map nmH++(q.em.take (k+1)).map nmA)=znY (zdS (q.hv.map nmH++(q.em.take k).map nmA)) (nmA (q.em.getD k default)):=by
 rw[List.take_add_one,yb5 hk,List.map_append,<- yc1,ya8,yb5 hk];exact zj9 _ _
theorem zuA(q:QueryM)(k:Nat):(zdS ((q.hv.take k).map nmH)).length<=q.hv.length:=by
 refine Nat.le_trans (zh9 _) ?_;rw[yb7,List.length_take];omega
theorem zr4(q:QueryM)(k:Nat):(zdS (q.hv.map nmH++(q.em.take k).map nmA)).length<=q.hv.length+q.em.length:=by
 refine Nat.le_trans (zh9 _) ?_;rw[ya1,yb7,yb7,List.length_take];omega
theorem ziS{q:QueryM}{k:Nat}(hk:q.hv.length<=k):zdS (q.hv.map nmH++(q.em.take 0).map nmA)=zdS ((q.hv.take k).map nmH):=by
 rw[List.take_of_length_le hk];simp
theorem zuK{q:QueryM}{k:Nat}{m:Nat}{el:Nat->List SV}(hk:q.em.length<=k)(hl:LElA zw5 (zdS (q.hv.map nmH++(q.em.take k).map nmA)) m el):Same (.isl 1 m el) (.isl 1 (zf0 q).length (elF zw5 (zf0 q))):=by
 rw[List.take_of_length_le hk]at hl;obtain⟨rfl,h⟩:=hl;exact .isl h
set_option maxHeartbeats 4000000 in
theorem zAi(q:QueryM)(hq:QFit q)(hs:q.hv.length+q.em.length<=900000):DSpec Tryd.prog axX axG 31 [.agg (zaP q)] [] (fun v O=>v=.isl 1 (zf0 q).length (elF zw5 (zf0 q))/\O=[]):=by
 refine DSpec.same (post:=fun v O=>Same v (.isl 1 (zf0 q).length (elF zw5 (zf0 q)))/\O=[]) ?_ fun v O h=>⟨_,h.1,rfl,h.2⟩
 refine zac { glb:=axG,ann:=[(5,[15]),(10,[27])],nils:=[(5,[(.cell 1 0,9,1)])] } true Tryd.func31 (by kernel_rfl) rfl ?_
 repeat' (
   (conv=>whnf)
   first
    |exact zaf (by kernel_rfl)
    |refine And.intro ?_ ?_
    |refine zaa ?_ ?_
    |((have:=hk;refine⟨fun vs O _=>∃(k m:Nat) (el:Nat->List SV) (f:CV->Option SV) (st:_),k<=q.em.length/\LElA zw5 (zdS (q.hv.map nmH++(q.em.take k).map nmA)) m el/\SeenS (zdS (q.hv.map nmH++(q.em.take k).map nmA)) f/\vs=[ai k]/\O=[.cells 34 (zaP q),.cells 48 [.lst 4],.map .str f st,.cells 77 [.map 2],.list 9 1 m el],fun vs O=>match vs with |[.cv (.int _ k)]=>q.em.length - k.toNat |_=>0,⟨0,m,el,f,st,Nat.zero_le _,by rw[ziS (k:=k) (by(simp only[zz]at *;omega))];exact hl,by rw[ziS (k:=k) (by(simp only[zz]at *;omega))];exact hf,rfl,rfl⟩,?_⟩;rintro vs O _ ⟨k2,m2,el2,f2,st2,hk2,hl2,hf2,rfl,rfl⟩))
    |((refine⟨fun vs O _=>∃(k m:Nat) (el:Nat->List SV) (f:CV->Option SV) (st:_),k<=q.hv.length/\LElA zw5 (zdS ((q.hv.take k).map nmH)) m el/\SeenS (zdS ((q.hv.take k).map nmH)) f/\vs=[ai k]/\O=[.cells 34 (zaP q),.cells 48 [.lst 4],.map .str f st,.cells 77 [.map 2],.list 9 1 m el],fun vs O=>match vs with |[.cv (.int _ k)]=>q.hv.length - k.toNat |_=>0,⟨0,0,_,_,_,Nat.zero_le _,⟨rfl,fun i h=>absurd h (by omega)⟩,fun x=>rfl,rfl,rfl⟩,?_⟩;rintro vs O _ ⟨k,m,el,f,st,hk,hl,hf,rfl,rfl⟩))
    |(refine⟨_,zuU (q.em.getD k2 default) _ f2 st2 m2 el2 hl2 hf2 (by have:=zr4 q k2;omega),?_⟩;rintro v O' ⟨f',st',m',el',hl',hf',rfl,rfl⟩)
    |(refine⟨_,zuU (q.hv.getD k default).agg _ f st m el hl hf (by have:=zuA q k;omega),?_⟩;rintro v O' ⟨f',st',m',el',hl',hf',rfl,rfl⟩)
    |intro _)
 all_goals first
  |rfl
  |omega
  |(simp only[zz]at *;omega)
  |exact⟨k2+1,m',el',f',st',by(simp only[zz]at *;omega),by rw[zj7 (by(simp only[zz]at *;omega))];exact hl',by rw[zj7 (by(simp only[zz]at *;omega))];exact hf',rfl,rfl⟩
  |exact⟨k+1,m',el',f',st',by(simp only[zz]at *;omega),by rw[zkl (by(simp only[zz]at *;omega))];exact hl',by rw[zkl (by(simp only[zz]at *;omega))];exact hf',rfl,rfl⟩
  |exact zuK (by(simp only[zz]at *;omega)) hl2
end Go.Proofs.YtogdglnaagkaaaaDoor
