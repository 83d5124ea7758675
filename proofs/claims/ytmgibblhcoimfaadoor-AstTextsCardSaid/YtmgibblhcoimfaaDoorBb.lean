import Derived.Test.YtmgibblhcoimfaaDoorBa
set_option linter.unusedSimpArgs false
set_option linter.unusedVariables false
set_option maxRecDepth 100000
namespace Go.Proofs.YtmgibblhcoimfaaDoor
open Go Go.Cx
noncomputable def zmd(a b:CondM):Bool:=a.op==b.op&&a.val==b.val
noncomputable def zwz(a b:AggM):Bool:=a.fn==b.fn&&zbY (nm a.name) (nm b.name)
noncomputable def zoz(a b:HaveM):Bool:=zwz a.agg b.agg&&zmd a.cond b.cond
noncomputable def zr1(f:Nat->Bool)(n m:Nat):Bool:=((n:Int)==(m:Int))&&(List.range n).all f
noncomputable def zlW{A:Type}[Inhabited A](f:A->A->Bool)(a b:List A):Bool:=zr1 (fun i=>f (a.getD i default) (b.getD i default)) a.length b.length
noncomputable def zsA(a b:AtomM):Bool:=a.kind==b.kind&&((a.bnd==b.bnd)&&((a.bound==b.bound)&&(zbY (nm a.name) (nm b.name)&&zlW zmd a.cs b.cs)))
noncomputable def zxl(f:NodeM->NodeM->Bool)(a b:List NodeM):Bool:=zr1 (fun i=>f (atN a i) (atN b i)) a.length b.length
noncomputable def zjW:Nat->NodeM->NodeM->Bool
 |0,_,_=>false
 |d+1,a,b=>a.kind==b.kind&&(a.mn==b.mn&&(a.mx==b.mx&&(zsA a.atom b.atom&&zxl (zjW d) a.kids b.kids)))
noncomputable def zon(d:Nat)(a b:QueryM):Bool:=zjW d a.p b.p&&(a.within==b.within&&(zlW zoz a.hv b.hv&&zlW zwz a.em b.em))
theorem zeO{f:Nat->Bool}{n m:Nat}(h:((n:Int) != (m:Int))=true):SV.cv (CV.bool false)=ab (zr1 f n m):=by
 have h1:((n:Int)==(m:Int))=false:=by simp only[zz]at *;exact h
 unfold zr1;rw[h1];rfl
theorem zlh{f:Nat->Bool}{n m k:Nat}(hk:k<n)(h:f k=false):SV.cv (CV.bool false)=ab (zr1 f n m):=by
 have h1:(List.range n).all f=false:=by
  rw[List.all_eq_false];exact⟨k,List.mem_range.2 hk,by rw[h];simp⟩
 unfold zr1;rw[h1,Bool.and_false]
theorem zd1{f:Nat->Bool}{n m k:Nat}(hl:((n:Int) != (m:Int))=false)(hk:n<=k)(h:∀j,j<k->f j=true):SV.cv (CV.bool true)=ab (zr1 f n m):=by
 have h1:((n:Int)==(m:Int))=true:=by simp only[zz]at *;exact hl
 have h2:(List.range n).all f=true:=by
  rw[yd1];exact fun j hj=>h j (by have:=List.mem_range.1 hj;omega)
 unfold zr1;rw[h1,h2];rfl
theorem zwJ{f:Nat->Bool}{n m k:Nat}(hl:((n:Int)==(m:Int))=true)(hk:n<=k)(h:∀j,j<k->f j=true):zr1 f n m=true:=by
 have h2:(List.range n).all f=true:=by
  rw[yd1];exact fun j hj=>h j (by have:=List.mem_range.1 hj;omega)
 unfold zr1;rw[hl,h2];rfl
theorem zxD{p:Nat->Bool}{k:Nat}(h:∀j,j<k->p j=true)(hk:p k=true):∀j,j<k+1->p j=true:=fun j hj=>by
 rcases Nat.lt_succ_iff_lt_or_eq.1 hj with h1 |rfl
 ·exact h j h1
 ·exact hk
theorem zyO{a b:Bool}(h:(!a)=b):a = !b:=by cases a<;>cases b<;>first |rfl |cases h
theorem zok:StoodNo Tryd.prog 51:=⟨by kernel_rfl⟩
theorem zql:StoodNo Tryd.prog 49:=⟨by kernel_rfl⟩
theorem zuf:StoodNo Tryd.prog 53:=⟨by kernel_rfl⟩
set_option maxHeartbeats 4000000 in
theorem zwR(a b:List CondM)(ha:a.length<=1000000)(hb:b.length<=1000000):DSpec Tryd.prog axX axG 73 [.isl 2 a.length (zee a),.isl 2 b.length (zee b)] [] (fun v O=>v=ab (zlW zmd a b)/\O=[]):=by
 refine zac { glb:=axG,ann:=[(4,[13])] } true Tryd.func73 (by kernel_rfl) rfl ?_
 repeat' (
   (conv=>whnf)
   first
    |exact zaf (by kernel_rfl)
    |refine And.intro ?_ ?_
    |refine zaa ?_ ?_
    |((refine⟨fun vs O _=>∃k:Nat,k<=a.length/\(∀j,j<k->zmd (a.getD j default) (b.getD j default)=true)/\vs=[ai k]/\O=[],fun vs O=>match vs with |[.cv (.int _ k)]=>a.length - k.toNat |_=>0,⟨0,Nat.zero_le _,fun j h=>absurd h (by omega),rfl,rfl⟩,?_⟩;rintro vs O _ ⟨k,hk,hj,rfl,rfl⟩))
    |intro _)
 all_goals first
  |rfl
  |omega
  |(simp only[zz]at *;omega)
  |exact zok
  |exact zeO (by assumption)
  |(rename_i hz;exact zlh (k:=k) (by(simp only[zz]at *;omega)) (zyO hz))
  |(rename_i hz;exact⟨k+1,by(simp only[zz]at *;omega),zxD (p:=fun j=>zmd (a.getD j default) (b.getD j default)) hj (zyO hz),rfl,rfl⟩)
  |exact zd1 (by assumption) (k:=k) (by(simp only[zz]at *;omega)) hj
set_option maxHeartbeats 4000000 in
theorem zAc(a b:List AggM)(ha:a.length<=1000000)(hb:b.length<=1000000):DSpec Tryd.prog axX axG 47 [.isl 2 a.length (zsl a),.isl 2 b.length (zsl b)] [] (fun v O=>v=ab (zlW zwz a b)/\O=[]):=by
 refine zac { glb:=axG,ann:=[(4,[13])] } true Tryd.func47 (by kernel_rfl) rfl ?_
 repeat' (
   (conv=>whnf)
   first
    |exact zaf (by kernel_rfl)
    |refine And.intro ?_ ?_
    |refine zaa ?_ ?_
    |((refine⟨fun vs O _=>∃k:Nat,k<=a.length/\(∀j,j<k->zwz (a.getD j default) (b.getD j default)=true)/\vs=[ai k]/\O=[],fun vs O=>match vs with |[.cv (.int _ k)]=>a.length - k.toNat |_=>0,⟨0,Nat.zero_le _,fun j h=>absurd h (by omega),rfl,rfl⟩,?_⟩;rintro vs O _ ⟨k,hk,hj,rfl,rfl⟩))
    |intro _)
 all_goals first
  |rfl
  |omega
  |(simp only[zz]at *;omega)
  |exact zql
  |exact zeO (by assumption)
  |(rename_i hz;exact zlh (k:=k) (by(simp only[zz]at *;omega)) (zyO hz))
  |(rename_i hz;exact⟨k+1,by(simp only[zz]at *;omega),zxD (p:=fun j=>zwz (a.getD j default) (b.getD j default)) hj (zyO hz),rfl,rfl⟩)
  |exact zd1 (by assumption) (k:=k) (by(simp only[zz]at *;omega)) hj
set_option maxHeartbeats 4000000 in
theorem zxk(a b:List HaveM)(ha:a.length<=1000000)(hb:b.length<=1000000):DSpec Tryd.prog axX axG 46 [.isl 4 a.length (zh9 a),.isl 4 b.length (zh9 b)] [] (fun v O=>v=ab (zlW zoz a b)/\O=[]):=by
 refine zac { glb:=axG,ann:=[(4,[13])] } true Tryd.func46 (by kernel_rfl) rfl ?_
 repeat' (
   (conv=>whnf)
   first
    |exact zaf (by kernel_rfl)
    |refine And.intro ?_ ?_
    |refine zaa ?_ ?_
    |((refine⟨fun vs O _=>∃k:Nat,k<=a.length/\(∀j,j<k->zoz (a.getD j default) (b.getD j default)=true)/\vs=[ai k]/\O=[],fun vs O=>match vs with |[.cv (.int _ k)]=>a.length - k.toNat |_=>0,⟨0,Nat.zero_le _,fun j h=>absurd h (by omega),rfl,rfl⟩,?_⟩;rintro vs O _ ⟨k,hk,hj,rfl,rfl⟩))
    |intro _)
 all_goals first
  |rfl
  |omega
  |(simp only[zz]at *;omega)
  |exact zuf
  |exact zql
  |exact zok
  |exact zeO (by assumption)
  |(rename_i hz;exact zlh (k:=k) (by(simp only[zz]at *;omega)) (zyO hz))
  |(rename_i hz;exact⟨k+1,by(simp only[zz]at *;omega),zxD (p:=fun j=>zoz (a.getD j default) (b.getD j default)) hj (zyO hz),rfl,rfl⟩)
  |exact zd1 (by assumption) (k:=k) (by(simp only[zz]at *;omega)) hj
theorem zs0(f:NodeM->NodeM->Bool)(a b:List NodeM)(ha:a.length<=1000000)(hb:b.length<=1000000)(ih:∀x∈a,∀y∈b,DSpec Tryd.prog axX axG 45 [.agg (zay x),.agg (zay y)] [] (fun v O=>v=ab (f x y)/\O=[])):
  DSpec Tryd.prog axX axG 74 [.isl 9 a.length (zfR a),.isl 9 b.length (zfR b),.fn 45 [] []] [] (fun v O=>v=ab (zxl f a b)/\O=[]):=by
 rcases zgT a with he |he<;>rcases zgT b with he2 |he2
 all_goals try rw[he]
 all_goals try rw[he2]
 all_goals
  refine zac { glb:=axG,ann:=[(4,[17])] } true Tryd.func74 (by kernel_rfl) rfl ?_
  repeat' (
    (conv=>whnf)
    first
     |exact zaf (by kernel_rfl)
     |refine And.intro ?_ ?_
     |refine zaa ?_ ?_
     |(refine⟨_,ih (atN a k) (zdO (by(simp only[zz]at *;omega))) (atN b k) (zdO (by(simp only[zz]at *;omega))),?_⟩;rintro v O' ⟨rfl,rfl⟩)
     |((refine⟨fun vs O _=>∃k:Nat,k<=a.length/\(∀j,j<k->f (atN a j) (atN b j)=true)/\vs=[ai k]/\O=[],fun vs O=>match vs with |[.cv (.int _ k)]=>a.length - k.toNat |_=>0,⟨0,Nat.zero_le _,fun j h=>absurd h (by omega),rfl,rfl⟩,?_⟩;rintro vs O _ ⟨k,hk,hj,rfl,rfl⟩))
     |intro _)
  all_goals first
   |rfl
   |omega
   |(simp only[zz]at *;omega)
   |(exfalso;(simp only[zz]at *;omega))
   |exact zeO (by assumption)
   |(rename_i hz;exact zlh (k:=k) (by(simp only[zz]at *;omega)) (zyO hz))
   |(rename_i hz;exact⟨k+1,by(simp only[zz]at *;omega),zxD (p:=fun j=>f (atN a j) (atN b j)) hj (zyO hz),rfl,rfl⟩)
   |exact zd1 (by assumption) (k:=k) (by(simp only[zz]at *;omega)) hj
   |exact zeO (by rw[he];assumption)
   |exact zeO (by rw[he2];assumption)
   |exact zd1 (by rw[he];assumption) (k:=k) (by(simp only[zz]at *;omega)) hj
   |exact zd1 (by rw[he2];assumption) (k:=k) (by(simp only[zz]at *;omega)) hj
   |exact zd1 (by rw[he,he2];rfl) (k:=k) (by(simp only[zz]at *;omega)) hj
set_option maxHeartbeats 8000000 in
theorem zyi:∀(d:Nat) (a b:NodeM),a.dep<=d->Fit a->Fit b->DSpec Tryd.prog axX axG 45 [.agg (zay a),.agg (zay b)] [] (fun v O=>v=ab (zjW d a b)/\O=[])
 |0,a,b,h,_,_=>by rw[zbi]at h;omega
 |d+1,a,b,h,ha,hb=>by
  have ih:∀x∈a.kids,∀y∈b.kids,DSpec Tryd.prog axX axG 45 [.agg (zay x),.agg (zay y)] [] (fun v O=>v=ab (zjW d x y)/\O=[]):=fun x hx y hy=>zyi d x y (by have:=zft hx;omega) (ha.kid hx) (hb.kid hy)
  have hK:=zs0 (zjW d) a.kids b.kids ha.self.1 hb.self.1 ih;have hC:=zwR a.atom.cs b.atom.cs ha.self.2 hb.self.2;refine zac { glb:=axG } true Tryd.func45 (by kernel_rfl) rfl ?_
  repeat' (
    (conv=>whnf)
    first
     |exact zaf (by kernel_rfl)
     |refine And.intro ?_ ?_
     |refine zaa ?_ ?_
     |(refine⟨_,hC,?_⟩;rintro v O' ⟨rfl,rfl⟩)
     |(refine⟨_,hK,?_⟩;rintro v O' ⟨rfl,rfl⟩)
     |intro _)
  all_goals first
   |rfl
   |(simp only[zjW,zsA, *,Bool.true_and,Bool.and_true,Bool.false_and,Bool.and_false,Bool.true_or,Bool.or_true,Bool.false_or,Bool.or_false,Bool.not_true,Bool.not_false,Bool.not_not,cond_true,cond_false];first |done |rfl)
set_option maxHeartbeats 4000000 in
theorem zBi(d:Nat)(a b:QueryM)(hd:a.p.dep<=d)(ha:QFit a)(hb:QFit b):DSpec Tryd.prog axX axG 19 [.agg (zb8 a),.agg (zb8 b)] [] (fun v O=>v=ab (zon d a b)/\O=[]):=by
 have hN:=zyi d a.p b.p hd ha.fit hb.fit;have hH:=zxk a.hv b.hv ha.hv hb.hv;have hE:=zAc a.em b.em ha.em hb.em;refine zac { glb:=axG } true Tryd.func19 (by kernel_rfl) rfl ?_
 repeat' (
   (conv=>whnf)
   first
    |exact zaf (by kernel_rfl)
    |refine And.intro ?_ ?_
    |refine zaa ?_ ?_
    |(refine⟨_,hN,?_⟩;rintro v O' ⟨rfl,rfl⟩)
    |(refine⟨_,hH,?_⟩;rintro v O' ⟨rfl,rfl⟩)
    |(refine⟨_,hE,?_⟩;rintro v O' ⟨rfl,rfl⟩)
    |intro _)
 all_goals first
  |rfl
  |(simp only[zon, *,Bool.true_and,Bool.and_true,Bool.false_and,Bool.and_false,Bool.true_or,Bool.or_true,Bool.false_or,Bool.or_false,Bool.not_true,Bool.not_false,Bool.not_not,cond_true,cond_false];first |done |rfl)
theorem zij:∀s:List Nat,zbY s s=true
 |[]=>rfl
 |a::r=>by
  unfold zbY;rw[show Nat.beq (a%256) (a%256)=true from Nat.beq_refl _];exact zij r
theorem zgm{f:Nat->Bool}{n:Nat}(h:∀i,i<n->f i=true):zr1 f n n=true:=zwJ (k:=n) (by simp) (Nat.le_refl _) h
theorem zks(a:CondM):zmd a a=true:=by unfold zmd;simp
theorem zoB(a:AggM):zwz a a=true:=by unfold zwz;rw[zij];simp
theorem zsh(a:HaveM):zoz a a=true:=by unfold zoz;rw[zoB,zks];rfl
theorem zr0(a:AtomM):zsA a a=true:=by
 unfold zsA zlW;rw[zij,zgm fun i _=>zks _];simp
theorem zkm:∀(d:Nat) (a:NodeM),a.dep<=d->zjW d a a=true
 |0,a,h=>by rw[zbi]at h;omega
 |d+1,a,h=>by
  unfold zjW zxl;rw[zr0,zgm fun i hi=>zkm d _ (by have:=zft (zdO hi);omega)];simp
theorem zsJ(d:Nat)(a:QueryM)(h:a.p.dep<=d):zon d a a=true:=by
 unfold zon zlW;rw[zkm d _ h,zgm fun i _=>zsh _,zgm fun i _=>zoB _];simp
end Go.Proofs.YtmgibblhcoimfaaDoor
