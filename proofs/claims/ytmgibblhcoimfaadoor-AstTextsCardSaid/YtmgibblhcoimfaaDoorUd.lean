import Derived.Test.YtmgibblhcoimfaaDoorUc
set_option linter.unusedSimpArgs false
set_option linter.unusedVariables false
set_option maxRecDepth 100000
namespace Go.Proofs.YtmgibblhcoimfaaDoor
open Go Go.Cx
theorem zyp(q:QueryM):(∃t,zxN q=.tup [.cv (.str t),ai 3])\/(∃t,zxN q=.tup [.cv (.str t),ai 4])\/(zec q=0/\zxN q=.tup [.cv (.str (zcs q)),ai 0]/\(zcs q).length<=400):=by
 unfold zxN;cases hc:zec q==0 with
 |true=>
  rw[beq_iff_eq]at hc;show(∃t,zki (zcs q)=_)\/_;cases h:decide (((zcs q).length:Int) > 400) with
  |true=>exact .inr (.inl ⟨_,(znN h).symm⟩)
  |false=>exact .inr (.inr ⟨hc,(zrx h).symm,by have:=of_decide_eq_false h;omega⟩)
 |false=>
  refine .inl ⟨[],?_⟩;have hc:zec q≠0:=by simpa using hc
  have h3:zec q=3:=by
   unfold zec zbh at hc ⊢;cases hs:zbk 200 q.p with
   |false=>rfl
   |true=>
    rw[hs]at hc;cases hf:zsG q with
    |true=>rfl
    |false=>rw[hf]at hc;exact absurd rfl hc
  rw[h3];rfl
theorem zuC(s:List Nat)(k:Nat)(hk:k<s.length):upN (s.take (k+1))=upN (s.take k)+(if upB (s.getD k 0)=true then 1 else 0):=by
 rw[List.take_add_one,ya8,yb5 hk,upA];show _+upN [s[k]]=_;rw[upC];show _+(0+_)=_;rw[Nat.zero_add];rfl
theorem zCz(s:List Nat)(k:Nat):upN (s.take k)<=s.length:=Nat.le_trans List.countP_le_length (by rw[List.length_take];omega)
theorem zz3(s:List Nat)(k:Nat):gbN s (k:Int)=((s.getD k 0%256:Nat):Int):=rfl
theorem zBj{s:List Nat}{k:Nat}(hk:decide ((k:Int)<(s.length:Int))=true)(h1:decide (gbN s (k:Int)>=65)=true)(h2:decide (gbN s (k:Int)<=90)=true):upN (s.take (k+1))=upN (s.take k)+1:=by
 rw[zz3]at h1 h2;have hk:=of_decide_eq_true hk;have h1:=of_decide_eq_true h1;have h2:=of_decide_eq_true h2;rw[zuC s k (by omega),if_pos (by unfold upB;exact decide_eq_true (by omega))]
theorem zBo{s:List Nat}{k:Nat}(hk:decide ((k:Int)<(s.length:Int))=true)(h1:decide (gbN s (k:Int)>=65)=false):upN (s.take (k+1))=upN (s.take k):=by
 rw[zz3]at h1;have hk:=of_decide_eq_true hk;have h1:=of_decide_eq_false h1;rw[zuC s k (by omega),if_neg (by unfold upB;intro hh;have:=of_decide_eq_true hh;omega)];rfl
theorem zA2{s:List Nat}{k:Nat}(hk:decide ((k:Int)<(s.length:Int))=true)(h1:decide (gbN s (k:Int)<=90)=false):upN (s.take (k+1))=upN (s.take k):=by
 rw[zz3]at h1;have hk:=of_decide_eq_true hk;have h1:=of_decide_eq_false h1;rw[zuC s k (by omega),if_neg (by unfold upB;intro hh;have:=of_decide_eq_true hh;omega)];rfl
theorem zBU{s:List Nat}{k:Nat}{p:Prop}(hk:decide ((k:Int)<(s.length:Int))=false)(h:(((upN (s.take k):Nat):Int)==((upN s:Nat):Int))=false):p:=by
 have hk:=of_decide_eq_false hk;rw[List.take_of_length_le (by omega)]at h;simp at h
set_option maxHeartbeats 8000000 in
theorem zsT(a b:QueryM)(na:QNum a)(nb:QNum b):DSpec Tryd.prog axX axG 4 [.agg (zb8 a),.agg (zb8 b)] [] (fun v _=>v=.cv (.bool true)):=by
 have hA:=zrP a;have hB:=zrP b;cases ha:zcg a with
 |false=>
  rw[ha]at hA;refine zac { glb:=axG,ann:=[(10,[11,10])] } true Tryd.func4 (by kernel_rfl) rfl ?_
  repeat' (
    (conv=>whnf)
    first
     |exact zaf (by kernel_rfl)
     |refine And.intro ?_ ?_
     |refine zaa ?_ ?_
     |(refine⟨_,hA,?_⟩;rintro v O' ⟨rfl,rfl⟩)
     |(refine⟨_,zhS,?_⟩;rintro v O' ⟨rfl,rfl⟩)
     |intro _)
  all_goals first
   |rfl
 |true=>
  cases hb:zcg b with
  |false=>
   rw[ha]at hA;rw[hb]at hB;refine zac { glb:=axG,ann:=[(10,[11,10])] } true Tryd.func4 (by kernel_rfl) rfl ?_
   repeat' (
     (conv=>whnf)
     first
      |exact zaf (by kernel_rfl)
      |refine And.intro ?_ ?_
      |refine zaa ?_ ?_
      |(refine⟨_,hA,?_⟩;rintro v O' ⟨rfl,rfl⟩)
      |(refine⟨_,hB,?_⟩;rintro v O' ⟨rfl,rfl⟩)
      |(refine⟨_,zhS,?_⟩;rintro v O' ⟨rfl,rfl⟩)
      |intro _)
   all_goals first
    |rfl
  |true=>
   rw[ha]at hA;rw[hb]at hB;have qa:=QOk.of ha na;have qb:=QOk.of hb nb;have hf1:DSpec Tryd.prog axX axG 17 [.agg (zay a.p),ai 40,ai 1] [] (fun v O=>v=ai (zjI 210 40 a.p)/\O=[]):=zwq 210 (by omega) a.p 40 (by omega) (by omega);have hf2:DSpec Tryd.prog axX axG 17 [.agg (zay b.p),ai 40,ai 1] [] (fun v O=>v=ai (zjI 210 40 b.p)/\O=[]):=zwq 210 (by omega) b.p 40 (by omega) (by omega);have h1:=zvG a qa;have h2:=zvG b qb;have h5:=zz4 a.p (zrg ha).1.toNFit;have h7:=zBi 210 a b (zrg ha).2.1 qa.fit qb.fit;generalize zjI 210 40 a.p=w1 at hf1;generalize zjI 210 40 b.p=w2 at hf2;have early:∀e1 e2:Int,(e1=3\/e1=4\/(e1=0/\(e2=3\/e2=4)))->∀t1 t2,zxN a=.tup [.cv (.str t1),ai e1]->zxN b=.tup [.cv (.str t2),ai e2]->DSpec Tryd.prog axX axG 4 [.agg (zb8 a),.agg (zb8 b)] [] (fun v _=>v=.cv (.bool true)):=by
    intro e1 e2 he t1 t2 p1 p2;rw[p1]at h1;rw[p2]at h2;rcases he with rfl |rfl |⟨rfl,rfl |rfl⟩
    all_goals
     refine zac { glb:=axG,ann:=[(10,[11,10])] } true Tryd.func4 (by kernel_rfl) rfl ?_
     repeat' (
       (conv=>whnf)
       first
        |exact zaf (by kernel_rfl)
        |refine And.intro ?_ ?_
        |refine zaa ?_ ?_
        |(refine⟨_,hA,?_⟩;rintro v O' ⟨rfl,rfl⟩)
        |(refine⟨_,hB,?_⟩;rintro v O' ⟨rfl,rfl⟩)
        |(refine⟨_,zhS,?_⟩;rintro v O' ⟨rfl,rfl⟩)
        |(refine⟨_,hf1,?_⟩;rintro v O' ⟨rfl,rfl⟩)
        |(refine⟨_,hf2,?_⟩;rintro v O' ⟨rfl,rfl⟩)
        |(refine⟨_,h1,?_⟩;rintro v O' ⟨rfl,rfl⟩)
        |(refine⟨_,h2,?_⟩;rintro v O' ⟨rfl,rfl⟩)
        |intro _)
     all_goals first
      |rfl
   rcases zyp a with⟨t1,p1⟩ |⟨t1,p1⟩ |⟨c1,p1,l1⟩<;>rcases zyp b with⟨t2,p2⟩ |⟨t2,p2⟩ |⟨c2,p2,l2⟩
   ·exact early _ _ (.inl rfl) _ _ p1 p2
   ·exact early _ _ (.inl rfl) _ _ p1 p2
   ·exact early _ _ (.inl rfl) _ _ p1 p2
   ·exact early _ _ (.inr (.inl rfl)) _ _ p1 p2
   ·exact early _ _ (.inr (.inl rfl)) _ _ p1 p2
   ·exact early _ _ (.inr (.inl rfl)) _ _ p1 p2
   ·exact early _ _ (.inr (.inr ⟨rfl,.inl rfl⟩)) _ _ p1 p2
   ·exact early _ _ (.inr (.inr ⟨rfl,.inr rfl⟩)) _ _ p1 p2
   have s1:=zpt c1;have s2:=zpt c2;have hup:=zwm s1 na;have heq:=zAz s1 s2 na nb (zrg ha).2.1;have hsd:zbh a.p=0:=by unfold zbh;rw[s1.p];rfl
   rw[p1]at h1;rw[p2]at h2;rw[hsd,<- hup]at h5;rw[<- heq]at h7;clear heq hup p1 p2 early;generalize zcs a=s at h1 h5 h7 l1;generalize zcs b=t at h2 h7;refine zac { glb:=axG,ann:=[(10,[11,10])] } true Tryd.func4 (by kernel_rfl) rfl ?_
   repeat' (
     (conv=>whnf)
     first
      |exact zaf (by kernel_rfl)
      |refine And.intro ?_ ?_
      |refine zaa ?_ ?_
      |(refine⟨_,hA,?_⟩;rintro v O' ⟨rfl,rfl⟩)
      |(refine⟨_,hB,?_⟩;rintro v O' ⟨rfl,rfl⟩)
      |(refine⟨_,zhS,?_⟩;rintro v O' ⟨rfl,rfl⟩)
      |(refine⟨_,hf1,?_⟩;rintro v O' ⟨rfl,rfl⟩)
      |(refine⟨_,hf2,?_⟩;rintro v O' ⟨rfl,rfl⟩)
      |(refine⟨_,h1,?_⟩;rintro v O' ⟨rfl,rfl⟩)
      |(refine⟨_,h2,?_⟩;rintro v O' ⟨rfl,rfl⟩)
      |(refine⟨_,h5,?_⟩;rintro v O' ⟨rfl,rfl⟩)
      |(refine⟨_,h7,?_⟩;rintro v O' ⟨rfl,rfl⟩)
      |((refine⟨fun vs O _=>∃k:Nat,k<=s.length/\vs=[ai k,ai ((upN (s.take k):Nat):Int)]/\O=[.cells 32 (zb8 a),.cells 32 (zb8 b)],fun vs O=>match vs with |[.cv (.int _ k),_]=>s.length - k.toNat |_=>0,⟨0,Nat.zero_le _,rfl,rfl⟩,?_⟩;rintro vs O _ ⟨k,hk,rfl,rfl⟩))
      |intro _)
   all_goals try have hbd:upN (s.take k)<=s.length:=zCz s k
   all_goals first
    |rfl
    |omega
    |(simp only[zz]at *;omega)
    |(rename_i h1 h2 h3;exact⟨k+1,by(simp only[zz]at *;omega),by rw[zBj h1 h2 h3];rfl,rfl⟩)
    |(rename_i h1 h2;exact⟨k+1,by(simp only[zz]at *;omega),by rw[zBo h1 h2];rfl,rfl⟩)
    |(rename_i h1 h2 h3;exact⟨k+1,by(simp only[zz]at *;omega),by rw[zA2 h1 h3];rfl,rfl⟩)
    |(rename_i h1 h2;exact zBU h1 h2)
    |(rename_i hz;simp at hz;done)
end Go.Proofs.YtmgibblhcoimfaaDoor
