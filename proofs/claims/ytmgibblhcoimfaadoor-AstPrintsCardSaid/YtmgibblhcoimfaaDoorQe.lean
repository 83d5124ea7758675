import Derived.Test.YtmgibblhcoimfaaDoorQd
set_option linter.unusedSimpArgs false
set_option linter.unusedVariables false
set_option maxRecDepth 100000
namespace Go.Proofs.YtmgibblhcoimfaaDoor
open Go Go.Cx
theorem ziS(t:List Nat):zf6 t=.tup [.cv (.str []),ai 4]\/zf6 t=.tup [.cv (.str t),ai 0]:=by
 cases h:decide ((t.length:Int) > 400) with
 |true=>exact .inl (zc1 h).symm
 |false=>exact .inr (zdk h).symm
theorem zt7(n:NodeM):∃t e,zwY n=.tup [.cv (.str t),ai e]:=by
 unfold zwY;cases zaz 200 n with
 |true=>rcases ziS (za3 200 n)with h |h<;>exact⟨_,_,h⟩
 |false=>exact⟨_,_,rfl⟩
theorem zrP(q:QueryM):∃t e,zw2 q=.tup [.cv (.str t),ai e]:=by
 unfold zw2;cases zck q==0 with
 |true=>rcases ziS (zgR q)with h |h<;>exact⟨_,_,h⟩
 |false=>exact⟨_,_,rfl⟩
theorem zqZ(s:List Nat):zbi s s=true:=by rw[zek];simp
set_option maxHeartbeats 8000000 in
theorem zn2(q:QueryM)(s:List Nat)(hN:QNum q):DSpec Tryd.prog axX axG 3 [.agg (zb8 q),.cv (.str s)] [] (fun v _=>v=.cv (.bool true)):=by
 have hL:=zvi q;cases hl:zcu q with
 |false=>
  rw[hl]at hL;refine zac { glb:=axG } true Tryd.func3 (by kernel_rfl) rfl ?_
  repeat' (
    (conv=>whnf)
    first
     |exact zad (by kernel_rfl)
     |refine And.intro ?_ ?_
     |refine zaa ?_ ?_
     |(refine⟨_,hL,?_⟩;rintro v O' ⟨rfl,rfl⟩)
     |(refine⟨_,zqH,?_⟩;rintro v O' ⟨rfl,rfl⟩)
     |intro _)
  all_goals first
   |rfl
 |true=>
  rw[hl]at hL;have hq:=QOk.of hl hN;have h1:=zyl q hq;have h2:=zvA q hq;have h3:=zBe q.p hq.fit.fit hN.p hq.few hq.size;have h4:=zzT q.p hq.fit.fit hN.p hq.few hq.size;have h5:=zsb q hq.fit;have h6:=zql q hq.fit;have h7:=zoq q.p hq.fit.fit;have h8:=zqc q.p hq.fit.fit;have h9:=zsh s;have h10:=znU s;obtain⟨t1,e1,p1⟩:=zrP q;obtain⟨t2,e2,p2⟩:=zt7 q.p;rw[p1]at h1 h2;rw[p2]at h3 h4;generalize zck q=c1 at h5 h6;generalize zbo q.p=c2 at h7 h8;generalize zd4 s=b at h9 h10;refine zac { glb:=axG } true Tryd.func3 (by kernel_rfl) rfl ?_
  repeat' (
    (conv=>whnf)
    first
     |exact zad (by kernel_rfl)
     |refine And.intro ?_ ?_
     |refine zaa ?_ ?_
     |(refine⟨_,hL,?_⟩;rintro v O' ⟨rfl,rfl⟩)
     |(refine⟨_,zqH,?_⟩;rintro v O' ⟨rfl,rfl⟩)
     |(refine⟨_,h1,?_⟩;rintro v O' ⟨rfl,rfl⟩)
     |(refine⟨_,h2,?_⟩;rintro v O' ⟨rfl,rfl⟩)
     |(refine⟨_,h3,?_⟩;rintro v O' ⟨rfl,rfl⟩)
     |(refine⟨_,h4,?_⟩;rintro v O' ⟨rfl,rfl⟩)
     |(refine⟨_,h5,?_⟩;rintro v O' ⟨rfl,rfl⟩)
     |(refine⟨_,h6,?_⟩;rintro v O' ⟨rfl,rfl⟩)
     |(refine⟨_,h7,?_⟩;rintro v O' ⟨rfl,rfl⟩)
     |(refine⟨_,h8,?_⟩;rintro v O' ⟨rfl,rfl⟩)
     |(refine⟨_,h9,?_⟩;rintro v O' ⟨rfl,rfl⟩)
     |(refine⟨_,h10,?_⟩;rintro v O' ⟨rfl,rfl⟩)
     |intro _)
  all_goals first
   |rfl
   |(rename_i hz;rw[zqZ]at hz;cases hz;done)
   |(rename_i hz;simp at hz;done)
end Go.Proofs.YtmgibblhcoimfaaDoor
