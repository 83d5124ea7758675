import Derived.Test.YtmgibblhcoimfaaDoorQc
set_option linter.unusedSimpArgs false
set_option linter.unusedVariables false
set_option maxRecDepth 100000
namespace Go.Proofs.YtmgibblhcoimfaaDoor
open Go Go.Cx
theorem zqK:∀(l:List Nat) (k:Nat),(l.take k).sum<=l.sum
 |[],k=>by simp
 |a::r,0=>by simp
 |a::r,k+1=>by have:=zqK r k;simp;omega
theorem znN:∀(d:Nat) (n:NodeM),zaz d n=true->NumN n->Few n->(zc2 1 n).length<=250->DSpec Tryd.prog axX axG 23 [.agg (zaK n)] [] (fun v O=>v=.cv (.str (za3 d n))/\O=[])
 |0,n,h,_,_,_=>by cases h
 |d+1,n,h,hN,hF,hz=>by
  have hS:=znw h;have hw:=hF.self;have hA:=hS.atom hN.self hw;have hks:=znC n;have hsk:∀m∈n.kids,zaz d m=true:=fun m hm=>by
   by_cases hc:n.kind<=2
   ·rw[(hS.leaf hc).1]at hm;cases hm
   ·exact(hS.kids (by omega)).2.2 m hm
  have hlf:∀m∈n.kids,(za3 d m).length+5<=705*(zc2 1 m).length:=fun m hm=>zcO d m (hsk m hm) (hN.kid hm) (hF.kid hm)
  exact zv1 (za3 d) n hS.kind (by omega) hA hw hS.rep (fun k hk=>by
   have h1:=ziJ (f:=za3 d) hlf k hk;have h2:=zqK (n.kids.map fun m=>(zc2 1 m).length) k;rw[<- List.map_take]at h2;have h3:=zf9 n;omega) (fun m hm=>by have:=hlf m hm;have:=zkv hm;omega) (fun m hm=>znN d m (hsk m hm) (hN.kid hm) (hF.kid hm) (by have:=zkv hm;omega))
theorem zqd(t:List Nat):DSpec Tryd.prog axX axG 27 [.cv (.str t)] [] (fun v O=>v=zf6 t/\O=[]):=by
 refine zac { glb:=axG } true Tryd.func27 (by kernel_rfl) rfl ?_
 repeat' (
   (conv=>whnf)
   first
    |exact zad (by kernel_rfl)
    |refine And.intro ?_ ?_
    |refine zaa ?_ ?_
    |intro _)
 all_goals first
  |rfl
  |exact zc1 (by assumption)
  |exact zdk (by assumption)
theorem zl5(t:List Nat)(h:decide ((t.length:Int) > 400)=true):DSpec Tryd.prog axX axG 27 [.cv (.str t)] [] (fun v O=>v=.tup [.cv (.str []),ai 4]/\O=[]):=by
 have:=zqd t
 rwa [<- zc1 h]at this
theorem zm2(t:List Nat)(h:decide ((t.length:Int) > 400)=false):DSpec Tryd.prog axX axG 27 [.cv (.str t)] [] (fun v O=>v=.tup [.cv (.str t),ai 0]/\O=[]):=by
 have:=zqd t
 rwa [<- zdk h]at this
theorem zzT(n:NodeM)(hn:Fit n)(hN:NumN n)(hF:Few n)(hz:(zc2 1 n).length<=250):DSpec Tryd.prog axX axG 10 [.agg (zaK n)] [] (fun v O=>v=zwY n/\O=[]):=by
 have hS:=zqc n hn;cases hs:zaz 200 n with
 |false=>
  have he:zbo n≠0:=by unfold zbo;rw[hs];decide
  unfold zwY;rw[hs];refine zac { glb:=axG } true Tryd.func10 (by kernel_rfl) rfl ?_
  repeat' (
    (conv=>whnf)
    first
     |exact zad (by kernel_rfl)
     |refine And.intro ?_ ?_
     |refine zaa ?_ ?_
     |(refine⟨_,hS,?_⟩;rintro v O' ⟨rfl,rfl⟩)
     |intro _)
  all_goals first
   |rfl
   |exact⟨rfl,rfl⟩
   |(exfalso;(simp only[zz]at *;omega))
 |true=>
  have he:zbo n=0:=by unfold zbo;rw[hs];rfl
  rw[he]at hS;have hp:=znN 200 n hs hN hF hz;unfold zwY;rw[hs];refine zac { glb:=axG } true Tryd.func10 (by kernel_rfl) rfl ?_;cases hz4:decide (((za3 200 n).length:Int) > 400)
  all_goals
   repeat' (
     (conv=>whnf)
     first
      |exact zad (by kernel_rfl)
      |refine And.intro ?_ ?_
      |refine zaa ?_ ?_
      |(refine⟨_,hS,?_⟩;rintro v O' ⟨rfl,rfl⟩)
      |(refine⟨_,hp,?_⟩;rintro v O' ⟨rfl,rfl⟩)
      |(refine⟨_,zl5 _ hz4,?_⟩;rintro v O' ⟨rfl,rfl⟩)
      |(refine⟨_,zm2 _ hz4,?_⟩;rintro v O' ⟨rfl,rfl⟩)
      |intro _)
  all_goals first
   |rfl
   |exact⟨rfl,rfl⟩
   |exact zc1 hz4
   |exact zdk hz4
   |(exfalso;(simp only[zz]at *;omega))
theorem zqF(q:QueryM):zgR q=za3 200 q.p++[32,119,105,116,104,105,110,32]++zbX q.within.toNat++zmI q.hv q.hv.length++emP q.em q.em.length:=by
 unfold zgR;simp only[yb3,yb6,yc2,yc1]
set_option maxHeartbeats 8000000 in
theorem zvA(q:QueryM)(hq:QOk q):DSpec Tryd.prog axX axG 8 [.agg (zb8 q)] [] (fun v O=>v=zw2 q/\O=[]):=by
 have hS:=zql q hq.fit;by_cases he:zck q=0
 ·have hs:=zsB he;have hN:=hq.num;have hp:=znN 200 q.p hs.p hN.p hq.few hq.size;have htl:=zcO 200 q.p hs.p hN.p hq.few;have hsz:=hq.size;have hvl0:=hq.hv;have hel0:=hq.em;have hva:∀k,k<q.hv.length->DSpec Tryd.prog axX axG 25 [.agg (ztM (q.hv.getD k default).agg)] [] (fun v O=>v=.cv (.str (zoQ (q.hv.getD k default).agg))/\O=[]):=fun k hk=>zr7 _ (zlj (hs.hv _ (zah hk)).1) (by have:=hq.hvn _ (zah hk);omega)
  have hvc:∀k,k<q.hv.length->DSpec Tryd.prog axX axG 26 [.agg (zlS (q.hv.getD k default).cond)] [] (fun v O=>v=.cv (.str (zdz (q.hv.getD k default).cond))/\O=[]):=fun k hk=>zqC _ (zwI (hs.hv _ (zah hk)).2) (hN.hv _ (zah hk)).1 (hN.hv _ (zah hk)).2
  have hea:∀k,k<q.em.length->DSpec Tryd.prog axX axG 25 [.agg (ztM (q.em.getD k default))] [] (fun v O=>v=.cv (.str (zoQ (q.em.getD k default)))/\O=[]):=fun k hk=>zr7 _ (zlj (hs.em _ (zah hk))) (by have:=hq.emn _ (zah hk);omega)
  have hvp:=zhF (fun x hx=>zct _ (hN.hv x hx).1 (hN.hv x hx).2) hq.hvn;have hep:=zlV hq.emn;have hag:∀k,k<q.hv.length->(zoQ (q.hv.getD k default).agg).length<=37:=fun k hk=>by
   have:=zdj (q.hv.getD k default).agg;have:=hq.hvn _ (zah hk);omega
  have hcg:∀k,k<q.hv.length->(zdz (q.hv.getD k default).cond).length<=22:=fun k hk=>zct _ (hN.hv _ (zah hk)).1 (hN.hv _ (zah hk)).2
  have heg:∀k,k<q.em.length->(zoQ (q.em.getD k default)).length<=37:=fun k hk=>by
   have:=zdj (q.em.getD k default);have:=hq.emn _ (zah hk);omega
  have hw:=zh6 q.within hN.within.1 hN.within.2;have hw20:=za0 19 q.within.toNat (by have:=hN.within.2;omega);have hpA:=hvp _ (Nat.le_refl _);unfold zw2;rw[he]at hS;rw[he];refine zac { glb:=axG,ann:=[(6,[5,6]),(13,[5,7])] } true Tryd.func8 (by kernel_rfl) rfl ?_;cases hz4:decide (((zgR q).length:Int) > 400)
  all_goals rw[zqF]at hz4
  all_goals rw[zqF]
  all_goals
   repeat' (
     (conv=>whnf)
     first
      |exact zad (by kernel_rfl)
      |refine And.intro ?_ ?_
      |refine zaa ?_ ?_
      |(refine⟨_,hS,?_⟩;rintro v O' ⟨rfl,rfl⟩)
      |(refine⟨_,hp,?_⟩;rintro v O' ⟨rfl,rfl⟩)
      |(refine⟨_,hw,?_⟩;rintro v O' ⟨rfl,rfl⟩)
      |(refine⟨_,zl5 (za3 200 q.p++[32,119,105,116,104,105,110,32]++zbX q.within.toNat++zmI q.hv q.hv.length++emP q.em k2) (by rw[show k2=q.em.length by(simp only[zz]at *;omega)];exact hz4),?_⟩;rintro v O' ⟨rfl,rfl⟩)
      |(refine⟨_,zm2 (za3 200 q.p++[32,119,105,116,104,105,110,32]++zbX q.within.toNat++zmI q.hv q.hv.length++emP q.em k2) (by rw[show k2=q.em.length by(simp only[zz]at *;omega)];exact hz4),?_⟩;rintro v O' ⟨rfl,rfl⟩)
      |(refine⟨_,hva k (by(simp only[zz]at *;omega)),?_⟩;rintro v O' ⟨rfl,rfl⟩)
      |(refine⟨_,hvc k (by(simp only[zz]at *;omega)),?_⟩;rintro v O' ⟨rfl,rfl⟩)
      |(refine⟨_,hea k2 (by(simp only[zz]at *;omega)),?_⟩;rintro v O' ⟨rfl,rfl⟩)
      |((have:=hpk1;refine⟨fun vs O _=>∃(k:Nat),k<=q.em.length/\vs=[.cv (.str (za3 200 q.p++[32,119,105,116,104,105,110,32]++zbX q.within.toNat++zmI q.hv q.hv.length++emP q.em k)),ai k]/\O=[.cells 32 (zb8 q)],fun vs O=>match vs with |[_,.cv (.int _ k)]=>q.em.length - k.toNat |_=>0,⟨0,Nat.zero_le _,?_,rfl⟩,?_⟩;rotate_left;rintro vs O _ ⟨k2,hk2,rfl,rfl⟩;have hpk2:=hep _ hk2))
      |((refine⟨fun vs O _=>∃(k:Nat),k<=q.hv.length/\vs=[.cv (.str (za3 200 q.p++[32,119,105,116,104,105,110,32]++zbX q.within.toNat++zmI q.hv k)),ai k]/\O=[.cells 32 (zb8 q)],fun vs O=>match vs with |[_,.cv (.int _ k)]=>q.hv.length - k.toNat |_=>0,⟨0,Nat.zero_le _,?_,rfl⟩,?_⟩;rotate_left;rintro vs O _ ⟨k,hk,rfl,rfl⟩;have hpk1:=hvp _ hk))
      |intro _)
  all_goals try have hg1:=hag k (by(simp only[zz]at *;omega))
  all_goals try have hg2:=hcg k (by(simp only[zz]at *;omega))
  all_goals try have hg3:=heg k2 (by(simp only[zz]at *;omega))
  all_goals first
   |rfl
   |omega
   |(simp only[zz]at *;omega)
   |exact⟨rfl,rfl⟩
   |(exfalso;(simp only[zz]at *;omega))
   |decide
   |((show(_:Nat)<=_);simp only[ya1,yb7,Array.length_toList,List.size_toArray,ya7,yb2,yb3,yb6,nm]at *;omega)
   |exact zc1 hz4
   |exact zdk hz4
   |(rw[show k2=q.em.length by(simp only[zz]at *;omega)];exact zdk hz4)
   | (have h0:k=0:=by(simp only[zz]at *;omega)
      refine⟨k+1,by(simp only[zz]at *;omega),?_,rfl⟩;rw[zge,if_pos h0];simp only[yc1];rfl)
   | (have h0:k≠0:=by(simp only[zz]at *;omega)
      refine⟨k+1,by(simp only[zz]at *;omega),?_,rfl⟩;rw[zge,if_neg h0];simp only[yc1];rfl)
   | (have h0:k2=0:=by(simp only[zz]at *;omega)
      refine⟨k2+1,by(simp only[zz]at *;omega),?_,rfl⟩;rw[ziC,if_pos h0];simp only[yc1];rfl)
   | (have h0:k2≠0:=by(simp only[zz]at *;omega)
      refine⟨k2+1,by(simp only[zz]at *;omega),?_,rfl⟩;rw[ziC,if_neg h0];simp only[yc1];rfl)
   |(rw[show q.hv.length=k by(simp only[zz]at *;omega),emP,yc2];rfl)
   |(rw[zmI,yc2];rfl)
 ·unfold zw2;rw[beq_false_of_ne he];refine zac { glb:=axG } true Tryd.func8 (by kernel_rfl) rfl ?_
  repeat' (
    (conv=>whnf)
    first
     |exact zad (by kernel_rfl)
     |refine And.intro ?_ ?_
     |refine zaa ?_ ?_
     |(refine⟨_,hS,?_⟩;rintro v O' ⟨rfl,rfl⟩)
     |intro _)
  all_goals first
   |rfl
   |exact⟨rfl,rfl⟩
   |(exfalso;(simp only[zz]at *;omega))
end Go.Proofs.YtmgibblhcoimfaaDoor
