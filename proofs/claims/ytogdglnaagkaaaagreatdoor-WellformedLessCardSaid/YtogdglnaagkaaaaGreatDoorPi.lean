import Derived.Test.YtogdglnaagkaaaaGreatDoorPh
import Derived.Test.YtogdglnaagkaaaaGreatDoorGk
import Derived.Test.YtogdglnaagkaaaaGreatDoorAv
set_option linter.unusedSimpArgs false
set_option linter.unusedVariables false
set_option maxRecDepth 100000
namespace Go.Proofs.YtogdglnaagkaaaaGreatDoor
open Go Go.Cx
theorem zuu{f:NodeM->List Nat}{n:NodeM}(h:n.kind=3):∀k,zkp f n k=kidsG f [32,59,32] gS n.kids k
 |0=>rfl
 |k+1=>by
  rw[zkp,kidsG,zuu h k];have h1:zBC n=[32,59,32]:=by unfold zBC;rw[h];rfl
  have h2:∀m,zCb n m=gS m.kind:=fun m=>by
   unfold zCb gS;rw[h];cases m.kind==3<;>cases m.kind==4<;>rfl
  rw[h1,h2];cases k<;>rfl
theorem zuf{f:NodeM->List Nat}{n:NodeM}(h:n.kind=4):∀k,zkp f n k=kidsG f [32,124,32] gA n.kids k
 |0=>rfl
 |k+1=>by
  rw[zkp,kidsG,zuf h k];have h1:zBC n=[32,124,32]:=by unfold zBC;rw[h];rfl
  have h2:∀m,zCb n m=gA m.kind:=fun m=>by
   unfold zCb gA;rw[h];cases m.kind==3<;>cases m.kind==4<;>rfl
  rw[h1,h2];cases k<;>rfl
theorem zBX{d:Nat}{n:NodeM}(h:1<=n.kind/\n.kind<=4):zcZ (d+1) n=zeE (zcZ d) n:=by
 have hc:n.kind=1\/n.kind=2\/n.kind=3\/n.kind=4:=by omega
 rcases hc with hc |hc |hc |hc
 ·rw[zcZ,zeE,hc];rfl
 ·rw[zcZ,zeE,hc];rfl
 ·rw[zcZ,zuu hc,zeE,hc];rfl
 ·rw[zcZ,zuf hc,zeE,hc];rfl
structure Snd(d:Nat)(n:NodeM):Prop where
 kind:1<=n.kind/\n.kind<=4
 rep:0<=n.mn/\n.mn<=99/\0<=n.mx/\n.mx<=99
 leaf:n.kind<=2->n.kids=[]/\zjw n.atom=true
 zAr:n.kind≠1->n.mn=0/\n.mx=0
 kids:3<=n.kind->2<=n.kids.length/\zom n.atom=true/\∀m∈n.kids,zaK d m=true
theorem zzA{d:Nat}{n:NodeM}(h:zaK (d+1) n=true):Snd d n:=by
 unfold zaK at h;cases h1:(n.kind==1) with
 |true=>
  rw[h1,cond_true]at h;simp only[ya2,decide_eq_true_eq,beq_iff_eq]at h h1;obtain⟨a,b,c,e,f,g⟩:=h;exact⟨by omega,by omega,fun _=>⟨List.length_eq_zero_iff.1 (by omega),a⟩,fun hh=>absurd h1 hh,fun hh=>by omega⟩
 |false=>
  rw[h1,cond_false]at h;cases h2:(n.kind==2) with
  |true=>
   rw[h2,cond_true]at h;simp only[ya2,decide_eq_true_eq,beq_iff_eq]at h h2;obtain⟨a,b,c,g⟩:=h;exact⟨by omega,by omega,fun _=>⟨List.length_eq_zero_iff.1 (by omega),a⟩,fun hh=>⟨b,c⟩,fun hh=>by omega⟩
  |false=>
   rw[h2,cond_false]at h;cases h3:(n.kind==3||n.kind==4) with
   |false=>rw[h3,cond_false]at h;cases h
   |true=>
    rw[h3,cond_true]at h;simp only[ya2,Bool.or_eq_true,decide_eq_true_eq,beq_iff_eq,Bool.not_eq_true']at h h3;obtain⟨a,b,c,e,f⟩:=h;refine⟨by omega,by omega,fun hh=>by omega,fun hh=>⟨b,c⟩,fun hh=>⟨by omega,e,fun m hm=>?_⟩⟩;have:=List.any_eq_false.1 f m hm;simpa using this
theorem zBi{a:AtomM}(h:zjw a=true)(hn:ANum a)(hw:a.cs.length<=20/\a.name.length<=30):AtomOk a:=by
 unfold zjw at h;simp only[ya2,decide_eq_true_eq,Bool.not_eq_true']at h;obtain⟨⟨h1,h2⟩,_,_,h3⟩:=h;refine⟨⟨h1,h2⟩,hn.bound,by omega,by omega,fun c hc=>⟨?_,hn.cond c hc⟩⟩;have:=List.any_eq_false.1 h3 c hc;unfold opB at this;simp[inB]at this;omega
theorem zzd{a:AtomM}(h:zom a=true)(hn:ANum a)(hw:a.cs.length<=20/\a.name.length<=30):AtomOk a:=by
 unfold zom at h;simp only[ya2,beq_iff_eq]at h;obtain⟨h1,_,_,h3,_⟩:=h;have h4:a.cs=[]:=List.length_eq_zero_iff.1 (by omega);exact⟨by omega,hn.bound,by omega,by omega,fun c hc=>by rw[h4]at hc;cases hc⟩
theorem Snd.atom{d:Nat}{n:NodeM}(h:Snd d n)(hn:ANum n.atom)(hw:n.atom.cs.length<=20/\n.atom.name.length<=30):AtomOk n.atom:=by
 by_cases hk:n.kind<=2
 ·exact zBi (h.leaf hk).2 hn hw
 ·exact zzd (h.kids (by omega)).2.1 hn hw
theorem znO{a:AtomM}(h:AtomOk a)(hw:a.cs.length<=20/\a.name.length<=30):(zex a).length<=690:=by
 have h1:=zbf a;have h2:=zfi a.cs h.cond a.cs.length (Nat.le_refl _);have h3:(zjR a.cs).length<=461:=by
  unfold zjR;cases decide (a.cs.length > 0) with
  |false=>simp
  |true=>simp only[cond_true,ya1,ya7,yb2];omega
 have h4:(zvF a.name).length<=31:=by
  unfold zvF;split
  ·simp
  ·rename_i b r hq;rw[ya7];unfold nm;rw[yb7,<- hq];omega
 unfold zex;simp only[ya1,ya7,yb2];omega
theorem zyC{n:NodeM}(h:0<=n.mn/\n.mn<=99/\0<=n.mx/\n.mx<=99):(zxh n).length<=7:=by
 have h1:=zbU 1 n.mn.toNat (by omega);have h2:=zbU 1 n.mx.toNat (by omega);unfold zxh;cases n.mn==1&&n.mx==1 with
 |true=>simp
 |false=>simp only[cond_false,ya1,ya7,yb2];omega
theorem zA5(b:Bool)(t:List Nat):(zkt b t).length<=t.length+2:=by
 unfold zkt;cases b<;>simp
theorem zoL{f:NodeM->List Nat}{n:NodeM}(hf:∀m∈n.kids,(f m).length+5<=705*(zaE 1 m).length):∀k,k<=n.kids.length->(zkp f n k).length<=705*((n.kids.take k).map fun m=>(zaE 1 m).length).sum
 |0,_=>by simp[zkp]
 |k+1,hk=>by
  have ih:=zoL hf k (by omega);have h1:=hf _ (zdN (l:=n.kids) (k:=k) (by omega));have h2:=zA5 (zCb n (atN n.kids k)) (f (atN n.kids k));have h3:(bif k==0 then[]else zBC n).length<=3:=by
   unfold zBC;cases k==0<;>cases n.kind==3<;>simp
  have h4:(n.kids.take (k+1)).map (fun m=>(zaE 1 m).length)=(n.kids.take k).map (fun m=>(zaE 1 m).length)++[(zaE 1 (atN n.kids k)).length]:=by
   rw[List.take_add_one,yb5 (by omega),zkV (by omega),List.map_append];rfl
  rw[zkp,h4,List.sum_append];simp only[ya1,List.sum_cons,List.sum_nil];omega
theorem zjb(n:NodeM):(zaE 1 n).length=(n.kids.map fun m=>(zaE 1 m).length).sum+1:=by
 rw[za3,ya7,zga];congr 2;exact List.map_congr_left fun m _=>zuE m _ _
theorem zzK:∀{l:List Nat} {x:Nat},x∈l->x<=l.sum
 |[],x,h=>by cases h
 |a::r,x,h=>by
  rcases List.mem_cons.1 h with rfl |h
  ·simp
  ·have:=zzK h;simp;omega
theorem zym{n m:NodeM}(h:m∈n.kids):(zaE 1 m).length<(zaE 1 n).length:=by
 have:=zzK (List.mem_map.2 ⟨m,h,rfl⟩:(zaE 1 m).length∈n.kids.map fun m=>(zaE 1 m).length);rw[zjb n];omega
theorem zvo{A:Type}{f:A->Nat}:∀{l:List A},(∀x∈l,1<=f x)->l.length<=(l.map f).sum
 |[],_=>by simp
 |a::r,h=>by
  have:=zvo fun x hx=>h x (ya4 _ hx)
  have:=h a ya5;simp;omega
theorem zr1(n:NodeM):1<=(zaE 1 n).length:=by rw[za3];simp
theorem zuw(n:NodeM):n.kids.length<(zaE 1 n).length:=by
 have:=zvo (f:=fun m=>(zaE 1 m).length) (l:=n.kids) fun m _=>zr1 m
 rw[zjb n];omega
theorem zgN:∀(d:Nat) (n:NodeM),zaK d n=true->NumN n->Few n->(zcZ d n).length+5<=705*(zaE 1 n).length
 |0,n,h,_,_=>by cases h
 |d+1,n,h,hN,hF=>by
  have hS:=zzA h;have hw:=hF.self;have ha:=znO (hS.atom hN.self hw) hw;have hr:=zyC hS.rep;have hp:=zr1 n;have hc:n.kind=1\/n.kind=2\/3<=n.kind:=by have:=hS.kind;omega
  rcases hc with hc |hc |hc
  ·have:zcZ (d+1) n=zex n.atom++zxh n:=by rw[zcZ,hc];rfl
   rw[this,ya1];omega
  ·have:zcZ (d+1) n=[110,111,116,32]++zex n.atom:=by rw[zcZ,hc];rfl
   rw[this,ya1];simp only[ya7,yb2];omega
  ·have:zcZ (d+1) n=zkp (zcZ d) n n.kids.length:=by
    rw[zcZ,beq_false_of_ne (show n.kind≠1 by omega),beq_false_of_ne (show n.kind≠2 by omega)];rfl
   have hk:=zoL (f:=zcZ d) (n:=n) (fun m hm=>zgN d m ((hS.kids hc).2.2 m hm) (hN.kid hm) (hF.kid hm)) n.kids.length (Nat.le_refl _);rw[List.take_length]at hk;rw[this,zjb n];omega
theorem zvm:∀(d:Nat) (n:NodeM),zaK d n=true->NumN n->Few n->(zaE 1 n).length<=250 ->
  (∀bs k el,Byt bs k el->bs.length+(zcZ d n).length<=890000->DSpec Tryz.prog axX axG 53 [.ptr 0 0,.agg (zah n)] (B1 k el) (fun v O=>v=.tup []/\∃k el,Byt (bs++zcZ d n) k el/\O=B1 k el)) /\
  DSpec Tryz.prog axX axG 53 [.ptr 0 0,.agg (zah n)] B0 (fun v O=>v=.tup []/\∃k el,Byt (zcZ d n) k el/\O=B1 k el)
 |0,n,h,_,_,_=>by cases h
 |d+1,n,h,hN,hF,hz=>by
  have hS:=zzA h;have hw:=hF.self;have hA:=hS.atom hN.self hw;have ha:=znO hA hw;have hks:=zuw n;have hln:=zgN (d+1) n h hN hF;have ihk:∀m∈n.kids,_:=fun m hm=>zvm d m (by
   by_cases hc:n.kind<=2
   ·rw[(hS.leaf hc).1]at hm;cases hm
   ·exact(hS.kids (by omega)).2.2 m hm) (hN.kid hm) (hF.kid hm) (by have:=zym hm;omega)
  rw[zBX hS.kind]at hln ⊢;constructor
  ·intro bs k el hb hl;exact zAZ (zcZ d) n (by omega) hA (by omega) hS.rep (fun m hm=>(ihk m hm).1) hb (by omega) (fun h3=>by rw[tN3 (by simpa using h3)]at hl;exact hl) (fun h4=>by rw[tN4 (by simpa using h4)]at hl;exact hl)
  ·exact zrZ (zyg (zcZ d) n hS.kind (fun h3=>by have:=(hS.kids h3).1;omega) (by omega) hA (by omega) hS.rep (fun m hm=>(ihk m hm).1) (fun m hm=>(ihk m hm).2) (fun h3=>by rw[tN3 (by simpa using h3)]at hln;omega) (fun h4=>by rw[tN4 (by simpa using h4)]at hln;omega))
end Go.Proofs.YtogdglnaagkaaaaGreatDoor
