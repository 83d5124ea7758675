import Derived.Test.YtmgibblhcoimfaaDoorPh
import Derived.Test.YtmgibblhcoimfaaDoorBc
import Derived.Test.YtmgibblhcoimfaaDoorAv
set_option linter.unusedSimpArgs false
set_option linter.unusedVariables false
set_option maxRecDepth 100000
namespace Go.Proofs.YtmgibblhcoimfaaDoor
open Go Go.Cx
theorem zje{f:NodeM->List Nat}{n:NodeM}(h:n.kind=3):∀k,zef f n k=kidsG f [32,59,32] gS n.kids k
 |0=>rfl
 |k+1=>by
  rw[zef,kidsG,zje h k];have h1:zz0 n=[32,59,32]:=by unfold zz0;rw[h];rfl
  have h2:∀m,zAL n m=gS m.kind:=fun m=>by
   unfold zAL gS;rw[h];cases m.kind==3<;>cases m.kind==4<;>rfl
  rw[h1,h2];cases k<;>rfl
theorem ziC{f:NodeM->List Nat}{n:NodeM}(h:n.kind=4):∀k,zef f n k=kidsG f [32,124,32] gA n.kids k
 |0=>rfl
 |k+1=>by
  rw[zef,kidsG,ziC h k];have h1:zz0 n=[32,124,32]:=by unfold zz0;rw[h];rfl
  have h2:∀m,zAL n m=gA m.kind:=fun m=>by
   unfold zAL gA;rw[h];cases m.kind==3<;>cases m.kind==4<;>rfl
  rw[h1,h2];cases k<;>rfl
theorem zzA{d:Nat}{n:NodeM}(h:1<=n.kind/\n.kind<=4):zaJ (d+1) n=zei (zaJ d) n:=by
 have hc:n.kind=1\/n.kind=2\/n.kind=3\/n.kind=4:=by omega
 rcases hc with hc |hc |hc |hc
 ·rw[zaJ,zei,hc];rfl
 ·rw[zaJ,zei,hc];rfl
 ·rw[zaJ,zje hc,zei,hc];rfl
 ·rw[zaJ,ziC hc,zei,hc];rfl
structure Snd(d:Nat)(n:NodeM):Prop where
 kind:1<=n.kind/\n.kind<=4
 rep:0<=n.mn/\n.mn<=99/\0<=n.mx/\n.mx<=99
 leaf:n.kind<=2->n.kids=[]/\zmk n.atom=true
 rep0:n.kind≠1->n.mn=0/\n.mx=0
 kids:3<=n.kind->2<=n.kids.length/\zjX n.atom=true/\∀m∈n.kids,zbk d m=true
theorem zkE{d:Nat}{n:NodeM}(h:zbk (d+1) n=true):Snd d n:=by
 unfold zbk at h;cases h1:(n.kind==1) with
 |true=>
  rw[h1,cond_true]at h;simp only[ya2,decide_eq_true_eq,beq_iff_eq]at h h1;obtain⟨a,b,c,e,f,g⟩:=h;exact⟨by omega,by omega,fun _=>⟨List.length_eq_zero_iff.1 (by omega),a⟩,fun hh=>absurd h1 hh,fun hh=>by omega⟩
 |false=>
  rw[h1,cond_false]at h;cases h2:(n.kind==2) with
  |true=>
   rw[h2,cond_true]at h;simp only[ya2,decide_eq_true_eq,beq_iff_eq]at h h2;obtain⟨a,b,c,g⟩:=h;exact⟨by omega,by omega,fun _=>⟨List.length_eq_zero_iff.1 (by omega),a⟩,fun hh=>⟨b,c⟩,fun hh=>by omega⟩
  |false=>
   rw[h2,cond_false]at h;cases h3:(n.kind==3||n.kind==4) with
   |false=>rw[h3,cond_false]at h;cases h
   |true=>
    rw[h3,cond_true]at h;simp only[ya2,Bool.or_eq_true,decide_eq_true_eq,beq_iff_eq,Bool.not_eq_true']at h h3;obtain⟨a,b,c,e,f⟩:=h;refine⟨by omega,by omega,fun hh=>by omega,fun hh=>⟨b,c⟩,fun hh=>⟨by omega,e,fun m hm=>?_⟩⟩;have:=List.any_eq_false.1 f m hm;simpa using this
theorem zAo{a:AtomM}(h:zmk a=true)(hn:ANum a)(hw:a.cs.length<=20/\a.name.length<=30):AtomOk a:=by
 unfold zmk at h;simp only[ya2,decide_eq_true_eq,Bool.not_eq_true']at h;obtain⟨⟨h1,h2⟩,_,_,h3⟩:=h;refine⟨⟨h1,h2⟩,hn.bound,by omega,by omega,fun c hc=>⟨?_,hn.cond c hc⟩⟩;have:=List.any_eq_false.1 h3 c hc;unfold opB at this;simp[inB]at this;omega
theorem zxo{a:AtomM}(h:zjX a=true)(hn:ANum a)(hw:a.cs.length<=20/\a.name.length<=30):AtomOk a:=by
 unfold zjX at h;simp only[ya2,beq_iff_eq]at h;obtain⟨h1,_,_,h3,_⟩:=h;have h4:a.cs=[]:=List.length_eq_zero_iff.1 (by omega);exact⟨by omega,hn.bound,by omega,by omega,fun c hc=>by rw[h4]at hc;cases hc⟩
theorem Snd.atom{d:Nat}{n:NodeM}(h:Snd d n)(hn:ANum n.atom)(hw:n.atom.cs.length<=20/\n.atom.name.length<=30):AtomOk n.atom:=by
 by_cases hk:n.kind<=2
 ·exact zAo (h.leaf hk).2 hn hw
 ·exact zxo (h.kids (by omega)).2.1 hn hw
theorem znC{a:AtomM}(h:AtomOk a)(hw:a.cs.length<=20/\a.name.length<=30):(za4 a).length<=690:=by
 have h1:=za2 a;have h2:=ze2 a.cs h.cond a.cs.length (Nat.le_refl _);have h3:(zcC a.cs).length<=461:=by
  unfold zcC;cases decide (a.cs.length > 0) with
  |false=>simp
  |true=>simp only[cond_true,ya1,ya7,yb2];omega
 have h4:(zhA a.name).length<=31:=by
  unfold zhA;split
  ·simp
  ·rename_i b r hq;rw[ya7];unfold nm;rw[yb7,<- hq];omega
 unfold za4;simp only[ya1,ya7,yb2];omega
theorem zwx{n:NodeM}(h:0<=n.mn/\n.mn<=99/\0<=n.mx/\n.mx<=99):(zjf n).length<=7:=by
 have h1:=zbM 1 n.mn.toNat (by omega);have h2:=zbM 1 n.mx.toNat (by omega);unfold zjf;cases n.mn==1&&n.mx==1 with
 |true=>simp
 |false=>simp only[cond_false,ya1,ya7,yb2];omega
theorem zzF(b:Bool)(t:List Nat):(zeA b t).length<=t.length+2:=by
 unfold zeA;cases b<;>simp
theorem zn3{f:NodeM->List Nat}{n:NodeM}(hf:∀m∈n.kids,(f m).length+5<=705*(zbf 1 m).length):∀k,k<=n.kids.length->(zef f n k).length<=705*((n.kids.take k).map fun m=>(zbf 1 m).length).sum
 |0,_=>by simp[zef]
 |k+1,hk=>by
  have ih:=zn3 hf k (by omega);have h1:=hf _ (zdO (l:=n.kids) (k:=k) (by omega));have h2:=zzF (zAL n (atN n.kids k)) (f (atN n.kids k));have h3:(bif k==0 then[]else zz0 n).length<=3:=by
   unfold zz0;cases k==0<;>cases n.kind==3<;>simp
  have h4:(n.kids.take (k+1)).map (fun m=>(zbf 1 m).length)=(n.kids.take k).map (fun m=>(zbf 1 m).length)++[(zbf 1 (atN n.kids k)).length]:=by
   rw[List.take_add_one,yb5 (by omega),zja (by omega),List.map_append];rfl
  rw[zef,h4,List.sum_append];simp only[ya1,List.sum_cons,List.sum_nil];omega
theorem ziD(n:NodeM):(zbf 1 n).length=(n.kids.map fun m=>(zbf 1 m).length).sum+1:=by
 rw[za7,ya7,zf4];congr 2;exact List.map_congr_left fun m _=>ztt m _ _
theorem zyF:∀{l:List Nat} {x:Nat},x∈l->x<=l.sum
 |[],x,h=>by cases h
 |a::r,x,h=>by
  rcases List.mem_cons.1 h with rfl |h
  ·simp
  ·have:=zyF h;simp;omega
theorem zfP{n m:NodeM}(h:m∈n.kids):(zbf 1 m).length<(zbf 1 n).length:=by
 have:=zyF (List.mem_map.2 ⟨m,h,rfl⟩:(zbf 1 m).length∈n.kids.map fun m=>(zbf 1 m).length);rw[ziD n];omega
theorem zt0{A:Type}{f:A->Nat}:∀{l:List A},(∀x∈l,1<=f x)->l.length<=(l.map f).sum
 |[],_=>by simp
 |a::r,h=>by
  have:=zt0 fun x hx=>h x (ya4 _ hx)
  have:=h a ya5;simp;omega
theorem zlp(n:NodeM):1<=(zbf 1 n).length:=by rw[za7];simp
theorem ztu(n:NodeM):n.kids.length<(zbf 1 n).length:=by
 have:=zt0 (f:=fun m=>(zbf 1 m).length) (l:=n.kids) fun m _=>zlp m
 rw[ziD n];omega
theorem zgr:∀(d:Nat) (n:NodeM),zbk d n=true->NumN n->Few n->(zaJ d n).length+5<=705*(zbf 1 n).length
 |0,n,h,_,_=>by cases h
 |d+1,n,h,hN,hF=>by
  have hS:=zkE h;have hw:=hF.self;have ha:=znC (hS.atom hN.self hw) hw;have hr:=zwx hS.rep;have hp:=zlp n;have hc:n.kind=1\/n.kind=2\/3<=n.kind:=by have:=hS.kind;omega
  rcases hc with hc |hc |hc
  ·have:zaJ (d+1) n=za4 n.atom++zjf n:=by rw[zaJ,hc];rfl
   rw[this,ya1];omega
  ·have:zaJ (d+1) n=[110,111,116,32]++za4 n.atom:=by rw[zaJ,hc];rfl
   rw[this,ya1];simp only[ya7,yb2];omega
  ·have:zaJ (d+1) n=zef (zaJ d) n n.kids.length:=by
    rw[zaJ,beq_false_of_ne (show n.kind≠1 by omega),beq_false_of_ne (show n.kind≠2 by omega)];rfl
   have hk:=zn3 (f:=zaJ d) (n:=n) (fun m hm=>zgr d m ((hS.kids hc).2.2 m hm) (hN.kid hm) (hF.kid hm)) n.kids.length (Nat.le_refl _);rw[List.take_length]at hk;rw[this,ziD n];omega
theorem zwc:∀(d:Nat) (n:NodeM),zbk d n=true->NumN n->Few n->(zbf 1 n).length<=250 ->
  (∀bs k el,Byt bs k el->bs.length+(zaJ d n).length<=890000->DSpec Tryd.prog axX axG 28 [.ptr 0 0,.agg (zay n)] (B1 k el) (fun v O=>v=.tup []/\∃k el,Byt (bs++zaJ d n) k el/\O=B1 k el)) /\
  DSpec Tryd.prog axX axG 28 [.ptr 0 0,.agg (zay n)] B0 (fun v O=>v=.tup []/\∃k el,Byt (zaJ d n) k el/\O=B1 k el)
 |0,n,h,_,_,_=>by cases h
 |d+1,n,h,hN,hF,hz=>by
  have hS:=zkE h;have hw:=hF.self;have hA:=hS.atom hN.self hw;have ha:=znC hA hw;have hks:=ztu n;have hln:=zgr (d+1) n h hN hF;have ihk:∀m∈n.kids,_:=fun m hm=>zwc d m (by
   by_cases hc:n.kind<=2
   ·rw[(hS.leaf hc).1]at hm;cases hm
   ·exact(hS.kids (by omega)).2.2 m hm) (hN.kid hm) (hF.kid hm) (by have:=zfP hm;omega)
  rw[zzA hS.kind]at hln ⊢;constructor
  ·intro bs k el hb hl;exact zzr (zaJ d) n (by omega) hA (by omega) hS.rep (fun m hm=>(ihk m hm).1) hb (by omega) (fun h3=>by rw[tN3 (by simpa using h3)]at hl;exact hl) (fun h4=>by rw[tN4 (by simpa using h4)]at hl;exact hl)
  ·exact zro (zw9 (zaJ d) n hS.kind (fun h3=>by have:=(hS.kids h3).1;omega) (by omega) hA (by omega) hS.rep (fun m hm=>(ihk m hm).1) (fun m hm=>(ihk m hm).2) (fun h3=>by rw[tN3 (by simpa using h3)]at hln;omega) (fun h4=>by rw[tN4 (by simpa using h4)]at hln;omega))
end Go.Proofs.YtmgibblhcoimfaaDoor
