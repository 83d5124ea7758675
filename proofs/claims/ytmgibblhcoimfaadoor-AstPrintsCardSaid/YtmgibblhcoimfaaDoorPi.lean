import Derived.Test.YtmgibblhcoimfaaDoorPh
import Derived.Test.YtmgibblhcoimfaaDoorBc
import Derived.Test.YtmgibblhcoimfaaDoorAv
set_option linter.unusedSimpArgs false
set_option linter.unusedVariables false
set_option maxRecDepth 100000
namespace Go.Proofs.YtmgibblhcoimfaaDoor
open Go Go.Cx
theorem zs4{f:NodeM->List Nat}{n:NodeM}(h:n.kind=3):∀k,zeP f n k=kidsG f [32,59,32] gS n.kids k
 |0=>rfl
 |k+1=>by
  rw[zeP,kidsG,zs4 h k];have h1:zrO n=[32,59,32]:=by unfold zrO;rw[h];rfl
  have h2:∀m,zoC n m=gS m.kind:=fun m=>by
   unfold zoC gS;rw[h];cases m.kind==3<;>cases m.kind==4<;>rfl
  rw[h1,h2];cases k<;>rfl
theorem zuH{f:NodeM->List Nat}{n:NodeM}(h:n.kind=4):∀k,zeP f n k=kidsG f [32,124,32] gA n.kids k
 |0=>rfl
 |k+1=>by
  rw[zeP,kidsG,zuH h k];have h1:zrO n=[32,124,32]:=by unfold zrO;rw[h];rfl
  have h2:∀m,zoC n m=gA m.kind:=fun m=>by
   unfold zoC gA;rw[h];cases m.kind==3<;>cases m.kind==4<;>rfl
  rw[h1,h2];cases k<;>rfl
theorem zsd{d:Nat}{n:NodeM}(h:1<=n.kind/\n.kind<=4):za3 (d+1) n=zeg (za3 d) n:=by
 have hc:n.kind=1\/n.kind=2\/n.kind=3\/n.kind=4:=by omega
 rcases hc with hc |hc |hc |hc
 ·rw[za3,zeg,hc];rfl
 ·rw[za3,zeg,hc];rfl
 ·rw[za3,zs4 hc,zeg,hc];rfl
 ·rw[za3,zuH hc,zeg,hc];rfl
structure Snd(d:Nat)(n:NodeM):Prop where
 kind:1<=n.kind/\n.kind<=4
 rep:0<=n.mn/\n.mn<=99/\0<=n.mx/\n.mx<=99
 leaf:n.kind<=2->n.kids=[]/\zia n.atom=true
 zwS:n.kind≠1->n.mn=0/\n.mx=0
 kids:3<=n.kind->2<=n.kids.length/\znm n.atom=true/\∀m∈n.kids,zaz d m=true
theorem znw{d:Nat}{n:NodeM}(h:zaz (d+1) n=true):Snd d n:=by
 unfold zaz at h;cases h1:(n.kind==1) with
 |true=>
  rw[h1,cond_true]at h;simp only[ya2,decide_eq_true_eq,beq_iff_eq]at h h1;obtain⟨a,b,c,e,f,g⟩:=h;exact⟨by omega,by omega,fun _=>⟨List.length_eq_zero_iff.1 (by omega),a⟩,fun hh=>absurd h1 hh,fun hh=>by omega⟩
 |false=>
  rw[h1,cond_false]at h;cases h2:(n.kind==2) with
  |true=>
   rw[h2,cond_true]at h;simp only[ya2,decide_eq_true_eq,beq_iff_eq]at h h2;obtain⟨a,b,c,g⟩:=h;exact⟨by omega,by omega,fun _=>⟨List.length_eq_zero_iff.1 (by omega),a⟩,fun hh=>⟨b,c⟩,fun hh=>by omega⟩
  |false=>
   rw[h2,cond_false]at h;cases h3:(n.kind==3||n.kind==4) with
   |false=>rw[h3,cond_false]at h;cases h
   |true=>
    rw[h3,cond_true]at h;simp only[ya2,Bool.or_eq_true,decide_eq_true_eq,beq_iff_eq,Bool.not_eq_true']at h h3;obtain⟨a,b,c,e,f⟩:=h;refine⟨by omega,by omega,fun hh=>by omega,fun hh=>⟨b,c⟩,fun hh=>⟨by omega,e,fun m hm=>?_⟩⟩;have:=List.any_eq_false.1 f m hm;simpa using this
theorem zyo{a:AtomM}(h:zia a=true)(hn:ANum a)(hw:a.cs.length<=20/\a.name.length<=30):AtomOk a:=by
 unfold zia at h;simp only[ya2,decide_eq_true_eq,Bool.not_eq_true']at h;obtain⟨⟨h1,h2⟩,_,_,h3⟩:=h;refine⟨⟨h1,h2⟩,hn.bound,by omega,by omega,fun c hc=>⟨?_,hn.cond c hc⟩⟩;have:=List.any_eq_false.1 h3 c hc;unfold opB at this;simp[inB]at this;omega
theorem zvY{a:AtomM}(h:znm a=true)(hn:ANum a)(hw:a.cs.length<=20/\a.name.length<=30):AtomOk a:=by
 unfold znm at h;simp only[ya2,beq_iff_eq]at h;obtain⟨h1,_,_,h3,_⟩:=h;have h4:a.cs=[]:=List.length_eq_zero_iff.1 (by omega);exact⟨by omega,hn.bound,by omega,by omega,fun c hc=>by rw[h4]at hc;cases hc⟩
theorem Snd.atom{d:Nat}{n:NodeM}(h:Snd d n)(hn:ANum n.atom)(hw:n.atom.cs.length<=20/\n.atom.name.length<=30):AtomOk n.atom:=by
 by_cases hk:n.kind<=2
 ·exact zyo (h.leaf hk).2 hn hw
 ·exact zvY (h.kids (by omega)).2.1 hn hw
theorem ziN{a:AtomM}(h:AtomOk a)(hw:a.cs.length<=20/\a.name.length<=30):(zcq a).length<=690:=by
 have h1:=za2 a;have h2:=zdy a.cs h.cond a.cs.length (Nat.le_refl _);have h3:(zh1 a.cs).length<=461:=by
  unfold zh1;cases decide (a.cs.length > 0) with
  |false=>simp
  |true=>simp only[cond_true,ya1,ya7,yb2];omega
 have h4:(ztS a.name).length<=31:=by
  unfold ztS;split
  ·simp
  ·rename_i b r hq;rw[ya7];unfold nm;rw[yb7,<- hq];omega
 unfold zcq;simp only[ya1,ya7,yb2];omega
theorem zv6{n:NodeM}(h:0<=n.mn/\n.mn<=99/\0<=n.mx/\n.mx<=99):(ztC n).length<=7:=by
 have h1:=za0 1 n.mn.toNat (by omega);have h2:=za0 1 n.mx.toNat (by omega);unfold ztC;cases n.mn==1&&n.mx==1 with
 |true=>simp
 |false=>simp only[cond_false,ya1,ya7,yb2];omega
theorem zyf(b:Bool)(t:List Nat):(zjl b t).length<=t.length+2:=by
 unfold zjl;cases b<;>simp
theorem ziJ{f:NodeM->List Nat}{n:NodeM}(hf:∀m∈n.kids,(f m).length+5<=705*(zc2 1 m).length):∀k,k<=n.kids.length->(zeP f n k).length<=705*((n.kids.take k).map fun m=>(zc2 1 m).length).sum
 |0,_=>by simp[zeP]
 |k+1,hk=>by
  have ih:=ziJ hf k (by omega);have h1:=hf _ (zd7 (l:=n.kids) (k:=k) (by omega));have h2:=zyf (zoC n (atN n.kids k)) (f (atN n.kids k));have h3:(bif k==0 then[]else zrO n).length<=3:=by
   unfold zrO;cases k==0<;>cases n.kind==3<;>simp
  have h4:(n.kids.take (k+1)).map (fun m=>(zc2 1 m).length)=(n.kids.take k).map (fun m=>(zc2 1 m).length)++[(zc2 1 (atN n.kids k)).length]:=by
   rw[List.take_add_one,yb5 (by omega),zw6 (by omega),List.map_append];rfl
  rw[zeP,h4,List.sum_append];simp only[ya1,List.sum_cons,List.sum_nil];omega
theorem zf9(n:NodeM):(zc2 1 n).length=(n.kids.map fun m=>(zc2 1 m).length).sum+1:=by
 rw[zch,ya7,zfT];congr 2;exact List.map_congr_left fun m _=>zub m _ _
theorem zwK:∀{l:List Nat} {x:Nat},x∈l->x<=l.sum
 |[],x,h=>by cases h
 |a::r,x,h=>by
  rcases List.mem_cons.1 h with rfl |h
  ·simp
  ·have:=zwK h;simp;omega
theorem zkv{n m:NodeM}(h:m∈n.kids):(zc2 1 m).length<(zc2 1 n).length:=by
 have:=zwK (List.mem_map.2 ⟨m,h,rfl⟩:(zc2 1 m).length∈n.kids.map fun m=>(zc2 1 m).length);rw[zf9 n];omega
theorem zsc{A:Type}{f:A->Nat}:∀{l:List A},(∀x∈l,1<=f x)->l.length<=(l.map f).sum
 |[],_=>by simp
 |a::r,h=>by
  have:=zsc fun x hx=>h x (ya4 _ hx)
  have:=h a ya5;simp;omega
theorem zpu(n:NodeM):1<=(zc2 1 n).length:=by rw[zch];simp
theorem znC(n:NodeM):n.kids.length<(zc2 1 n).length:=by
 have:=zsc (f:=fun m=>(zc2 1 m).length) (l:=n.kids) fun m _=>zpu m
 rw[zf9 n];omega
theorem zcO:∀(d:Nat) (n:NodeM),zaz d n=true->NumN n->Few n->(za3 d n).length+5<=705*(zc2 1 n).length
 |0,n,h,_,_=>by cases h
 |d+1,n,h,hN,hF=>by
  have hS:=znw h;have hw:=hF.self;have ha:=ziN (hS.atom hN.self hw) hw;have hr:=zv6 hS.rep;have hp:=zpu n;have hc:n.kind=1\/n.kind=2\/3<=n.kind:=by have:=hS.kind;omega
  rcases hc with hc |hc |hc
  ·have:za3 (d+1) n=zcq n.atom++ztC n:=by rw[za3,hc];rfl
   rw[this,ya1];omega
  ·have:za3 (d+1) n=[110,111,116,32]++zcq n.atom:=by rw[za3,hc];rfl
   rw[this,ya1];simp only[ya7,yb2];omega
  ·have:za3 (d+1) n=zeP (za3 d) n n.kids.length:=by
    rw[za3,beq_false_of_ne (show n.kind≠1 by omega),beq_false_of_ne (show n.kind≠2 by omega)];rfl
   have hk:=ziJ (f:=za3 d) (n:=n) (fun m hm=>zcO d m ((hS.kids hc).2.2 m hm) (hN.kid hm) (hF.kid hm)) n.kids.length (Nat.le_refl _);rw[List.take_length]at hk;rw[this,zf9 n];omega
theorem zoI:∀(d:Nat) (n:NodeM),zaz d n=true->NumN n->Few n->(zc2 1 n).length<=250 ->
  (∀bs k el,Byt bs k el->bs.length+(za3 d n).length<=890000->DSpec Tryd.prog axX axG 28 [.ptr 0 0,.agg (zaK n)] (B1 k el) (fun v O=>v=.tup []/\∃k el,Byt (bs++za3 d n) k el/\O=B1 k el)) /\
  DSpec Tryd.prog axX axG 28 [.ptr 0 0,.agg (zaK n)] B0 (fun v O=>v=.tup []/\∃k el,Byt (za3 d n) k el/\O=B1 k el)
 |0,n,h,_,_,_=>by cases h
 |d+1,n,h,hN,hF,hz=>by
  have hS:=znw h;have hw:=hF.self;have hA:=hS.atom hN.self hw;have ha:=ziN hA hw;have hks:=znC n;have hln:=zcO (d+1) n h hN hF;have ihk:∀m∈n.kids,_:=fun m hm=>zoI d m (by
   by_cases hc:n.kind<=2
   ·rw[(hS.leaf hc).1]at hm;cases hm
   ·exact(hS.kids (by omega)).2.2 m hm) (hN.kid hm) (hF.kid hm) (by have:=zkv hm;omega)
  rw[zsd hS.kind]at hln ⊢;constructor
  ·intro bs k el hb hl;exact zyw (za3 d) n (by omega) hA (by omega) hS.rep (fun m hm=>(ihk m hm).1) hb (by omega) (fun h3=>by rw[tN3 (by simpa using h3)]at hl;exact hl) (fun h4=>by rw[tN4 (by simpa using h4)]at hl;exact hl)
  ·exact zqi (zvq (za3 d) n hS.kind (fun h3=>by have:=(hS.kids h3).1;omega) (by omega) hA (by omega) hS.rep (fun m hm=>(ihk m hm).1) (fun m hm=>(ihk m hm).2) (fun h3=>by rw[tN3 (by simpa using h3)]at hln;omega) (fun h4=>by rw[tN4 (by simpa using h4)]at hln;omega))
end Go.Proofs.YtmgibblhcoimfaaDoor
