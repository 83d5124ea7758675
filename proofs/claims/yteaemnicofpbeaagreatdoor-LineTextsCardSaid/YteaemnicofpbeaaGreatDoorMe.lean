import Derived.Test.YteaemnicofpbeaaGreatDoorMd
import Derived.Test.YteaemnicofpbeaaGreatDoorLt
set_option linter.unusedSimpArgs false
set_option linter.unusedVariables false
set_option maxRecDepth 100000
namespace Go.Proofs.YteaemnicofpbeaaGreatDoor
open Go Go.Cx
theorem zug{x:Int}(h:zen 12 x=false):0<=x/\x<=11:=by
 unfold zen at h;simp only[Bool.or_eq_false_iff,decide_eq_false_iff_not]at h;omega
def Num12(l:List SlotM):Prop:=∀j,j<l.length->zaZ 12 (l.getD j default)=false
theorem Num12.atom{l:List SlotM}(h:Num12 l){j:Nat}(hj:j<l.length):0<=(l.getD j default).atom/\(l.getD j default).atom<=11:=by
 have:=h j hj;unfold zaZ at this;rw[Bool.or_eq_false_iff]at this;exact zug this.1
theorem zqG{g:List Int}{i:Nat}(hi:i<g.length):g.getD i 0∈g:=by
 rw[ya8,yb5 hi];exact List.getElem_mem hi
theorem Num12.guard{l:List SlotM}(h:Num12 l){j:Nat}(hj:j<l.length){i:Nat}(hi:i<(l.getD j default).gs.length):0<=(l.getD j default).gs.getD i 0/\(l.getD j default).gs.getD i 0<=11:=by
 have:=h j hj;unfold zaZ at this;rw[Bool.or_eq_false_iff]at this;have:=List.any_eq_false.1 this.2 _ (zqG hi);exact zug (by rw[Bool.not_eq_true]at this;exact this)
theorem znV{l:List SlotM}(h:zbW l 12=0):Num12 l:=by
 unfold zbW at h;cases h1:((l.length:Int)==0)||decide (((l.getD 0 default).gs.length:Int) > 0) with
 |true=>rw[h1]at h;simp at h
 |false=>
  rw[h1]at h;cases h2:l.any (zaZ 12) with
  |true=>rw[h2]at h;simp at h
  |false=>exact fun j hj=>by simpa using List.any_eq_false.1 h2 _ (zm2 hj)
theorem zus{g:List Int}(h:∀i,i<g.length->0<=g.getD i 0/\g.getD i 0<=11):(gT g).length<=3*g.length:=by
 unfold gT
 induction g with
 |nil=>simp
 |cons x r ih=>
  have h0:0<=x/\x<=11:=h 0 (by simp);have:=ih fun i hi=>h (i+1) (by simpa using hi)
  have hd:=zcX 1 x.toNat (by omega);rw[List.flatMap_cons,ya1,ya7,ya7];omega
theorem znJ{B:Nat}:∀{ss:List (List Nat)},(∀s∈ss,s.length<=B)->(zdF [32] ss).length<=ss.length*(B+1)
 |[],_=>Nat.zero_le _
 |[s],h=>by
  have:=h s ya5;show s.length<=_;simp;omega
 |s::t::r,h=>by
  have ih:=znJ (ss:=t::r) fun x hx=>h x (ya4 _ hx)
  have:=h s ya5;show(s++([32]++zdF [32] (t::r))).length<=(r.length+1+1)*(B+1);rw[ya1,ya1,Nat.add_mul,Nat.one_mul];have e:(t::r).length*(B+1)=(r.length+1)*(B+1):=rfl;rw[e]at ih;simp only[ya7,yb2]at *;omega
theorem zgP{l:List SlotM}(hl:Lgt l)(hn:Num12 l):∀k,k<=l.length->(zbM (l.take k)).length<=2*k/\∀s∈zbM (l.take k),s.length<=60
 |0,_=>⟨Nat.le_refl _,fun s hs=>(by cases hs)⟩
 |k+1,hk=>by
  have ih:=zgP hl hn k (by omega);have hg:=hl.2 k (by omega);have ha:=hn.atom (j:=k) (by omega);have hG:=zus (g:=(l.getD k default).gs) fun i hi=>hn.guard (by omega) hi
  have hd:=zcX 1 (l.getD k default).atom.toNat (by omega);rw[zcr (by omega)];unfold zel;cases decide (0<(l.getD k default).gs.length) with
  |true=>
   refine⟨by simp only[cond_true,ya1,ya7,yb2];omega,fun s hs=>?_⟩;rcases List.mem_append.1 hs with hs |hs
   ·exact ih.2 s hs
   ·rcases List.mem_append.1 hs with hs |hs
    ·obtain rfl:=List.mem_singleton.1 hs;omega
    ·obtain rfl:=List.mem_singleton.1 hs;omega
  |false=>
   refine⟨by simp only[cond_false,ya1,ya7,yb2];omega,fun s hs=>?_⟩;rcases List.mem_append.1 hs with hs |hs
   ·exact ih.2 s hs
   ·rcases List.mem_append.1 hs with hs |hs
    ·cases hs
    ·obtain rfl:=List.mem_singleton.1 hs;omega
theorem zj8{l:List SlotM}(hl:Lgt l)(hn:Num12 l){k:Nat}(hk:k<=l.length):(zfy l k).length<=4000:=by
 have h:=zgP hl hn k hk;rw[<- zgR l k hk];have:=znJ h.2;have:=hl.1;have:(zbM (l.take k)).length*(60+1)<=60*61:=Nat.mul_le_mul (by omega) (Nat.le_refl _);omega
theorem zrY{l:List SlotM}(hl:Lgt l)(hn:Num12 l):(znh l).length<=4000:=by
 have:=zj8 hl hn (k:=l.length) (Nat.le_refl _);rw[<- zgR l _ (Nat.le_refl _),List.take_length]at this;exact this
theorem ztW{l:List SlotM}(hl:Lgt l)(hn:Num12 l){k j:Nat}(hk:k<l.length)(hj:j<=(l.getD k default).gs.length):(gT ((l.getD k default).gs.take j)).length<=60:=by
 have hg:=hl.2 k hk;have:=zus (g:=(l.getD k default).gs.take j) fun i hi=>by
  rw[List.length_take]at hi;have:=hn.guard hk (i:=i) (by omega);rw[ya8]at this ⊢;rw[List.getElem?_take,if_pos (by omega)];exact this
 rw[List.length_take]at this;omega
theorem ztK{s:SlotM}(h:decide ((s.gs.length:Int) > 0)=true):zel s=[gT s.gs]++[zeT s.atom.toNat]:=by
 unfold zel;rw[show decide (0<s.gs.length)=true by simp at h ⊢;exact h];rfl
theorem zs9{s:SlotM}(h:decide ((s.gs.length:Int) > 0)=false):zel s=[zeT s.atom.toNat]:=by
 unfold zel;rw[show decide (0<s.gs.length)=false by simp at h ⊢;exact h];rfl
theorem zwh{l:List SlotM}{k m j:Nat}{el:Nat->List SV}(hk:k<l.length)(hg:decide (((l.getD ((k:Int).toNat) default).gs.length:Int) > 0)=true)(hj:j<=(l.getD k default).gs.length)(hj2:decide ((j:Int)<((l.getD ((k:Int).toNat) default).gs.length:Int))=false)(he:LElA zuh (zbM (l.take k)) m el):LElA zuh (zbM (l.take (k+1))) (m+1+1) (zei (m+1) (zei m el (zgw 1 [.cv (.str (gT ((l.getD k default).gs.take j)))])) (zgw 1 [.cv (.str (zeT (l.getD k default).atom.toNat))])):=by
 rw[Int.toNat_natCast]at hg hj2;have hj3:j=(l.getD k default).gs.length:=by
  rw[decide_eq_false_iff_not]at hj2;omega
 rw[zcr hk,ztK hg,<- yc1,hj3,List.take_length];exact(he.snoc rfl rfl).snoc rfl rfl
theorem zwI{l:List SlotM}{k m:Nat}{el:Nat->List SV}(hk:k<l.length)(hg:decide (((l.getD ((k:Int).toNat) default).gs.length:Int) > 0)=false)(he:LElA zuh (zbM (l.take k)) m el):LElA zuh (zbM (l.take (k+1))) (m+1) (zei m el (zgw 1 [.cv (.str (zeT (l.getD k default).atom.toNat))])):=by
 rw[Int.toNat_natCast]at hg;rw[zcr hk,zs9 hg];exact he.snoc rfl rfl
theorem zcM{l:List SlotM}(hn:Num12 l){k j:Nat}(hk:k<l.length)(hj:decide ((j:Int)<((l.getD ((k:Int).toNat) default).gs.length:Int))=true):j<(l.getD k default).gs.length/\0<=(l.getD k default).gs.getD j 0/\(l.getD k default).gs.getD j 0<=11:=by
 rw[Int.toNat_natCast,decide_eq_true_eq]at hj;exact⟨by omega,hn.guard hk (by omega)⟩
set_option maxHeartbeats 4000000 in
theorem zvt(l:List SlotM)(hl:Lgt l)(hn:Num12 l):DSpec Tryz.prog axX axG 19 [.agg (zbo l)] [] (fun v O=>v=.cv (.str (znh l))/\O=[]):=by
 have h30:=hl.1;have hjoin:∀(k m:Nat) (el:Nat->List SV),l.length<=k->LElA zuh (zbM (l.take k)) m el->DSpec Tryz.prog axX axG 26 [.isl 1 m el,.cv (.str [32])] [] (fun v O=>v=.cv (.str (znh l))/\O=[]):=fun k m el h1 he=>by
  rw[List.take_of_length_le h1]at he;have hp:=zgP hl hn l.length (Nat.le_refl _);rw[List.take_length]at hp;have:=zwC (P:=Tryz.prog) (X:=axX) (gl:=axG) (fj:=26) rfl m el (fun i=>(zbM l).getD i default) (zwk he) [32] (by rw[he.1];omega) (by rw[zrq he];exact Nat.le_trans (zrY hl hn) (by decide));rw[zrq he]at this;exact this
 have hI:∀k j:Nat,k<l.length->decide ((j:Int)<((l.getD ((k:Int).toNat) default).gs.length:Int))=true->DSpec Tryz.prog axX axG 25 [ai ((l.getD ((k:Int).toNat) default).gs.getD ((j:Int).toNat) 0)] [] (fun v O=>v=.cv (.str (zeT ((l.getD k default).gs.getD j 0).toNat))/\O=[]):=fun k j hk hj=>by
  have:=zcM hn hk hj;exact zuo _ this.2.1 (by have:=this.2.2;rw[Int.toNat_natCast,Int.toNat_natCast];omega)
 refine zaw { glb:=axG,ann:=[(3,[12,3]),(8,[23,6,3])],nils:=[(3,[(.slot 3,9,1)])] } true Tryz.func19 (by kernel_rfl) rfl ?_
 repeat' (
   (conv=>whnf)
   first
    |exact zaI (by kernel_rfl)
    |refine And.intro ?_ ?_
    |refine zae ?_ ?_
    |(refine⟨_,hI k j (by(simp only[zz]at *;omega)) (by assumption),?_⟩;rintro v O' ⟨rfl,rfl⟩)
    |(refine⟨_,zuo (l.getD k default).atom (by have:=hn.atom (j:=k) (by(simp only[zz]at *;omega));omega) (by have:=hn.atom (j:=k) (by(simp only[zz]at *;omega));omega),?_⟩;rintro v O' ⟨rfl,rfl⟩)
    |(refine⟨_,hjoin k m el (by(simp only[zz]at *;omega)) he,?_⟩;rintro v O' ⟨rfl,rfl⟩)
    |((have:=he;refine⟨fun vs O _=>∃j:Nat,j<=(l.getD k default).gs.length/\vs=[ai j,.cv (.str (gT ((l.getD k default).gs.take j))),.lst 1]/\O=[.cells 24 (zbo l),.list 9 1 m el,.cells 38 (ziw (l.getD k default))],fun vs O=>match vs with |.cv (.int _ i)::_=>(l.getD k default).gs.length - i.toNat |_=>0,⟨0,Nat.zero_le _,rfl,rfl⟩,?_⟩;rintro vs O _ ⟨j,hj,rfl,rfl⟩))
    |((refine⟨fun vs O _=>∃(k m:Nat) (el:Nat->List SV),k<=l.length/\LElA zuh (zbM (l.take k)) m el/\vs=[ai k,.lst 1]/\O=[.cells 24 (zbo l),.list 9 1 m el],fun vs O=>match vs with |.cv (.int _ k)::_=>l.length - k.toNat |_=>0,⟨0,0,_,Nat.zero_le _,⟨rfl,fun i h=>absurd h (by omega)⟩,rfl,rfl⟩,?_⟩;rintro vs O _ ⟨k,m,el,hk,he,rfl,rfl⟩))
    |intro _)
 all_goals try have hm:=he.1
 all_goals try have hp:=zgP hl hn k (by(simp only[zz]at *;omega))
 all_goals try have hg20:=hl.2 k (by(simp only[zz]at *;omega))
 all_goals try have hgl:=ztW hl hn (k:=k) (j:=j) (by(simp only[zz]at *;omega)) (by(simp only[zz]at *;omega))
 all_goals first
  |rfl
  |omega
  |(simp only[zz]at *;omega)
  |exact⟨k+1,_,_,by(simp only[zz]at *;omega),zwh (by(simp only[zz]at *;omega)) (by assumption) hj (by assumption) he,rfl,rfl⟩
  |exact⟨k+1,_,_,by(simp only[zz]at *;omega),zwI (by(simp only[zz]at *;omega)) (by assumption) he,rfl,rfl⟩
  |(have hq:=zcM hn (k:=k) (j:=j) (by(simp only[zz]at *;omega)) (by assumption);exact⟨j+1,hq.1,by rw[zqa hq.1];rfl,rfl⟩)
  |(have hq:=zcM hn (k:=k) (j:=j) (by(simp only[zz]at *;omega)) (by assumption);have hd:=zcX 1 ((l.getD k default).gs.getD j 0).toNat (by omega);((show(_:Nat)<=_);simp only[ya1,yb7,Array.length_toList,List.size_toArray,ya7,yb2,yb3,List.flatten_nil,nm]at *;omega))
  |(have hq:=(zcM hn (k:=k) (j:=j) (by(simp only[zz]at *;omega)) (by assumption)).1;show(l.getD k default).gs.length - ((j:Int)+1).toNat<(l.getD k default).gs.length - ((j:Int)).toNat;omega)
theorem zsd{x:Int}(h0:0<=x)(h1:x<10):zwO [48,49,50,51,52,53,54,55,56,57] x (x+1)=zeT x.toNat:=by
 obtain⟨n,rfl⟩:∃n:Nat,x=n:=⟨x.toNat,by omega⟩
 have hn:n<10:=by omega
 rw[Int.toNat_natCast,zgQ hn]
 match n,hn with
 |0,_=>rfl
 |1,_=>rfl
 |2,_=>rfl
 |3,_=>rfl
 |4,_=>rfl
 |5,_=>rfl
 |6,_=>rfl
 |7,_=>rfl
 |8,_=>rfl
 |9,_=>rfl
theorem zjF(x:Int)(h0:0<=x)(h1:x<10):DSpec Tryz.prog axX axG 27 [ai x] [] (fun v O=>v=.cv (.str (zeT x.toNat))/\O=[]):=by
 refine zaw { glb:=axG } true Tryz.func27 (by kernel_rfl) rfl ?_
 repeat' (
   (conv=>whnf)
   first
    |exact zaI (by kernel_rfl)
    |refine And.intro ?_ ?_
    |refine zae ?_ ?_
    |intro _)
 all_goals first
  |rfl
  |omega
  |(simp only[zz]at *;omega)
  |(exfalso;(simp only[zz]at *;omega))
  |exact(show x+1<=10 by omega)
  |exact congrArg (fun s=>SV.cv (CV.str s)) (zsd h0 h1)
theorem zpP{x:Int}(h0:0<=x)(h1:¬x<10):zeT (x.tdiv 10).toNat++zeT (x.tmod 10).toNat=zeT x.toNat:=by
 obtain⟨n,rfl⟩:∃n:Nat,x=n:=⟨x.toNat,by omega⟩
 rw[Int.toNat_natCast,Int.tdiv_eq_ediv_of_nonneg h0,Int.tmod_eq_emod_of_nonneg h0];rw[show((n:Int) / 10).toNat=n / 10 by omega,show((n:Int)%10).toNat=n%10 by omega,zgQ (n:=n%10) (by omega)];exact(zlr (n:=n) (by omega)).symm
theorem zma(x:Int)(h0:0<=x)(h1:x<=99):DSpec Tryz.prog axX axG 27 [ai x] [] (fun v O=>v=.cv (.str (zeT x.toNat))/\O=[]):=by
 by_cases h:x<10
 ·exact zjF x h0 h
 ·have ht:=Int.tdiv_eq_ediv_of_nonneg (b:=10) h0;have hm:=Int.tmod_eq_emod_of_nonneg (b:=10) h0;have hd1:=zjF (x.tdiv 10) (by omega) (by omega);have hd2:=zjF (x.tmod 10) (by omega) (by omega);have l1:=zcX 1 (x.tdiv 10).toNat (by omega);have l2:=zcX 1 (x.tmod 10).toNat (by omega);refine zaw { glb:=axG } true Tryz.func27 (by kernel_rfl) rfl ?_
  repeat' (
    (conv=>whnf)
    first
     |exact zaI (by kernel_rfl)
     |refine And.intro ?_ ?_
     |refine zae ?_ ?_
     |(refine⟨_,hd1,?_⟩;rintro v O' ⟨rfl,rfl⟩)
     |(refine⟨_,hd2,?_⟩;rintro v O' ⟨rfl,rfl⟩)
     |intro _)
  all_goals first
   |rfl
   |omega
   |(simp only[zz]at *;omega)
   |(exfalso;(simp only[zz]at *;omega))
   |((show(_:Nat)<=_);simp only[ya1,yb7,Array.length_toList,List.size_toArray,ya7,yb2,yb3,List.flatten_nil,nm]at *;omega)
   |exact congrArg (fun s=>SV.cv (CV.str s)) (zpP h0 h)
noncomputable def zib(l:List SlotM)(k:Nat):List Nat:=bif decide (0<k)then zfy l k++[32]else zfy l k
theorem zsU{l:List SlotM}(hl:Lgt l)(hn:Num12 l){k:Nat}(hk:k<=l.length):(zib l k).length<=4001:=by
 have:=zj8 hl hn hk;unfold zib;cases decide (0<k)<;>simp<;>omega
theorem zws{l:List SlotM}{k:Nat}(h:decide ((k:Int) > 0)=true):zib l k=zfy l k++[32]:=by
 unfold zib;rw[show decide (0<k)=true by simp at h ⊢;exact h];rfl
theorem zwm{l:List SlotM}{k:Nat}(h:decide ((k:Int) > 0)=false):zib l k=zfy l k:=by
 unfold zib;rw[show decide (0<k)=false by simp at h ⊢;omega];rfl
theorem zxv{b:List Nat}{g:List Int}{j:Nat}(hj:j<g.length):b++gT (g.take j)++[33]++zeT (g.getD j 0).toNat=b++gT (g.take (j+1)):=by
 rw[zqa hj];simp
theorem zwq{l:List SlotM}{k j:Nat}(hg:decide (((l.getD ((k:Int).toNat) default).gs.length:Int) > 0)=true)(hj:j<=(l.getD k default).gs.length)(hj2:decide ((j:Int)<((l.getD ((k:Int).toNat) default).gs.length:Int))=false):zib l k++gT ((l.getD k default).gs.take j)++[32]++zeT (l.getD k default).atom.toNat=zfy l (k+1):=by
 rw[Int.toNat_natCast]at hg hj2;have hj3:j=(l.getD k default).gs.length:=by
  rw[decide_eq_false_iff_not]at hj2;omega
 rw[hj3,List.take_length];show _=(zib l k++gT (l.getD k default).gs)++(bif decide (0<(l.getD k default).gs.length) then[32] else[])++zeT (l.getD k default).atom.toNat;rw[show decide (0<(l.getD k default).gs.length)=true by simp at hg ⊢;exact hg];rfl
theorem zwA{l:List SlotM}{k j:Nat}(hg:decide (((l.getD ((k:Int).toNat) default).gs.length:Int) > 0)=false)(hj:j<=(l.getD k default).gs.length):zib l k++gT ((l.getD k default).gs.take j)++zeT (l.getD k default).atom.toNat=zfy l (k+1):=by
 rw[Int.toNat_natCast]at hg;have h0:(l.getD k default).gs=[]:=by
  rw[decide_eq_false_iff_not]at hg;exact List.length_eq_zero_iff.1 (by omega)
 show _=(zib l k++gT (l.getD k default).gs)++(bif decide (0<(l.getD k default).gs.length) then[32] else[])++zeT (l.getD k default).atom.toNat;rw[h0,List.take_nil];exact(congrArg (· ++ _) (yc2 _)).symm
theorem zx9{l:List SlotM}{k:Nat}(hk:k<=l.length)(h:decide ((k:Int)<(l.length:Int))=false):zfy l k=znh l:=by
 have:k=l.length:=by rw[decide_eq_false_iff_not]at h;omega
 subst this;rw[<- zgR l _ (Nat.le_refl _),List.take_length];rfl
set_option maxHeartbeats 4000000 in
theorem zta(l:List SlotM)(hl:Lgt l)(hn:Num12 l):DSpec Tryz.prog axX axG 20 [.agg (zbo l)] [] (fun v O=>v=.cv (.str (znh l))/\O=[]):=by
 have h30:=hl.1;have hI:∀k j:Nat,k<l.length->decide ((j:Int)<((l.getD ((k:Int).toNat) default).gs.length:Int))=true->DSpec Tryz.prog axX axG 27 [ai ((l.getD ((k:Int).toNat) default).gs.getD ((j:Int).toNat) 0)] [] (fun v O=>v=.cv (.str (zeT ((l.getD k default).gs.getD j 0).toNat))/\O=[]):=fun k j hk hj=>by
  have:=zcM hn hk hj;exact zma _ this.2.1 (by have:=this.2.2;rw[Int.toNat_natCast,Int.toNat_natCast];omega)
 refine zaw { glb:=axG,ann:=[(3,[4,3]),(9,[6,3])] } true Tryz.func20 (by kernel_rfl) rfl ?_
 repeat' (
   (conv=>whnf)
   first
    |exact zaI (by kernel_rfl)
    |refine And.intro ?_ ?_
    |refine zae ?_ ?_
    |(refine⟨_,hI k j (by(simp only[zz]at *;omega)) (by assumption),?_⟩;rintro v O' ⟨rfl,rfl⟩)
    |(refine⟨_,zma (l.getD k default).atom (by have:=hn.atom (j:=k) (by(simp only[zz]at *;omega));omega) (by have:=hn.atom (j:=k) (by(simp only[zz]at *;omega));omega),?_⟩;rintro v O' ⟨rfl,rfl⟩)
    |((have:=hk;refine⟨fun vs O _=>∃j:Nat,j<=(l.getD k default).gs.length/\vs=[ai j,.cv (.str (zib l k++gT ((l.getD k default).gs.take j)))]/\O=[.cells 24 (zbo l)],fun vs O=>match vs with |.cv (.int _ i)::_=>(l.getD k default).gs.length - i.toNat |_=>0,⟨0,Nat.zero_le _,by first |(rw[zws (by assumption)];exact congrArg (fun s=>[_,SV.cv (CV.str s)]) (yc2 _).symm) |(rw[zwm (by assumption)];exact congrArg (fun s=>[_,SV.cv (CV.str s)]) (yc2 _).symm),rfl⟩,?_⟩;rintro vs O _ ⟨j,hj,rfl,rfl⟩))
    |((refine⟨fun vs O _=>∃(k:Nat),k<=l.length/\vs=[ai k,.cv (.str (zfy l k))]/\O=[.cells 24 (zbo l)],fun vs O=>match vs with |.cv (.int _ k)::_=>l.length - k.toNat |_=>0,⟨0,Nat.zero_le _,rfl,rfl⟩,?_⟩;rintro vs O _ ⟨k,hk,rfl,rfl⟩))
    |intro _)
 all_goals try have hg20:=hl.2 k (by(simp only[zz]at *;omega))
 all_goals try have hbl:=zsU hl hn (k:=k) (by(simp only[zz]at *;omega))
 all_goals try have htl:=zj8 hl hn (k:=k) (by(simp only[zz]at *;omega))
 all_goals try have hgl:=ztW hl hn (k:=k) (j:=j) (by(simp only[zz]at *;omega)) (by(simp only[zz]at *;omega))
 all_goals try have hat:=zcX 1 (l.getD k default).atom.toNat (by have:=hn.atom (j:=k) (by(simp only[zz]at *;omega));omega)
 all_goals first
  |rfl
  |omega
  |(simp only[zz]at *;omega)
  |((show(_:Nat)<=_);simp only[ya1,yb7,Array.length_toList,List.size_toArray,ya7,yb2,yb3,List.flatten_nil,nm]at *;omega)
  |(have hq:=zcM hn (k:=k) (j:=j) (by(simp only[zz]at *;omega)) (by assumption);exact⟨j+1,hq.1,congrArg (fun s=>[ai ((j:Int)+1),SV.cv (CV.str s)]) (zxv hq.1),rfl⟩)
  |exact⟨k+1,by(simp only[zz]at *;omega),congrArg (fun s=>[ai ((k:Int)+1),SV.cv (CV.str s)]) (zwq (by assumption) hj (by assumption)),rfl⟩
  |exact⟨k+1,by(simp only[zz]at *;omega),congrArg (fun s=>[ai ((k:Int)+1),SV.cv (CV.str s)]) (zwA (by assumption) hj),rfl⟩
  |exact congrArg (fun s=>SV.cv (CV.str s)) (zx9 hk (by assumption))
  |(have hq:=zcM hn (k:=k) (j:=j) (by(simp only[zz]at *;omega)) (by assumption);have hd:=zcX 1 ((l.getD k default).gs.getD j 0).toNat (by omega);((show(_:Nat)<=_);simp only[ya1,yb7,Array.length_toList,List.size_toArray,ya7,yb2,yb3,List.flatten_nil,nm]at *;omega))
  |(have hq:=(zcM hn (k:=k) (j:=j) (by(simp only[zz]at *;omega)) (by assumption)).1;show(l.getD k default).gs.length - ((j:Int)+1).toNat<(l.getD k default).gs.length - ((j:Int)).toNat;omega)
end Go.Proofs.YteaemnicofpbeaaGreatDoor
