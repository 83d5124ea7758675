import Derived.Test.YtogdglnaagkaaaaGreatDoorPb
import Derived.Test.YtogdglnaagkaaaaGreatDoorGp
set_option linter.unusedSimpArgs false
set_option linter.unusedVariables false
set_option maxRecDepth 100000
namespace Go.Proofs.YtogdglnaagkaaaaGreatDoor
open Go Go.Cx
theorem zlG(x:Int)(h0:0<=x)(h1:x<=18446744073709551615):DSpec Tryz.prog axX axG 92 [au x] [] (fun v O=>v=.cv (.str (zwQ x.toNat))/\O=[]):=by
 obtain⟨y,rfl⟩:∃y:Nat,x=y:=⟨x.toNat,by omega⟩
 exact zvV y (by omega)
def zxQ(l:List (List Nat)):Nat->List SV:=fun i=>[.cv (.str (l.getD i default))]
theorem zeF{l:List (List Nat)}{k:Nat}(hk:k<l.length):(l.take (k+1)).flatten=(l.take k).flatten++l.getD k default:=by
 rw[List.take_add_one,List.flatten_append,ya8,yb5 hk];simp
theorem zwa(l:List (List Nat))(k:Nat):(l.take k).flatten.length<=l.flatten.length:=by
 conv=>rhs;rw[<- List.take_append_drop k l,List.flatten_append,ya1]
 omega
theorem zq1{bs:List Nat}{n n':Nat}{el el':Nat->List SV}{l:List (List Nat)}{k:Nat}(hj:Byt (bs++(l.take k).flatten) n' el')(hk:k<l.length)(hb:Byt bs n el)(hl:n+l.flatten.length<=1000000):n'+(l.getD k default).length<=1000000:=by
 have h1:=hj.1;have h2:=hb.1;have h3:=zwa l (k+1);rw[zeF hk]at h3;simp only[ya1]at *;omega
set_option maxHeartbeats 1000000 in
theorem zCF{bs:List Nat}{n:Nat}{el:Nat->List SV}(hb:Byt bs n el)(l:List (List Nat))(hs:∀s∈l,∀b∈s,b<256)(hn:l.length<=1000)(hl:n+l.flatten.length<=1000000):DSpec Tryz.prog axX axG 54 [.ptr 0 0,.isl 1 l.length (zxQ l)] (B1 n el) (fun v O=>v=.tup []/\∃n el,Byt (bs++l.flatten) n el/\O=B1 n el):=by
 refine zac { glb:=axG,ann:=[(1,[8])] } true Tryz.func54 (by kernel_rfl) rfl ?_
 repeat' (
   (conv=>whnf)
   first
    |exact zad (by kernel_rfl)
    |refine And.intro ?_ ?_
    |refine zaa ?_ ?_
    |(refine⟨_,zq4 (s:=l.getD k default) hj (hs _ (zak (by(simp only[zz]at *;omega)))) (zq1 hj (by(simp only[zz]at *;omega)) hb hl),?_⟩;rintro v O' ⟨rfl,n'',el'',hj2,rfl⟩)
    |((refine⟨fun vs O _=>∃(k:Nat) (n':Nat) (el':Nat->List SV),k<=l.length/\Byt (bs++(l.take k).flatten) n' el'/\vs=[ai k]/\O=B1 n' el',fun vs O=>match vs with |[.cv (.int _ k)]=>l.length - k.toNat |_=>0,⟨0,n,el,Nat.zero_le _,by simpa using hb,rfl,rfl⟩,?_⟩;rintro vs O _ ⟨k,n',el',hk,hj,rfl,rfl⟩))
    |intro _)
 all_goals first
  |rfl
  |omega
  |(simp only[zz]at *;omega)
  |(exfalso;(simp only[zz]at *;omega))
  |exact⟨k+1,_,_,by(simp only[zz]at *;omega),by rw[zeF (by(simp only[zz]at *;omega)),<- yc1];exact hj2,rfl,rfl⟩
  |exact⟨_,_,by rw[show l.flatten=(l.take k).flatten by rw[List.take_of_length_le (by(simp only[zz]at *;omega))]];exact hj,rfl⟩
set_option maxHeartbeats 1000000 in
theorem zDR(l:List (List Nat))(hs:∀s∈l,∀b∈s,b<256)(h0:0<l.length)(hn:l.length<=1000)(hl:l.flatten.length<=1000000):DSpec Tryz.prog axX axG 54 [.ptr 0 0,.isl 1 l.length (zxQ l)] B0 (fun v O=>v=.tup []/\∃n el,Byt l.flatten n el/\O=B1 n el):=by
 refine zac { glb:=axG,ann:=[(1,[8])] } true Tryz.func54 (by kernel_rfl) rfl ?_
 repeat' (
   (conv=>whnf)
   first
    |exact zad (by kernel_rfl)
    |refine And.intro ?_ ?_
    |refine zaa ?_ ?_
    |(refine⟨_,zq4 (s:=l.getD k default) hj (hs _ (zak (by(simp only[zz]at *;omega)))) (zq1 (bs:=[]) hj (by(simp only[zz]at *;omega)) (el:=fun _=>[]) ⟨rfl,fun j hj=>absurd hj (Nat.not_lt_zero _)⟩ (by simpa using hl)),?_⟩;rintro v O' ⟨rfl,n'',el'',hj2,rfl⟩)
    |(refine⟨_,zyz (s:=l.getD 0 default) (hs _ (zak (by(simp only[zz]at *;omega)))) (by have:=zwa l 1;rw[zeF (by(simp only[zz]at *;omega))]at this;simp only[ya1]at this;omega),?_⟩;rintro v O' ⟨rfl,n'',el'',hj2,rfl⟩)
    |((refine⟨fun vs O _=>∃(k:Nat),k<=l.length/\vs=[ai k]/\((k=0/\O=B0)\/(0<k/\∃(n':Nat) (el':Nat->List SV),Byt ([]++(l.take k).flatten) n' el'/\O=B1 n' el')),fun vs O=>match vs with |[.cv (.int _ k)]=>l.length - k.toNat |_=>0,⟨0,Nat.zero_le _,rfl,.inl ⟨rfl,rfl⟩⟩,?_⟩;rintro vs O _ ⟨k,hk,rfl,⟨rfl,rfl⟩ |⟨hk0,n',el',hj,rfl⟩⟩))
    |intro _)
 all_goals first
  |rfl
  |omega
  |(simp only[zz]at *;omega)
  |(exfalso;(simp only[zz]at *;omega))
  |exact⟨k+1,by(simp only[zz]at *;omega),rfl,.inr ⟨by omega,_,_,by rw[zeF (by(simp only[zz]at *;omega)),<- yc1];exact hj2,rfl⟩⟩
  |exact⟨1,by(simp only[zz]at *;omega),rfl,.inr ⟨by omega,_,_,by rw[zeF (by(simp only[zz]at *;omega))];exact hj2,rfl⟩⟩
  |exact⟨_,_,by rw[show l.flatten=[]++(l.take k).flatten by rw[List.take_of_length_le (by(simp only[zz]at *;omega))];rfl];exact hj,rfl⟩
def Okb(l:List (List Nat)):Prop:=∀s∈l,∀b∈s,b<256
theorem Okb.nil:Okb []:=fun s h=>by cases h
theorem Okb.cons{s:List Nat}{l:List (List Nat)}(h:∀b∈s,b<256)(k:Okb l):Okb (s::l):=fun t ht=>by
 rcases List.mem_cons.1 ht with rfl |ht
 ·exact h
 ·exact k t ht
theorem zvY(l:List (List Nat)):∀i,i<l.length->zcz 1 (l.map fun s=>SV.cv (.str s)) i=zxQ l i:=fun i hi=>by
 unfold zcz zxQ;rw[Nat.mul_one,List.drop_eq_getElem_cons (by simpa using hi),List.take_succ_cons,List.take_zero,List.getElem_map,ya8,yb5 hi];rfl
theorem zal{bs:List Nat}{n:Nat}{el:Nat->List SV}(hb:Byt bs n el)(l:List (List Nat))(hs:Okb l)(hn:l.length<=1000)(hl:n+l.flatten.length<=1000000):DSpec Tryz.prog axX axG 54 [.ptr 0 0,.isl 1 l.length (zcz 1 (l.map fun s=>SV.cv (.str s)))] (B1 n el) (fun v O=>v=.tup []/\∃n el,Byt (bs++l.flatten) n el/\O=B1 n el):=
 (zCF hb l hs hn hl).arg (.cons (.refl _) (.cons (.isl (zvY l)) .nil))
theorem zpX(l:List (List Nat))(hs:Okb l)(h0:0<l.length)(hn:l.length<=1000)(hl:l.flatten.length<=1000000):DSpec Tryz.prog axX axG 54 [.ptr 0 0,.isl 1 l.length (zcz 1 (l.map fun s=>SV.cv (.str s)))] B0 (fun v O=>v=.tup []/\∃n el,Byt l.flatten n el/\O=B1 n el):=
 (zDR l hs h0 hn hl).arg (.cons (.refl _) (.cons (.isl (zvY l)) .nil))
theorem zEo(n:Int):∀b∈fnT n,b<256:=by
 unfold fnT;cases n==1<;>cases n==2<;>cases n==3<;>cases n==4<;>cases n==5<;>decide
def zD3(a:AggM):List (List Nat):=[fnT a.fn,[40],nm a.name,[41]]
theorem zhv(a:AggM):Okb (zD3 a):=.cons (zEo _) (.cons (by decide) (.cons zAc (.cons (by decide) .nil)))
theorem zon(a:AggM):(zD3 a).flatten=zxk a:=by simp[zD3,zxk]
theorem ze4(a:AggM):(zxk a).length<=a.name.length+7:=by
 have:=zBL a.fn;unfold zxk;simp only[ya1,ya7,yb2,nm,yb7];omega
set_option maxHeartbeats 2000000 in
theorem zso{bs:List Nat}{n:Nat}{el:Nat->List SV}(hb:Byt bs n el)(a:AggM)(hf:1<=a.fn/\a.fn<=6)(hl:n+a.name.length+7<=1000000):DSpec Tryz.prog axX axG 56 [.ptr 0 0,.agg (zlZ a)] (B1 n el) (fun v O=>v=.tup []/\∃n el,Byt (bs++zxk a) n el/\O=B1 n el):=by
 obtain⟨fn,name⟩:=a;have hm:=fun x=>ze4 ⟨x,name⟩
 have hf:fn=1\/fn=2\/fn=3\/fn=4\/fn=5\/fn=6:=by simp only at hf;omega
 have hL:∀x,n+(zD3 ⟨x,name⟩).flatten.length<=1000000:=fun x=>by
  have:=hm x;rw[zon];simp only at *;omega
 rcases hf with rfl |rfl |rfl |rfl |rfl |rfl
 all_goals
  refine zac { glb:=axG } true Tryz.func56 (by kernel_rfl) rfl ?_
  repeat' (
    (conv=>whnf)
    first
     |exact zad (by kernel_rfl)
     |refine And.intro ?_ ?_
     |refine zaa ?_ ?_
     |(refine⟨_,zal hb [[99,111,117,110,116],[40],nm name,[41]] (zhv ⟨1,name⟩) (show 4<=1000 by decide) (hL 1),?_⟩;rintro v O' ⟨rfl,n',el',hb2,rfl⟩)
     |(refine⟨_,zal hb [[115,117,109],[40],nm name,[41]] (zhv ⟨2,name⟩) (show 4<=1000 by decide) (hL 2),?_⟩;rintro v O' ⟨rfl,n',el',hb2,rfl⟩)
     |(refine⟨_,zal hb [[109,105,110],[40],nm name,[41]] (zhv ⟨3,name⟩) (show 4<=1000 by decide) (hL 3),?_⟩;rintro v O' ⟨rfl,n',el',hb2,rfl⟩)
     |(refine⟨_,zal hb [[109,97,120],[40],nm name,[41]] (zhv ⟨4,name⟩) (show 4<=1000 by decide) (hL 4),?_⟩;rintro v O' ⟨rfl,n',el',hb2,rfl⟩)
     |(refine⟨_,zal hb [[102,105,114,115,116],[40],nm name,[41]] (zhv ⟨5,name⟩) (show 4<=1000 by decide) (hL 5),?_⟩;rintro v O' ⟨rfl,n',el',hb2,rfl⟩)
     |(refine⟨_,zal hb [[108,97,115,116],[40],nm name,[41]] (zhv ⟨6,name⟩) (show 4<=1000 by decide) (hL 6),?_⟩;rintro v O' ⟨rfl,n',el',hb2,rfl⟩)
     |intro _)
 all_goals first
  |rfl
  |omega
  |(simp only[zz]at *;omega)
  |(exfalso;(simp only[zz]at *;omega))
  |exact⟨_,_,by rw[<- zon];exact hb2,rfl⟩
theorem zDK(n:Int):∀b∈opT n,b<256:=by
 unfold opT;cases n==1<;>cases n==2<;>cases n==3<;>cases n==4<;>cases n==5<;>decide
theorem zhi(n:Nat):∀b∈zd4 n,b<256:=fun b hb=>by have:=zyJ n b hb;omega
theorem zBz(n:Int):∀b∈znr n,b<256:=fun b hb=>by
 unfold znr at hb;obtain⟨u,_,rfl⟩:=List.mem_map.1 hb;exact u.toNat_lt
def zA9(c:CondM):List (List Nat):=[opT c.op,znr c.val]
theorem zfg(c:CondM):Okb (zA9 c):=.cons (zDK _) (.cons (zBz _) .nil)
theorem zla(c:CondM):(zA9 c).flatten=zgP c:=by simp[zA9,zgP]
theorem zeH(c:CondM)(h0 : -9223372036854775808<=c.val)(h1:c.val<=9223372036854775807):(zgP c).length<=22:=by
 have:=zBM c.op;have:=zxs h0 h1;unfold zgP;rw[ya1];omega
set_option maxHeartbeats 2000000 in
theorem zlE{bs:List Nat}{n:Nat}{el:Nat->List SV}(hb:Byt bs n el)(c:CondM)(hf:1<=c.op/\c.op<=6)(h0 : -9223372036854775808<=c.val)(h1:c.val<=9223372036854775807)(hl:n+(zgP c).length<=1000000):DSpec Tryz.prog axX axG 57 [.ptr 0 0,.agg (zza c)] (B1 n el) (fun v O=>v=.tup []/\∃n el,Byt (bs++zgP c) n el/\O=B1 n el):=by
 obtain⟨op,val⟩:=c;have hf:op=1\/op=2\/op=3\/op=4\/op=5\/op=6:=by simp only at hf;omega
 rw[<- zla]at hl;rcases hf with rfl |rfl |rfl |rfl |rfl |rfl
 all_goals
  refine zac { glb:=axG } true Tryz.func57 (by kernel_rfl) rfl ?_
  repeat' (
    (conv=>whnf)
    first
     |exact zad (by kernel_rfl)
     |refine And.intro ?_ ?_
     |refine zaa ?_ ?_
     |(refine⟨_,zEr val h0 h1,?_⟩;rintro v O' ⟨rfl,rfl⟩)
     |(refine⟨_,zal hb [[61],znr val] (zfg ⟨1,val⟩) (show 2<=1000 by decide) hl,?_⟩;rintro v O' ⟨rfl,n',el',hb2,rfl⟩)
     |(refine⟨_,zal hb [[33,61],znr val] (zfg ⟨2,val⟩) (show 2<=1000 by decide) hl,?_⟩;rintro v O' ⟨rfl,n',el',hb2,rfl⟩)
     |(refine⟨_,zal hb [[60],znr val] (zfg ⟨3,val⟩) (show 2<=1000 by decide) hl,?_⟩;rintro v O' ⟨rfl,n',el',hb2,rfl⟩)
     |(refine⟨_,zal hb [[60,61],znr val] (zfg ⟨4,val⟩) (show 2<=1000 by decide) hl,?_⟩;rintro v O' ⟨rfl,n',el',hb2,rfl⟩)
     |(refine⟨_,zal hb [[62],znr val] (zfg ⟨5,val⟩) (show 2<=1000 by decide) hl,?_⟩;rintro v O' ⟨rfl,n',el',hb2,rfl⟩)
     |(refine⟨_,zal hb [[62,61],znr val] (zfg ⟨6,val⟩) (show 2<=1000 by decide) hl,?_⟩;rintro v O' ⟨rfl,n',el',hb2,rfl⟩)
     |intro _)
 all_goals first
  |rfl
  |omega
  |(simp only[zz]at *;omega)
  |(exfalso;(simp only[zz]at *;omega))
  |exact⟨_,_,by rw[<- zla];exact hb2,rfl⟩
theorem zqy(x:Nat):∀i,∀b∈ztL x i,b<256
 |0,b,h=>by cases h
 |i+1,b,h=>by
  unfold ztL at h;cases hq:x.testBit i with
  |false=>rw[hq]at h;exact zqy x i b h
  |true=>
   rw[hq]at h;simp only[cond_true,List.mem_append]at h;rcases h with h |h
   ·cases hl:ztL x i with
    |nil=>rw[hl]at h;cases h
    |cons c r=>
     rw[hl]at h;simp only[List.mem_append,yc7]at h;rcases h with h |rfl
     ·exact zqy x i b (by rw[hl];exact h)
     ·decide
   ·exact zhi _ b h
theorem zux(x:Nat):∀b∈zwQ x,b<256:=fun b h=>by
 unfold zwQ at h;simp only[List.mem_append,yc7]at h;rcases h with(rfl |h) |rfl
 ·decide
 ·exact zqy x 64 b h
 ·decide
end Go.Proofs.YtogdglnaagkaaaaGreatDoor
