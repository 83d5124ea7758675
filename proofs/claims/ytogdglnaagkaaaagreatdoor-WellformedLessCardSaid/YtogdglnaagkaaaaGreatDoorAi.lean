import Derived.Test.YtogdglnaagkaaaaGreatDoorAh
set_option linter.unusedSimpArgs false
set_option linter.unusedVariables false
set_option maxRecDepth 100000
namespace Go.Proofs.YtogdglnaagkaaaaGreatDoor
open Go Go.Cx
theorem zuv{x y:List Nat}(h:zbu y x=true)(z:List Nat):zbu y z=zbu x z:=by
 rw[zeI]at h ⊢;rw[zeI,eq_of_beq h]
theorem zxR{l:List (List Nat)}{x y:List Nat}(h:zbu y x=true):inU l y=inU l x:=by
 unfold inU;congr 1;funext z;exact zuv h z
abbrev ziP:=List (AtomM×Bool)
def nmP(p:AtomM×Bool):List Nat:=nm p.1.name
noncomputable def zaJ(l:ziP):List (List Nat):=(l.filter fun p => !isE (nmP p)).map nmP
noncomputable def zcF(l:ziP):List (List Nat):=(l.filter fun p => !isE (nmP p) && !p.2).map nmP
noncomputable def zca(l:ziP):Bool:=l.any fun p => !isE (nmP p)&&p.2
noncomputable def zaq(n:NodeM):ziP:=(zap n).zip (zod n)
noncomputable def zcS(n:NodeM)(k:Nat):AtomM×Bool:=((zap n).getD k default,(zod n).getD k default)
noncomputable def zhf(n:NodeM)(k:Nat):Bool := !isE (nmP (zcS n k))&&inU (zaJ ((zaq n).take k)) (nmP (zcS n k))
noncomputable def zxl(n:NodeM):Bool:=(List.range (zap n).length).any (zhf n)
noncomputable def zCq(q:QueryM)(s:List Nat):Bool := !inU (zcF (zaq q.p)) s
noncomputable def zcB(q:QueryM):Int:=bif zxl q.p then 8 else bif zca (zaq q.p)||(zbc q).any (zCq q)then 12 else 0
theorem zpV(n:NodeM):(zod n).length=(zap n).length:=by
 show(zeC n zbd zxg).length=(zeC n zbd zid).length;unfold zeC;cases zaK 200 n
 ·rfl
 ·show(zuT n zbd zxg).length=(zuT n zbd zid).length;unfold zuT;simp
theorem zoh(n:NodeM):(zaq n).length=(zap n).length:=by
 unfold zaq;rw[List.length_zip,zpV];simp
theorem zq3{n:NodeM}(hn:NFit n):(zap n).length<=100000:=by
 show(zeC n zbd zid).length<=_;unfold zeC;cases zaK 200 n
 ·exact Nat.zero_le _
 ·show(zuT n zbd zid).length<=_;unfold zuT;rw[yb7];exact Nat.le_trans (List.length_filter_le _ _) hn.num
theorem zg5{n:NodeM}{k:Nat}(hk:k<(zap n).length):(zaq n).take (k+1)=(zaq n).take k++[zcS n k]:=by
 have h1:k<(zod n).length:=by rw[zpV];exact hk
 have h2:k<(zaq n).length:=by rw[zoh];exact hk
 rw[List.take_add_one,yb5 h2];congr 1;unfold zcS;rw[ya8,ya8,yb5 hk,yb5 h1];simp[zaq]
section
variable{l:ziP}{p:AtomM×Bool}
theorem ztT(h:isE (nmP p)=true):zaJ (l++[p])=zaJ l:=by
 unfold zaJ;rw[List.filter_append];simp[h]
theorem zp4(h:isE (nmP p)=false):zaJ (l++[p])=zaJ l++[nmP p]:=by
 unfold zaJ;rw[List.filter_append];simp[h]
theorem zAv(h:isE (nmP p)=true):zcF (l++[p])=zcF l:=by
 unfold zcF;rw[List.filter_append];simp[h]
theorem zBk(h:isE (nmP p)=false):zcF (l++[p])=zcF l++(bif p.2 then[] else[nmP p]):=by
 unfold zcF;rw[List.filter_append];cases hp:p.2<;>simp[h,hp]
theorem zuC:zca (l++[p])=(zca l||(!isE (nmP p)&&p.2)):=by
 unfold zca;rw[List.any_append];simp
theorem zsg(x:List Nat)(h:inU (zcF l) x=true):inU (zaJ l) x=true:=by
 unfold inU at h ⊢;rw[List.any_eq_true]at h ⊢;obtain⟨y,hy,hb⟩:=h;refine⟨y,?_,hb⟩;unfold zcF at hy;unfold zaJ;obtain⟨r,hr,rfl⟩:=List.mem_map.1 hy;rw[List.mem_filter]at hr;simp only[ya2]at hr;exact List.mem_map.2 ⟨r,List.mem_filter.2 ⟨hr.1,hr.2.1⟩,rfl⟩
end
def KnownS(l:ziP)(f:CV->Option SV):Prop:=∀x,f (.str x)=if inU (zaJ l) x then some (ab (inU (zcF l) x))else none
theorem KnownS.allB{l:ziP}{f:CV->Option SV}(h:KnownS l f)(x:List Nat):allB f (.str x):=fun v hv=>by
 rw[h x]at hv;split at hv
 ·cases hv;exact⟨_,rfl⟩
 ·cases hv
theorem KnownS.at{l:ziP}{f:CV->Option SV}(h:KnownS l f)(x:List Nat):mapB f (.str x)=inU (zcF l) x:=by
 unfold Go.Cx.mapB;rw[h x];cases hq:inU (zaJ l) x with
 |true=>cases inU (zcF l) x<;>rfl
 |false=>
  cases hk:inU (zcF l) x with
  |true=>rw[zsg x hk]at hq;cases hq
  |false=>rfl
theorem KnownS.add{l:ziP}{f:CV->Option SV}{p:AtomM×Bool}(h:KnownS l f)(hp:isE (nmP p)=false)(hx:inU (zaJ l) (nmP p)=false):KnownS (l++[p]) (zse (.str (nmP p)) (ab (!p.2)) f):=fun y=>by
 rw[zp4 hp,zBk hp,ziu];unfold zse;show(match zbu y (nmP p)with |true=>_ |false=>_)=_;cases hb:zbu y (nmP p) with
 |true=>
  have h1:inU (zcF l) y=false:=by
   cases hk:inU (zcF l) y with
   |false=>rfl
   |true=>rw[zxR hb]at hk;rw[zsg _ hk]at hx;cases hx
  rw[Bool.or_true,if_pos rfl];cases hq:p.2 with
  |true=>simp[h1]
  |false=>simp[ziu,hb]
 |false=>
  rw[Bool.or_false];show f (.str y)=_;rw[h y];cases hq:p.2 with
  |true=>simp
  |false=>simp[ziu,hb]
theorem KnownS.skip{l:ziP}{f:CV->Option SV}{p:AtomM×Bool}(h:KnownS l f)(hp:isE (nmP p)=true):KnownS (l++[p]) f:=fun y=>by rw[ztT hp,zAv hp];exact h y
theorem zAF{n:NodeM}{k:Nat}(hk:k<(zap n).length)(h:zhf n k=true):zxl n=true:=zf7 hk h
theorem zCO{n:NodeM}{k:Nat}(hk:(zap n).length<=k)(h:∀j,j<k->zhf n j=false):zxl n=false:=zge hk h
theorem zn1{n:NodeM}{k:Nat}(hk:(zap n).length<=k):(zaq n).take k=zaq n:=List.take_of_length_le (by rw[zoh];exact hk)
theorem zrg(q:QueryM):(zbc q).length<=q.hv.length+q.em.length:=by
 unfold zbc;refine Nat.le_trans (zjt _) ?_;simp
theorem zr0{l:List (List Nat)}{p:List Nat->Bool}{k:Nat}(hk:k<l.length):(l.take (k+1)).any p=((l.take k).any p||p (l.getD k default)):=by
 rw[List.take_add_one,yb5 hk,List.any_append,ya8,yb5 hk];simp
theorem zAI{l:List (List Nat)}{p:List Nat->Bool}{k:Nat}(hk:l.length<=k):(l.take k).any p=l.any p:=by rw[List.take_of_length_le hk]
theorem zFb{n:NodeM}{k:Nat}{f1 f2:CV->Option SV}(hk:decide ((k:Int)<(zap n).length)=true)(hz:isE (nmP (zcS n k))=true)(hj:∀j,j<k->zhf n j=false)(h1:SeenS (zaJ ((zaq n).take k)) f1)(h2:KnownS ((zaq n).take k) f2):
  k+1<=(zap n).length/\(∀j,j<k+1->zhf n j=false)/\SeenS (zaJ ((zaq n).take (k+1))) f1/\KnownS ((zaq n).take (k+1)) f2/\zca ((zaq n).take (k+1))=zca ((zaq n).take k):=by
 have hlt:k<(zap n).length:=by simp at hk;omega
 rw[zg5 hlt,ztT hz,zuC];refine⟨hlt,zdm hj ?_,h1,h2.skip hz,by rw[hz];simp⟩;unfold zhf;rw[hz];rfl
theorem zEw{n:NodeM}{k:Nat}{f1 f2:CV->Option SV}(hk:decide ((k:Int)<(zap n).length)=true)(hz:isE (nmP (zcS n k))=false)(hm:mapB f1 (.str (nmP (zcS n k)))=false)(hj:∀j,j<k->zhf n j=false)(h1:SeenS (zaJ ((zaq n).take k)) f1)(h2:KnownS ((zaq n).take k) f2):
  k+1<=(zap n).length/\(∀j,j<k+1->zhf n j=false)/\SeenS (zaJ ((zaq n).take (k+1))) (zse (.str (nmP (zcS n k))) (ab true) f1)/\KnownS ((zaq n).take (k+1)) (zse (.str (nmP (zcS n k))) (ab (!(zcS n k).2)) f2)/\zca ((zaq n).take (k+1))=(zca ((zaq n).take k)||(zcS n k).2):=by
 have hlt:k<(zap n).length:=by simp at hk;omega
 rw[h1.mapB]at hm;rw[zg5 hlt,zp4 hz,zuC];refine⟨hlt,zdm hj ?_,h1.step _,h2.add hz hm,by rw[hz];simp⟩;unfold zhf;rw[hm];simp
theorem zFc{n:NodeM}{k:Nat}{f1:CV->Option SV}(hk:decide ((k:Int)<(zap n).length)=true)(hz:isE (nmP (zcS n k))=false)(hm:mapB f1 (.str (nmP (zcS n k)))=true)(h1:SeenS (zaJ ((zaq n).take k)) f1):zxl n=true:=by
 rw[h1.mapB]at hm;refine zAF (k:=k) (by simp at hk;omega) ?_;unfold zhf;rw[hz,hm];rfl
theorem zDU{q:QueryM}(h:zxl q.p=true):zcB q=8:=by unfold zcB;rw[h];rfl
theorem zDW{q:QueryM}{k u:Nat}{b:Bool}(hk:decide ((k:Int)<(zap q.p).length)=false)(hj:∀j,j<k->zhf q.p j=false)(hu:decide ((u:Int)<(zbc q).length)=false)(h:(zca (zaq q.p)||((zbc q).take u).any (zCq q))=b):zcB q=bif b then 12 else 0:=by
 have h1:=zCO (n:=q.p) (k:=k) (by simp at hk;omega) hj;rw[zAI (by simp at hu;omega)]at h;unfold zcB;rw[h1,h];rfl
set_option maxHeartbeats 8000000 in
theorem zBh(q:QueryM)(hq:QFit q)(hs:q.hv.length+q.em.length<=900000):DSpec Tryz.prog axX axG 39 [.agg (zaD q)] [] (fun v O=>v=ai (zcB q)/\O=[]):=by
 have hal:=zq3 hq.toNFit;have hnl:=zpV q.p;have hul:=zrg q;refine zac { glb:=axG,ann:=[(6,[30,9]),(16,[64,9])] } true Tryz.func39 (by kernel_rfl) rfl ?_
 repeat' (
   (conv=>whnf)
   first
    |exact zad (by kernel_rfl)
    |refine And.intro ?_ ?_
    |refine zaa ?_ ?_
    |(refine⟨_,zme q.p hq.toNFit,?_⟩;rintro v O' ⟨rfl,rfl⟩)
    |(refine⟨_,zt3 q.p hq.toNFit,?_⟩;rintro v O' ⟨rfl,rfl⟩)
    |(refine⟨_,zzN q hq hs,?_⟩;rintro v O' ⟨rfl,rfl⟩)
    |((have:=hj;refine⟨fun vs O _=>∃(u:Nat),u<=(zbc q).length/\vs=[ai u,ab (or (zca (zaq q.p)) (((zbc q).take u).any (zCq q)))]/\O=[.cells 34 (zaD q),.map .str f1 st1,.map .str f2 st2],fun vs O=>match vs with |[.cv (.int _ u),_]=>(zbc q).length - u.toNat |_=>0,⟨0,Nat.zero_le _,by rw[zn1 (by(simp only[zz]at *;omega))];simp,rfl⟩,?_⟩;rintro vs O _ ⟨u,hu,rfl,rfl⟩))
    |((refine⟨fun vs O _=>∃(k:Nat) (f1:CV->Option SV) (st1:_) (f2:CV->Option SV) (st2:_),k<=(zap q.p).length/\(∀j,j<k->zhf q.p j=false)/\SeenS (zaJ ((zaq q.p).take k)) f1/\KnownS ((zaq q.p).take k) f2/\vs=[ai k,ab (zca ((zaq q.p).take k))]/\O=[.cells 34 (zaD q),.map .str f1 st1,.map .str f2 st2],fun vs O=>match vs with |[.cv (.int _ k),_]=>(zap q.p).length - k.toNat |_=>0,⟨0,_,_,_,_,Nat.zero_le _,fun j h=>absurd h (by omega),fun x=>rfl,fun x=>rfl,rfl,rfl⟩,?_⟩;rintro vs O _ ⟨k,f1,st1,f2,st2,hk,hj,hf1,hf2,rfl,rfl⟩))
    |intro _)
 all_goals first
  |rfl
  |omega
  |(simp only[zz]at *;omega)
  |exact hf1.allB _ _ (by assumption)
  |exact hf2.allB _ _ (by assumption)
  |(rename_i hlt hz;obtain⟨a1,a2,a3,a4,a5⟩:=zFb hlt hz hj hf1 hf2;exact⟨k+1,f1,st1,f2,st2,a1,a2,a3,a4,by rw[a5];rfl,rfl⟩)
  |(rename_i hlt hz hm;exact congrArg ai (zDU (zFc hlt hz hm hf1)).symm)
  |(rename_i hlt hz hm hw;obtain⟨a1,a2,a3,a4,a5⟩:=zEw hlt hz hm hj hf1 hf2;exact⟨k+1,_,_,_,_,a1,a2,a3,a4,by rw[a5,hw];rfl,rfl⟩)
  |(rename_i hlt hw;exact⟨u+1,by(simp only[zz]at *;omega),by rw[zr0 (by(simp only[zz]at *;omega)),<- Bool.or_assoc,hw];rfl,rfl⟩)
  |(rename_i hlt hw;exact⟨u+1,by(simp only[zz]at *;omega),by rw[zr0 (by(simp only[zz]at *;omega)),<- Bool.or_assoc,hw,hf2.at,zn1 (by(simp only[zz]at *;omega))];rfl,rfl⟩)
  |(rename_i hu2 hw;exact congrArg ai (zDW (by assumption) hj hu2 hw).symm)
end Go.Proofs.YtogdglnaagkaaaaGreatDoor
