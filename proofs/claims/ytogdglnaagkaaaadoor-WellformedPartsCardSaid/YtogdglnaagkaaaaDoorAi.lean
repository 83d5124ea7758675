import Derived.Test.YtogdglnaagkaaaaDoorAh
set_option linter.unusedSimpArgs false
set_option linter.unusedVariables false
set_option maxRecDepth 100000
namespace Go.Proofs.YtogdglnaagkaaaaDoor
open Go Go.Cx
theorem zsu{x y:List Nat}(h:zbE y x=true)(z:List Nat):zbE y z=zbE x z:=by
 rw[zej]at h ⊢;rw[zej,eq_of_beq h]
theorem zwj{l:List (List Nat)}{x y:List Nat}(h:zbE y x=true):inU l y=inU l x:=by
 unfold inU;congr 1;funext z;exact zsu h z
abbrev zjC:=List (AtomM×Bool)
def nmP(p:AtomM×Bool):List Nat:=nm p.1.name
noncomputable def zbb(l:zjC):List (List Nat):=(l.filter fun p => !isE (nmP p)).map nmP
noncomputable def zc2(l:zjC):List (List Nat):=(l.filter fun p => !isE (nmP p) && !p.2).map nmP
noncomputable def zdF(l:zjC):Bool:=l.any fun p => !isE (nmP p)&&p.2
noncomputable def zaG(n:NodeM):zjC:=(za9 n).zip (zoq n)
noncomputable def zcB(n:NodeM)(k:Nat):AtomM×Bool:=((za9 n).getD k default,(zoq n).getD k default)
noncomputable def zgO(n:NodeM)(k:Nat):Bool := !isE (nmP (zcB n k))&&inU (zbb ((zaG n).take k)) (nmP (zcB n k))
noncomputable def zyy(n:NodeM):Bool:=(List.range (za9 n).length).any (zgO n)
noncomputable def zBG(q:QueryM)(s:List Nat):Bool := !inU (zc2 (zaG q.p)) s
noncomputable def zec(q:QueryM):Int:=bif zyy q.p then 8 else bif zdF (zaG q.p)||(zf0 q).any (zBG q)then 12 else 0
theorem zot(n:NodeM):(zoq n).length=(za9 n).length:=by
 show(zee n za5 zu6).length=(zee n za5 zhK).length;unfold zee;cases zaS 200 n
 ·rfl
 ·show(zuX n za5 zu6).length=(zuX n za5 zhK).length;unfold zuX;simp
theorem znM(n:NodeM):(zaG n).length=(za9 n).length:=by
 unfold zaG;rw[List.length_zip,zot];simp
theorem zzx{n:NodeM}(hn:NFit n):(za9 n).length<=100000:=by
 show(zee n za5 zhK).length<=_;unfold zee;cases zaS 200 n
 ·exact Nat.zero_le _
 ·show(zuX n za5 zhK).length<=_;unfold zuX;rw[yb7];exact Nat.le_trans (List.length_filter_le _ _) hn.num
theorem zgW{n:NodeM}{k:Nat}(hk:k<(za9 n).length):(zaG n).take (k+1)=(zaG n).take k++[zcB n k]:=by
 have h1:k<(zoq n).length:=by rw[zot];exact hk
 have h2:k<(zaG n).length:=by rw[znM];exact hk
 rw[List.take_add_one,yb5 h2];congr 1;unfold zcB;rw[ya8,ya8,yb5 hk,yb5 h1];simp[zaG]
section
variable{l:zjC}{p:AtomM×Bool}
theorem zs9(h:isE (nmP p)=true):zbb (l++[p])=zbb l:=by
 unfold zbb;rw[List.filter_append];simp[h]
theorem zpf(h:isE (nmP p)=false):zbb (l++[p])=zbb l++[nmP p]:=by
 unfold zbb;rw[List.filter_append];simp[h]
theorem zya(h:isE (nmP p)=true):zc2 (l++[p])=zc2 l:=by
 unfold zc2;rw[List.filter_append];simp[h]
theorem zyL(h:isE (nmP p)=false):zc2 (l++[p])=zc2 l++(bif p.2 then[] else[nmP p]):=by
 unfold zc2;rw[List.filter_append];cases hp:p.2<;>simp[h,hp]
theorem zsr:zdF (l++[p])=(zdF l||(!isE (nmP p)&&p.2)):=by
 unfold zdF;rw[List.any_append];simp
theorem zp0(x:List Nat)(h:inU (zc2 l) x=true):inU (zbb l) x=true:=by
 unfold inU at h ⊢;rw[List.any_eq_true]at h ⊢;obtain⟨y,hy,hb⟩:=h;refine⟨y,?_,hb⟩;unfold zc2 at hy;unfold zbb;obtain⟨r,hr,rfl⟩:=List.mem_map.1 hy;rw[List.mem_filter]at hr;simp only[ya2]at hr;exact List.mem_map.2 ⟨r,List.mem_filter.2 ⟨hr.1,hr.2.1⟩,rfl⟩
end
def KnownS(l:zjC)(f:CV->Option SV):Prop:=∀x,f (.str x)=if inU (zbb l) x then some (ab (inU (zc2 l) x))else none
theorem KnownS.allB{l:zjC}{f:CV->Option SV}(h:KnownS l f)(x:List Nat):allB f (.str x):=fun v hv=>by
 rw[h x]at hv;split at hv
 ·cases hv;exact⟨_,rfl⟩
 ·cases hv
theorem KnownS.at{l:zjC}{f:CV->Option SV}(h:KnownS l f)(x:List Nat):mapB f (.str x)=inU (zc2 l) x:=by
 unfold Go.Cx.mapB;rw[h x];cases hq:inU (zbb l) x with
 |true=>cases inU (zc2 l) x<;>rfl
 |false=>
  cases hk:inU (zc2 l) x with
  |true=>rw[zp0 x hk]at hq;cases hq
  |false=>rfl
theorem KnownS.add{l:zjC}{f:CV->Option SV}{p:AtomM×Bool}(h:KnownS l f)(hp:isE (nmP p)=false)(hx:inU (zbb l) (nmP p)=false):KnownS (l++[p]) (zpQ (.str (nmP p)) (ab (!p.2)) f):=fun y=>by
 rw[zpf hp,zyL hp,zhM];unfold zpQ;show(match zbE y (nmP p)with |true=>_ |false=>_)=_;cases hb:zbE y (nmP p) with
 |true=>
  have h1:inU (zc2 l) y=false:=by
   cases hk:inU (zc2 l) y with
   |false=>rfl
   |true=>rw[zwj hb]at hk;rw[zp0 _ hk]at hx;cases hx
  rw[Bool.or_true,if_pos rfl];cases hq:p.2 with
  |true=>simp[h1]
  |false=>simp[zhM,hb]
 |false=>
  rw[Bool.or_false];show f (.str y)=_;rw[h y];cases hq:p.2 with
  |true=>simp
  |false=>simp[zhM,hb]
theorem KnownS.skip{l:zjC}{f:CV->Option SV}{p:AtomM×Bool}(h:KnownS l f)(hp:isE (nmP p)=true):KnownS (l++[p]) f:=fun y=>by rw[zs9 hp,zya hp];exact h y
theorem zyj{n:NodeM}{k:Nat}(hk:k<(za9 n).length)(h:zgO n k=true):zyy n=true:=zeh hk h
theorem zzf{n:NodeM}{k:Nat}(hk:(za9 n).length<=k)(h:∀j,j<k->zgO n j=false):zyy n=false:=ze2 hk h
theorem zmQ{n:NodeM}{k:Nat}(hk:(za9 n).length<=k):(zaG n).take k=zaG n:=List.take_of_length_le (by rw[znM];exact hk)
theorem zwo(q:QueryM):(zf0 q).length<=q.hv.length+q.em.length:=by
 unfold zf0;refine Nat.le_trans (zh9 _) ?_;simp
theorem zpn{l:List (List Nat)}{p:List Nat->Bool}{k:Nat}(hk:k<l.length):(l.take (k+1)).any p=((l.take k).any p||p (l.getD k default)):=by
 rw[List.take_add_one,yb5 hk,List.any_append,ya8,yb5 hk];simp
theorem zyd{l:List (List Nat)}{p:List Nat->Bool}{k:Nat}(hk:l.length<=k):(l.take k).any p=l.any p:=by rw[List.take_of_length_le hk]
theorem zBa{n:NodeM}{k:Nat}{f1 f2:CV->Option SV}(hk:decide ((k:Int)<(za9 n).length)=true)(hz:isE (nmP (zcB n k))=true)(hj:∀j,j<k->zgO n j=false)(h1:SeenS (zbb ((zaG n).take k)) f1)(h2:KnownS ((zaG n).take k) f2):
  k+1<=(za9 n).length/\(∀j,j<k+1->zgO n j=false)/\SeenS (zbb ((zaG n).take (k+1))) f1/\KnownS ((zaG n).take (k+1)) f2/\zdF ((zaG n).take (k+1))=zdF ((zaG n).take k):=by
 have hlt:k<(za9 n).length:=by simp at hk;omega
 rw[zgW hlt,zs9 hz,zsr];refine⟨hlt,zdb hj ?_,h1,h2.skip hz,by rw[hz];simp⟩;unfold zgO;rw[hz];rfl
theorem zAQ{n:NodeM}{k:Nat}{f1 f2:CV->Option SV}(hk:decide ((k:Int)<(za9 n).length)=true)(hz:isE (nmP (zcB n k))=false)(hm:mapB f1 (.str (nmP (zcB n k)))=false)(hj:∀j,j<k->zgO n j=false)(h1:SeenS (zbb ((zaG n).take k)) f1)(h2:KnownS ((zaG n).take k) f2):
  k+1<=(za9 n).length/\(∀j,j<k+1->zgO n j=false)/\SeenS (zbb ((zaG n).take (k+1))) (zpQ (.str (nmP (zcB n k))) (ab true) f1)/\KnownS ((zaG n).take (k+1)) (zpQ (.str (nmP (zcB n k))) (ab (!(zcB n k).2)) f2)/\zdF ((zaG n).take (k+1))=(zdF ((zaG n).take k)||(zcB n k).2):=by
 have hlt:k<(za9 n).length:=by simp at hk;omega
 rw[h1.mapB]at hm;rw[zgW hlt,zpf hz,zsr];refine⟨hlt,zdb hj ?_,h1.step _,h2.add hz hm,by rw[hz];simp⟩;unfold zgO;rw[hm];simp
theorem zBJ{n:NodeM}{k:Nat}{f1:CV->Option SV}(hk:decide ((k:Int)<(za9 n).length)=true)(hz:isE (nmP (zcB n k))=false)(hm:mapB f1 (.str (nmP (zcB n k)))=true)(h1:SeenS (zbb ((zaG n).take k)) f1):zyy n=true:=by
 rw[h1.mapB]at hm;refine zyj (k:=k) (by simp at hk;omega) ?_;unfold zgO;rw[hz,hm];rfl
theorem zzG{q:QueryM}(h:zyy q.p=true):zec q=8:=by unfold zec;rw[h];rfl
theorem zzV{q:QueryM}{k u:Nat}{b:Bool}(hk:decide ((k:Int)<(za9 q.p).length)=false)(hj:∀j,j<k->zgO q.p j=false)(hu:decide ((u:Int)<(zf0 q).length)=false)(h:(zdF (zaG q.p)||((zf0 q).take u).any (zBG q))=b):zec q=bif b then 12 else 0:=by
 have h1:=zzf (n:=q.p) (k:=k) (by simp at hk;omega) hj;rw[zyd (by simp at hu;omega)]at h;unfold zec;rw[h1,h];rfl
set_option maxHeartbeats 8000000 in
theorem zyM(q:QueryM)(hq:QFit q)(hs:q.hv.length+q.em.length<=900000):DSpec Tryd.prog axX axG 37 [.agg (zaP q)] [] (fun v O=>v=ai (zec q)/\O=[]):=by
 have hal:=zzx hq.toNFit;have hnl:=zot q.p;have hul:=zwo q;refine zac { glb:=axG,ann:=[(6,[30,9]),(16,[64,9])] } true Tryd.func37 (by kernel_rfl) rfl ?_
 repeat' (
   (conv=>whnf)
   first
    |exact zaf (by kernel_rfl)
    |refine And.intro ?_ ?_
    |refine zaa ?_ ?_
    |(refine⟨_,ztf q.p hq.toNFit,?_⟩;rintro v O' ⟨rfl,rfl⟩)
    |(refine⟨_,zt5 q.p hq.toNFit,?_⟩;rintro v O' ⟨rfl,rfl⟩)
    |(refine⟨_,zAi q hq hs,?_⟩;rintro v O' ⟨rfl,rfl⟩)
    |((have:=hj;refine⟨fun vs O _=>∃(u:Nat),u<=(zf0 q).length/\vs=[ai u,ab (or (zdF (zaG q.p)) (((zf0 q).take u).any (zBG q)))]/\O=[.cells 34 (zaP q),.map .str f1 st1,.map .str f2 st2],fun vs O=>match vs with |[.cv (.int _ u),_]=>(zf0 q).length - u.toNat |_=>0,⟨0,Nat.zero_le _,by rw[zmQ (by(simp only[zz]at *;omega))];simp,rfl⟩,?_⟩;rintro vs O _ ⟨u,hu,rfl,rfl⟩))
    |((refine⟨fun vs O _=>∃(k:Nat) (f1:CV->Option SV) (st1:_) (f2:CV->Option SV) (st2:_),k<=(za9 q.p).length/\(∀j,j<k->zgO q.p j=false)/\SeenS (zbb ((zaG q.p).take k)) f1/\KnownS ((zaG q.p).take k) f2/\vs=[ai k,ab (zdF ((zaG q.p).take k))]/\O=[.cells 34 (zaP q),.map .str f1 st1,.map .str f2 st2],fun vs O=>match vs with |[.cv (.int _ k),_]=>(za9 q.p).length - k.toNat |_=>0,⟨0,_,_,_,_,Nat.zero_le _,fun j h=>absurd h (by omega),fun x=>rfl,fun x=>rfl,rfl,rfl⟩,?_⟩;rintro vs O _ ⟨k,f1,st1,f2,st2,hk,hj,hf1,hf2,rfl,rfl⟩))
    |intro _)
 all_goals first
  |rfl
  |omega
  |(simp only[zz]at *;omega)
  |exact hf1.allB _ _ (by assumption)
  |exact hf2.allB _ _ (by assumption)
  |(rename_i hlt hz;obtain⟨a1,a2,a3,a4,a5⟩:=zBa hlt hz hj hf1 hf2;exact⟨k+1,f1,st1,f2,st2,a1,a2,a3,a4,by rw[a5];rfl,rfl⟩)
  |(rename_i hlt hz hm;exact congrArg ai (zzG (zBJ hlt hz hm hf1)).symm)
  |(rename_i hlt hz hm hw;obtain⟨a1,a2,a3,a4,a5⟩:=zAQ hlt hz hm hj hf1 hf2;exact⟨k+1,_,_,_,_,a1,a2,a3,a4,by rw[a5,hw];rfl,rfl⟩)
  |(rename_i hlt hw;exact⟨u+1,by(simp only[zz]at *;omega),by rw[zpn (by(simp only[zz]at *;omega)),<- Bool.or_assoc,hw];rfl,rfl⟩)
  |(rename_i hlt hw;exact⟨u+1,by(simp only[zz]at *;omega),by rw[zpn (by(simp only[zz]at *;omega)),<- Bool.or_assoc,hw,hf2.at,zmQ (by(simp only[zz]at *;omega))];rfl,rfl⟩)
  |(rename_i hu2 hw;exact congrArg ai (zzV (by assumption) hj hu2 hw).symm)
end Go.Proofs.YtogdglnaagkaaaaDoor
