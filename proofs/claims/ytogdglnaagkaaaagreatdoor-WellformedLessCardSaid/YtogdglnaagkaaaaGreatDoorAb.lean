import Derived.Test.YtogdglnaagkaaaaGreatDoorAa
import Derived.Test.YtogdglnaagkaaaaGreatDoorAx
import Derived.KernelRfl
set_option linter.unusedSimpArgs false
set_option linter.unusedVariables false
set_option maxRecDepth 100000
namespace Go.Proofs.YtogdglnaagkaaaaGreatDoor
open Go Go.Cx
def aggNames:List (List Nat):=[[99,111,117,110,116],[115,117,109],[109,105,110],[109,97,120],[102,105,114,115,116],[108,97,115,116]]
def zpm(b:Nat):Bool:=Nat.ble 97 b&&Nat.ble b 122
def wordsL:List (List Nat):=[[119,105,116,104,105,110],[104,97,118,105,110,103],[97,110,100],[101,109,105,116],[110,111,116]]
noncomputable def zcY(s:List Nat):Bool := !(zbu s []||decide ((s.length:Int) > 8))&&((s.all fun b=>zpm (b%256))&&(!(wordsL.any fun w=>zbu s w) && !(aggNames.any fun w=>zbu s w)))
def opB(n:Int):Bool:=inB n 1 6
@[reducible] noncomputable def isE (s:List Nat):Bool:=zbu s (List.map UInt8.toNat (ByteArray.mk #[]).data.toList)
noncomputable def zjw(a:AtomM):Bool:=(decide (a.kind>=0)&&decide (a.kind<=25))&&((a.bnd||a.bound==0)&&((isE (nm a.name)||zcY (nm a.name)) && !(a.cs.any fun c => !opB c.op)))
noncomputable def zom(a:AtomM):Bool:=a.kind==0&&(!a.bnd&&(a.bound==0&&((a.cs.length:Int)==0&&isE (nm a.name))))
noncomputable def zaK:Nat->NodeM->Bool
 |0,_=>false
 |d+1,n=>bif n.kind==1 then zjw n.atom&&(decide (n.mn>=0)&&(decide (n.mn<=99)&&(decide (n.mx>=0)&&(decide (n.mx<=99)&&(n.kids.length:Int)==0))))
  else bif n.kind==2 then zjw n.atom&&(n.mn==0&&(n.mx==0&&(n.kids.length:Int)==0))
  else bif (n.kind==3||n.kind==4)then decide ((n.kids.length:Int)>=2)&&(n.mn==0&&(n.mx==0&&(zom n.atom && !(n.kids.any fun m => !zaK d m))))
  else false
theorem zfv{A:Type}{d:A}{l:List A}{p:A->Bool}{k:Nat}(hk:k<l.length)(h:p (l.getD k d)=true):decide ((k:Int)>=0)=l.any p:=by
 have:l.any p=true:=by
  rw[List.any_eq_true];refine⟨l.getD k d,?_,h⟩;rw[ya8,yb5 hk];exact List.getElem_mem hk
 rw[this];simp
theorem zjA{A:Type}{d:A}{l:List A}{p:A->Bool}{k:Nat}(hk:l.length<=k)(h:∀j,j<k->p (l.getD j d)=false):decide ((-1:Int)>=0)=l.any p:=by
 have:l.any p=false:=by
  rw[Bool.eq_false_iff,Ne,List.any_eq_true];rintro⟨x,hx,hp⟩;obtain⟨i,hi,rfl⟩:=List.mem_iff_getElem.1 hx;have:=h i (by omega);rw[ya8,yb5 hi]at this;simp only[Option.getD_some]at this;rw[this]at hp;cases hp
 rw[this];rfl
theorem zdm{p:Nat->Bool}{k:Nat}(h:∀j,j<k->p j=false)(hk:p k=false):∀j,j<k+1->p j=false:=fun j hj=>by
 rcases Nat.lt_succ_iff_lt_or_eq.1 hj with h1 |rfl
 ·exact h j h1
 ·exact hk
theorem zak{A:Type}[Inhabited A]{l:List A}{k:Nat}(hk:k<l.length):l.getD k default∈l:=by
 rw[ya8,yb5 hk];exact List.getElem_mem hk
theorem zFB(n:Int):DSpec Tryz.prog axX axG 50 [ai n] [] (fun v O=>v=ab (opB n)/\O=[]):=by
 refine zac { glb:=axG } true Tryz.func50 (by kernel_rfl) rfl ?_
 repeat' (
   (conv=>whnf)
   first
    |exact zad (by kernel_rfl)
    |refine And.intro ?_ ?_
    |refine zaa ?_ ?_
    |intro _)
 all_goals first
  |rfl
  |(unfold opB;((try (refine congrArg (fun b=>SV.cv (CV.bool b)) ?_));(try rw[Bool.eq_iff_iff]);simp only[zz]at *;first |done |omega))
set_option maxRecDepth 100000 in
theorem zA7(c:CondM):DSpec Tryz.prog axX axG 103 [.agg (zza c)] [] (fun v O=>v=ab (!opB c.op)/\O=[]):=by
 refine zac { glb:=axG } true Tryz.func103 (by kernel_rfl) rfl ?_
 repeat' (
   (conv=>whnf)
   first
    |exact zad (by kernel_rfl)
    |refine And.intro ?_ ?_
    |refine zaa ?_ ?_
    |(refine⟨_,zFB _,?_⟩;rintro v O' ⟨rfl,rfl⟩)
    |intro _)
 all_goals rfl
set_option maxRecDepth 100000 in
theorem zuI(l:List CondM)(hl:l.length<=9223372036854775807):DSpec Tryz.prog axX axG 114 [.isl 2 l.length (zco l),.fn 103 [] []] [] (fun v O=>∃k:Int,v=ai k/\decide (k>=0)=(l.any fun c => !opB c.op)/\O=[]):=by
 refine zac { glb:=axG,ann:=[(2,[8])] } true Tryz.func114 (by kernel_rfl) rfl ?_
 repeat' (
   (conv=>whnf)
   first
    |exact zad (by kernel_rfl)
    |refine And.intro ?_ ?_
    |refine zaa ?_ ?_
    |((refine⟨fun vs O _=>∃k:Nat,k<=l.length/\(∀j,j<k->(!opB (l.getD j default).op)=false)/\vs=[ai k]/\O=[],fun vs O=>match vs with |[.cv (.int _ k)]=>l.length - k.toNat |_=>0,⟨0,Nat.zero_le _,fun j h=>absurd h (by omega),rfl,rfl⟩,?_⟩;rintro vs O _ ⟨k,hk,hj,rfl,rfl⟩))
    |(refine⟨_,zA7 (l.getD k default),?_⟩;rintro v O' ⟨rfl,rfl⟩)
    |intro _)
 all_goals first
  |rfl
  |omega
  |(simp only[zz]at *;omega)
  |(rename_i hz;exact⟨k,rfl,zfv (p:=fun c:CondM => !opB c.op) (by(simp only[zz]at *;omega)) hz,rfl⟩)
  |(rename_i hz;exact⟨k+1,by(simp only[zz]at *;omega),zdm (p:=fun j => !opB (l.getD j default).op) hj hz,rfl,rfl⟩)
  |exact⟨-1,rfl,zjA (p:=fun c:CondM => !opB c.op) (by(simp only[zz]at *;omega)) hj,rfl⟩
set_option maxRecDepth 100000 in
theorem zvB(l:List CondM)(hl:l.length<=9223372036854775807):DSpec Tryz.prog axX axG 102 [.isl 2 l.length (zco l),.fn 103 [] []] [] (fun v O=>v=ab (l.any fun c => !opB c.op)/\O=[]):=by
 refine zac { glb:=axG } true Tryz.func102 (by kernel_rfl) rfl ?_
 repeat' (
   (conv=>whnf)
   first
    |exact zad (by kernel_rfl)
    |refine And.intro ?_ ?_
    |refine zaa ?_ ?_
    |(refine⟨_,zuI l hl,?_⟩;rintro v O' ⟨k,rfl,hk,rfl⟩)
    |intro _)
 all_goals first
  |rfl
  |exact congrArg (fun b=>SV.cv (CV.bool b)) hk
set_option maxRecDepth 100000 in
theorem zwy(s:List Nat):DSpec Tryz.prog axX axG 105 [.isl 1 6 (zcz 1 (aggNames.map fun x=>SV.cv (.str x))),.cv (.str s)] [] (fun v O=>∃k:Int,v=ai k/\decide (k>=0)=(aggNames.any fun w=>zbu s w)/\O=[]):=by
 refine zac { glb:=axG,ann:=[(2,[8])] } true Tryz.func105 (by kernel_rfl) rfl ?_
 repeat' (
   (conv=>whnf)
   first
    |exact zad (by kernel_rfl)
    |refine And.intro ?_ ?_
    |refine zaa ?_ ?_
    |((refine⟨fun vs O _=>∃k:Nat,k<=6/\(∀j,j<k->zbu s (aggNames.getD j default)=false)/\vs=[ai k]/\O=[],fun vs O=>match vs with |[.cv (.int _ k)]=>6 - k.toNat |_=>0,⟨0,Nat.zero_le _,fun j h=>absurd h (by omega),rfl,rfl⟩,?_⟩;rintro vs O _ ⟨k,hk,hj,rfl,rfl⟩;obtain rfl |rfl |rfl |rfl |rfl |rfl |rfl:k=0\/k=1\/k=2\/k=3\/k=4\/k=5\/k=6:=by omega))
    |intro _)
 all_goals first
  |rfl
  |omega
  |(simp only[zz]at *;omega)
  |(rename_i hz;exact⟨0,rfl,zfv (d:=([]:List Nat)) (l:=aggNames) (k:=0) (p:=fun w=>zbu s w) (by decide) hz,rfl⟩)
  |(rename_i hz;exact⟨1,rfl,zfv (d:=([]:List Nat)) (l:=aggNames) (k:=1) (p:=fun w=>zbu s w) (by decide) hz,rfl⟩)
  |(rename_i hz;exact⟨2,rfl,zfv (d:=([]:List Nat)) (l:=aggNames) (k:=2) (p:=fun w=>zbu s w) (by decide) hz,rfl⟩)
  |(rename_i hz;exact⟨3,rfl,zfv (d:=([]:List Nat)) (l:=aggNames) (k:=3) (p:=fun w=>zbu s w) (by decide) hz,rfl⟩)
  |(rename_i hz;exact⟨4,rfl,zfv (d:=([]:List Nat)) (l:=aggNames) (k:=4) (p:=fun w=>zbu s w) (by decide) hz,rfl⟩)
  |(rename_i hz;exact⟨5,rfl,zfv (d:=([]:List Nat)) (l:=aggNames) (k:=5) (p:=fun w=>zbu s w) (by decide) hz,rfl⟩)
  |(rename_i hz;exact⟨0+1,by decide,zdm (p:=fun j=>zbu s (aggNames.getD j default)) hj hz,rfl,rfl⟩)
  |(rename_i hz;exact⟨1+1,by decide,zdm (p:=fun j=>zbu s (aggNames.getD j default)) hj hz,rfl,rfl⟩)
  |(rename_i hz;exact⟨2+1,by decide,zdm (p:=fun j=>zbu s (aggNames.getD j default)) hj hz,rfl,rfl⟩)
  |(rename_i hz;exact⟨3+1,by decide,zdm (p:=fun j=>zbu s (aggNames.getD j default)) hj hz,rfl,rfl⟩)
  |(rename_i hz;exact⟨4+1,by decide,zdm (p:=fun j=>zbu s (aggNames.getD j default)) hj hz,rfl,rfl⟩)
  |(rename_i hz;exact⟨5+1,by decide,zdm (p:=fun j=>zbu s (aggNames.getD j default)) hj hz,rfl,rfl⟩)
  |exact ya9 rfl
  |exact⟨-1,rfl,zjA (l:=aggNames) (p:=fun w=>zbu s w) (k:=6) (by decide) hj,rfl⟩
theorem zwo(s:List Nat):DSpec Tryz.prog axX axG 91 [.isl 1 6 (zcz 1 (aggNames.map fun x=>SV.cv (.str x))),.cv (.str s)] [] (fun v O=>v=ab (aggNames.any fun w=>zbu s w)/\O=[]):=by
 refine zac { glb:=axG } true Tryz.func91 (by kernel_rfl) rfl ?_
 repeat' (
   (conv=>whnf)
   first
    |exact zad (by kernel_rfl)
    |refine And.intro ?_ ?_
    |refine zaa ?_ ?_
    |(refine⟨_,zwy s,?_⟩;rintro v O' ⟨k,rfl,hk,rfl⟩)
    |intro _)
 all_goals first
  |rfl
  |exact congrArg (fun b=>SV.cv (CV.bool b)) hk
theorem zFP{s:List Nat}(h:zbu s []=true):zcY s=false:=by unfold zcY;rw[h];rfl
theorem zFR{s:List Nat}(h:decide ((s.length:Int) > 8)=true):zcY s=false:=by unfold zcY;rw[h,Bool.or_true];rfl
theorem zFz{s:List Nat}{k:Nat}(hk:k<s.length)(h:zpm (s.getD k 0%256)=false):zcY s=false:=by
 have:(s.all fun b=>zpm (b%256))=false:=by
  rw[List.all_eq_false];refine⟨s.getD k 0,?_,by rw[h];simp⟩;rw[ya8,yb5 hk];exact List.getElem_mem hk
 unfold zcY;rw[this];simp
theorem zCP{s:List Nat}(i:Nat)(hi:i<5)(h:zbu s (wordsL.getD i [])=true):zcY s=false:=by
 have:(wordsL.any fun w=>zbu s w)=true:=by
  rw[List.any_eq_true];refine⟨wordsL.getD i [],?_,h⟩;rw[ya8,yb5 (by exact hi)];exact List.getElem_mem _
 unfold zcY;rw[this];simp
theorem zFF{s:List Nat}{k:Nat}(h0:zbu s []=false)(h1:decide ((s.length:Int) > 8)=false)(hk:decide ((k:Int)<s.length)=false)(hj:∀j,j<k->zpm (s.getD j 0%256)=true)(w0:zbu s (wordsL.getD 0 [])=false)(w1:zbu s (wordsL.getD 1 [])=false)(w2:zbu s (wordsL.getD 2 [])=false)(w3:zbu s (wordsL.getD 3 [])=false)(w4:zbu s (wordsL.getD 4 [])=false):zcY s = !(aggNames.any fun w=>zbu s w):=by
 have a1:(s.all fun b=>zpm (b%256))=true:=by
  rw[yd1];intro x hx;obtain⟨i,hi,rfl⟩:=List.mem_iff_getElem.1 hx;have:=hj i (by simp at hk;omega)
  rwa [ya8,yb5 hi]at this
 have a2:(wordsL.any fun w=>zbu s w)=false:=by
  show(zbu s (wordsL.getD 0 [])||(zbu s (wordsL.getD 1 [])||(zbu s (wordsL.getD 2 [])||(zbu s (wordsL.getD 3 [])||(zbu s (wordsL.getD 4 [])||false)))))=false;rw[w0,w1,w2,w3,w4];rfl
 unfold zcY;rw[h0,h1,a1,a2];simp
theorem zDa{b:Nat}(h:decide ((b:Int)<97)=true):zpm b=false:=by
 have:b<97:=by simp at h;omega
 unfold zpm;rw[show Nat.ble 97 b=false by rw[<- Bool.not_eq_true,Nat.ble_eq];omega];rfl
theorem zDI{b:Nat}(h:decide ((b:Int) > 122)=true):zpm b=false:=by
 have:b > 122:=by simp at h;omega
 unfold zpm;rw[show Nat.ble b 122=false by rw[<- Bool.not_eq_true,Nat.ble_eq];omega];simp
theorem zDl{b:Nat}(h:decide ((b:Int)<97)=false)(h':decide ((b:Int) > 122)=false):zpm b=true:=by
 have:97<=b:=by simp at h;omega
 have:b<=122:=by simp at h';omega
 unfold zpm;rw[show Nat.ble 97 b=true by rw[Nat.ble_eq];omega,show Nat.ble b 122=true by rw[Nat.ble_eq];omega];rfl
theorem zFO{s:List Nat}{k:Nat}(h:∀j,j<k->zpm (s.getD j 0%256)=true)(hk:zpm (s.getD k 0%256)=true):∀j,j<k+1->zpm (s.getD j 0%256)=true:=fun j hj=>by
 rcases Nat.lt_succ_iff_lt_or_eq.1 hj with h1 |rfl
 ·exact h j h1
 ·exact hk
theorem abF{b:Bool}(h:b=false):SV.cv (CV.bool false)=ab b:=by rw[h]
set_option maxRecDepth 100000 in
theorem zzM(s:List Nat):DSpec Tryz.prog axX axG 71 [.cv (.str s)] [] (fun v O=>v=ab (zcY s)/\O=[]):=by
 refine zac { glb:=axG,ann:=[(4,[15,13])] } true Tryz.func71 (by kernel_rfl) rfl ?_
 repeat' (
   (conv=>whnf)
   first
    |exact zad (by kernel_rfl)
    |refine And.intro ?_ ?_
    |refine zaa ?_ ?_
    |((refine⟨fun vs O _=>∃k:Nat,k<=s.length/\(∀j,j<k->zpm (s.getD j 0%256)=true)/\vs=[ai k,.lst 0]/\O=[.list 5 1 s.length (zft s)],fun vs O=>match vs with |[.cv (.int _ k),_]=>s.length - k.toNat |_=>0,⟨0,Nat.zero_le _,fun j h=>absurd h (by omega),rfl,rfl⟩,?_⟩;rintro vs O _ ⟨k,hk,hj,rfl,rfl⟩))
    |(refine⟨_,zwo s,?_⟩;rintro v O' ⟨rfl,rfl⟩)
    |intro _)
 all_goals first
  |rfl
  |omega
  |(simp only[zz]at *;omega)
  |(rename_i hz;exact abF (zFP hz))
  |(rename_i hz;exact abF (zFR hz))
  |(rename_i hz;exact abF (zFz (k:=k) (by(simp only[zz]at *;omega)) (zDa hz)))
  |(rename_i hz;exact abF (zFz (k:=k) (by(simp only[zz]at *;omega)) (zDI hz)))
  |(rename_i hz;exact abF (zCP 0 (by decide) hz))
  |(rename_i hz;exact abF (zCP 1 (by decide) hz))
  |(rename_i hz;exact abF (zCP 2 (by decide) hz))
  |(rename_i hz;exact abF (zCP 3 (by decide) hz))
  |(rename_i hz;exact abF (zCP 4 (by decide) hz))
  |(rename_i hz1 hz2;exact⟨k+1,by(simp only[zz]at *;omega),zFO hj (zDl hz1 hz2),rfl,rfl⟩)
  |(rename_i h0 h1 _ hk w0 w1 w2 w3 w4;exact congrArg (fun b=>SV.cv (CV.bool b)) (zFF h0 h1 hk hj w0 w1 w2 w3 w4).symm)
end Go.Proofs.YtogdglnaagkaaaaGreatDoor
