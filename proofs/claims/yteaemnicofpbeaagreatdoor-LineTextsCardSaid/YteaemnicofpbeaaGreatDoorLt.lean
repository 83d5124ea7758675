import Derived.Test.YteaemnicofpbeaaGreatDoorAb
import Derived.Test.YteaemnicofpbeaaGreatDoorAz
import Derived.Test.YteaemnicofpbeaaGreatDoorPl
import Derived.Laws.Bits64b
set_option linter.unusedSimpArgs false
set_option linter.unusedVariables false
set_option maxRecDepth 100000
namespace Go.Proofs.YteaemnicofpbeaaGreatDoor
open Go Go.Cx
theorem zuD{R:RO}{e:DEnv}{x y:CV}{vs:List CV}(hx:zj0 x=true)(hy:zj0 y=true)(h:RepL R e [.cv x,.cv y] vs):vs=[x,y]:=by
 cases h with
 |cons h1 h2=>cases h2 with
  |cons h3 h4=>cases h4;cases h1;cases h3;rfl
theorem zvy(x:Int)(h0 : -9223372036854775808<=x)(h1:x<=9223372036854775807):DSpec Tryz.prog axX axG 46 [ai x,ai 10] [] (fun v O=>v=.cv (.str (zwV x))/\O=[]):=
 zjk (g:=axIC) rfl (y:=.str (zwV x)) (fun _ _=>.cv rfl) (fun R m xs hg hm hr=>by
  rw[zuD rfl rfl hr];show zv8 _ m [.int .i64 x,.int .i64 10]=_;unfold zv8;simp only[h0,h1,decide_true,Bool.true_and,zrQ hg hm axR_in];rfl) rfl
theorem ztF(x:Int)(h0:0<=x)(h1:x<=99):DSpec Tryz.prog axX axG 33 [ai x] [] (fun v O=>v=.cv (.str (zeT x.toNat))/\O=[]):=by
 rw[<- ztg (show ¬x<0 by omega)];refine zaw { glb:=axG } true Tryz.func33 (by kernel_rfl) rfl ?_
 repeat' (
   (conv=>whnf)
   first
    |exact zaI (by kernel_rfl)
    |refine And.intro ?_ ?_
    |refine zae ?_ ?_
    |(refine⟨_,zvy x (by omega) (by omega),?_⟩;rintro v O' ⟨rfl,rfl⟩)
    |intro _)
 all_goals first
  |rfl
theorem zuo(x:Int)(h0:0<=x)(h1:x<=99):DSpec Tryz.prog axX axG 25 [ai x] [] (fun v O=>v=.cv (.str (zeT x.toNat))/\O=[]):=by
 refine zaw { glb:=axG } true Tryz.func25 (by kernel_rfl) rfl ?_
 repeat' (
   (conv=>whnf)
   first
    |exact zaI (by kernel_rfl)
    |refine And.intro ?_ ?_
    |refine zae ?_ ?_
    |(refine⟨_,ztF x h0 h1,?_⟩;rintro v O' ⟨rfl,rfl⟩)
    |intro _)
 all_goals first
  |rfl
structure Left(x n y:Nat):Prop where
 lt:y<18446744073709551616
 len:n+(zkx y 64).length=(zkx x 64).length
 get:∀j:Nat,(zkx x 64)[n+j]? = (zkx y 64)[j]?
theorem Left.next{x n y:Nat}(h:Left x n y)(h0:y≠0):Left x (n+1) (y&&&(y - 1)):=by
 have hb:=ztm h0 h.lt;refine⟨Nat.lt_of_le_of_lt Nat.and_le_left h.lt,?_,fun j=>?_⟩
 ·have:=h.len;rw[hb,ya7]at this;omega
 ·have:=h.get (j+1);rw[hb,yc6]at this;rw[<- this];congr 1;omega
theorem Left.last{x n:Nat}(h:Left x n 0):n=(zkx x 64).length:=by
 have:=h.len;rw[zqy rfl]at this;simpa using this
@[reducible] def zuh (s:List Nat):List SV:=[.cv (.str s)]
theorem zwk{l:List (List Nat)}{m:Nat}{el:Nat->List SV}(h:LElA zuh l m el):∀i,i<m->el i=[.cv (.str (l.getD i default))]:=fun i hi=>h.2 i hi
theorem zrq{l:List (List Nat)}{m:Nat}{el:Nat->List SV}(h:LElA zuh l m el):(List.range m).map (fun i=>l.getD i default)=l:=by
 rw[h.1];have:=zpl l (fun s=>s);simpa using this
end Go.Proofs.YteaemnicofpbeaaGreatDoor
