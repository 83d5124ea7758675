import Derived.Test.YteaemnicofpbeaaGreatDoorMc
set_option linter.unusedSimpArgs false
set_option linter.unusedVariables false
set_option maxRecDepth 100000
namespace Go.Proofs.YteaemnicofpbeaaGreatDoor
open Go Go.Cx
def SEls(l:List SlotM)(k:Nat)(el:Nat->List SV):Prop:=∀i,i<k->SameL (el i) (ziw (l.getD i default))
theorem SEls.snoc{l:List SlotM}{k sz:Nat}{el:Nat->List SV}{cs:List SV}(h:SEls l k el)(hc:SameL cs (ziw (l.getD k default)))(hl:cs.length=sz):SEls l (k+1) (zei k el (zgw sz cs)):=fun i hi=>by
 unfold zei;split
 ·rename_i hq;exact h i hq
 ·obtain rfl:i=k:=by omega
  rw[Nat.sub_self];simp only[zgw,Nat.zero_mul,List.drop_zero];rw[<- hl,List.take_length];exact hc
theorem zxB{sz n:Nat}{x el:Nat->List SV}:Same (.isl sz (0+n) (zei 0 x el)) (.isl sz n el):=by
 rw[Nat.zero_add];exact .isl fun i _=>by unfold zei;simp
set_option maxHeartbeats 400000 in
theorem zqh(l:List SlotM)(hl:Lgt l):DSpec Tryz.prog axX axG 6 [.agg (zbo l)] [] (fun v O=>v=.agg (zbo l)/\O=[]):=by
 refine DSpec.same (post:=fun v O=>Same v (.agg (zbo l))/\O=[]) ?_ fun v O h=>⟨_,h.1,rfl,h.2⟩
 have h30:=hl.1;refine zaw { glb:=axG,ann:=[(3,[4])],nils:=[(3,[(.cell 2 0,38,2)])] } true Tryz.func6 (by kernel_rfl) rfl ?_
 repeat' (
   (conv=>whnf)
   first
    |exact zaI (by kernel_rfl)
    |refine And.intro ?_ ?_
    |refine zae ?_ ?_
    |((refine⟨fun vs O _=>∃(k:Nat) (el:Nat->List SV),k<=l.length/\SEls l k el/\vs=[ai k]/\O=[.cells 24 (zbo l),.cells 24 [.cv .nils],.cells 24 [.lst 3],.list 38 2 k el],fun vs O=>match vs with |[.cv (.int _ k)]=>l.length - k.toNat |_=>0,⟨0,_,Nat.zero_le _,fun i h=>absurd h (by omega),rfl,rfl⟩,?_⟩;rintro vs O _ ⟨k,el,hk,he,rfl,rfl⟩))
    |intro _)
 all_goals try have hg20:=hl.2 k (by(simp only[zz]at *;omega))
 all_goals first
  |rfl
  |omega
  |(simp only[zz]at *;omega)
  |(show 0+(l.getD k default).gs.length<=1000000;omega)
  |exact⟨k+1,_,by(simp only[zz]at *;omega),he.snoc (.cons (.refl _) (.cons zxB .nil)) rfl,rfl,rfl⟩
  | (obtain rfl:k=l.length:=by(simp only[zz]at *;omega)
     exact .agg (.cons (.islD he) .nil))
end Go.Proofs.YteaemnicofpbeaaGreatDoor
