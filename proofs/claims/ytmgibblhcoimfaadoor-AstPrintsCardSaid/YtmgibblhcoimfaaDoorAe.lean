import Derived.Test.YtmgibblhcoimfaaDoorAd
import Derived.Test.YtmgibblhcoimfaaDoorAz
set_option linter.unusedSimpArgs false
set_option linter.unusedVariables false
set_option maxRecDepth 100000
namespace Go.Proofs.YtmgibblhcoimfaaDoor
open Go Go.Cx
noncomputable def zbo(n:NodeM):Int:=bif zaz 200 n then 0 else 3
theorem zoq(n:NodeM)(hn:Fit n):DSpec Tryd.prog axX axG 13 [.agg (zaK n)] [] (fun v O=>v=ai (zbo n)/\O=[]):=by
 have h:=zxB 200 (by decide) n hn;refine zac { glb:=axG } true Tryd.func13 (by kernel_rfl) rfl ?_
 repeat' (
   (conv=>whnf)
   first
    |exact zad (by kernel_rfl)
    |refine And.intro ?_ ?_
    |refine zaa ?_ ?_
    |(refine⟨_,h,?_⟩;rintro v O' ⟨rfl,rfl⟩)
    |intro _)
 all_goals first
  |rfl
  |omega
  |(rename_i hz;unfold zbo;rw[Bool.not_eq_true']at hz;rw[hz];rfl)
  |(rename_i hz;unfold zbo;rw[Bool.not_eq_false']at hz;rw[hz];rfl)
section
variable{A:Type}{n:NodeM}{q:Int×NodeM->Bool}{f:Int×NodeM->A}{k:Nat}{p:Int×NodeM}
end
section
variable{A:Type}[Inhabited A]{g:A->List SV}{sz:Nat}{n:NodeM}{q:Int×NodeM->Bool}{f:Int×NodeM->A}{j m:Nat}{el:Nat->List SV}
end
end Go.Proofs.YtmgibblhcoimfaaDoor
