import Derived.Test.YtmgibblhcoimfaaDoorPi
set_option linter.unusedSimpArgs false
set_option linter.unusedVariables false
set_option maxRecDepth 100000
namespace Go.Proofs.YtmgibblhcoimfaaDoor
open Go Go.Cx
def zki(t:List Nat):SV:=bif decide ((t.length:Int) > 400)then .tup [.cv (.str []),ai 4]else .tup [.cv (.str t),ai 0]
theorem znN{t:List Nat}(h:decide ((t.length:Int) > 400)=true):SV.tup [.cv (.str []),ai 4]=zki t:=by unfold zki;rw[h];rfl
theorem zrx{t:List Nat}(h:decide ((t.length:Int) > 400)=false):SV.tup [.cv (.str t),ai 0]=zki t:=by unfold zki;rw[h];rfl
theorem zwS{bs:List Nat}{n:Nat}{el:Nat->List SV}(hb:Byt bs n el)(h0:0<n)(hl:n<=1000000)(hz:decide ((bs.length:Int) > 400)=true):DSpec Tryd.prog axX axG 22 [.agg [.ptr 0 0]] (B1 n el) (fun v O=>v=.tup [.cv (.str []),ai 4]/\O=B1 n el):=by
 refine zac { glb:=axG } true Tryd.func22 (by kernel_rfl) rfl ?_
 repeat' (
   (conv=>whnf)
   first
    |exact zaf (by kernel_rfl)
    |refine And.intro ?_ ?_
    |refine zaa ?_ ?_
    |(refine⟨_,zyw hb hl,?_⟩;rintro v O' ⟨rfl,rfl⟩)
    |(refine⟨_,zyx hb h0 hl,?_⟩;rintro v O' ⟨rfl,rfl⟩)
    |intro _)
 all_goals first
  |rfl
  |omega
  |(exfalso;rename_i hh;rw[hz]at hh;cases hh)
theorem zxw{bs:List Nat}{n:Nat}{el:Nat->List SV}(hb:Byt bs n el)(h0:0<n)(hl:n<=1000000)(hz:decide ((bs.length:Int) > 400)=false):DSpec Tryd.prog axX axG 22 [.agg [.ptr 0 0]] (B1 n el) (fun v O=>v=.tup [.cv (.str bs),ai 0]/\O=[.cells 61 [.ptr 0 0,.junk],.list 5 1 0 el]):=by
 refine zac { glb:=axG } true Tryd.func22 (by kernel_rfl) rfl ?_
 repeat' (
   (conv=>whnf)
   first
    |exact zaf (by kernel_rfl)
    |refine And.intro ?_ ?_
    |refine zaa ?_ ?_
    |(refine⟨_,zyw hb hl,?_⟩;rintro v O' ⟨rfl,rfl⟩)
    |(refine⟨_,zyx hb h0 hl,?_⟩;rintro v O' ⟨rfl,rfl⟩)
    |intro _)
 all_goals first
  |rfl
  |omega
  |(exfalso;rename_i hh;rw[hz]at hh;cases hh)
end Go.Proofs.YtmgibblhcoimfaaDoor
