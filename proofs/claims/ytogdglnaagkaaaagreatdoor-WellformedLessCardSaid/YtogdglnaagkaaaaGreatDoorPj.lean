import Derived.Test.YtogdglnaagkaaaaGreatDoorPi
set_option linter.unusedSimpArgs false
set_option linter.unusedVariables false
set_option maxRecDepth 100000
namespace Go.Proofs.YtogdglnaagkaaaaGreatDoor
open Go Go.Cx
def zjS(t:List Nat):SV:=bif decide ((t.length:Int) > 400)then .tup [.cv (.str []),ai 4]else .tup [.cv (.str t),ai 0]
theorem zuX{t:List Nat}(h:decide ((t.length:Int) > 400)=true):SV.tup [.cv (.str []),ai 4]=zjS t:=by unfold zjS;rw[h];rfl
theorem zzh{t:List Nat}(h:decide ((t.length:Int) > 400)=false):SV.tup [.cv (.str t),ai 0]=zjS t:=by unfold zjS;rw[h];rfl
theorem zxU{bs:List Nat}{n:Nat}{el:Nat->List SV}(hb:Byt bs n el)(h0:0<n)(hl:n<=1000000)(hz:decide ((bs.length:Int) > 400)=true):DSpec Tryz.prog axX axG 32 [.agg [.ptr 0 0]] (B1 n el) (fun v O=>v=.tup [.cv (.str []),ai 4]/\O=B1 n el):=by
 refine zac { glb:=axG } true Tryz.func32 (by kernel_rfl) rfl ?_
 repeat' (
   (conv=>whnf)
   first
    |exact zad (by kernel_rfl)
    |refine And.intro ?_ ?_
    |refine zaa ?_ ?_
    |(refine⟨_,zzP hb hl,?_⟩;rintro v O' ⟨rfl,rfl⟩)
    |(refine⟨_,zzD hb h0 hl,?_⟩;rintro v O' ⟨rfl,rfl⟩)
    |intro _)
 all_goals first
  |rfl
  |omega
  |(exfalso;rename_i hh;rw[hz]at hh;cases hh)
theorem zxP{bs:List Nat}{n:Nat}{el:Nat->List SV}(hb:Byt bs n el)(h0:0<n)(hl:n<=1000000)(hz:decide ((bs.length:Int) > 400)=false):DSpec Tryz.prog axX axG 32 [.agg [.ptr 0 0]] (B1 n el) (fun v O=>v=.tup [.cv (.str bs),ai 0]/\O=[.cells 76 [.ptr 0 0,.junk],.list 5 1 0 el]):=by
 refine zac { glb:=axG } true Tryz.func32 (by kernel_rfl) rfl ?_
 repeat' (
   (conv=>whnf)
   first
    |exact zad (by kernel_rfl)
    |refine And.intro ?_ ?_
    |refine zaa ?_ ?_
    |(refine⟨_,zzP hb hl,?_⟩;rintro v O' ⟨rfl,rfl⟩)
    |(refine⟨_,zzD hb h0 hl,?_⟩;rintro v O' ⟨rfl,rfl⟩)
    |intro _)
 all_goals first
  |rfl
  |omega
  |(exfalso;rename_i hh;rw[hz]at hh;cases hh)
end Go.Proofs.YtogdglnaagkaaaaGreatDoor
