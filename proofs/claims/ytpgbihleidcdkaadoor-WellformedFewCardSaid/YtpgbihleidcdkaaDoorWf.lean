/-
  WellformedFew: the kernel runs it, with numbers of which the rests alone are known.
-/
import Derived.Test.YtpgbihleidcdkaaDoorWa
set_option linter.unusedSimpArgs false
set_option linter.unusedVariables false
namespace Go.Proofs.YtpgbihleidcdkaaDoor
open Go Go.Cx

noncomputable def namesWK : List CV := [[99, 111, 117, 110, 116], [115, 117, 109], [109, 105, 110], [109, 97, 120], [102, 105, 114, 115, 116], [108, 97, 115, 116]].map fun s => CV.str (s.map UInt8.toNat)
/-- The chapter's examples, where the package variable is as it was laid. -/
noncomputable def fewK (m : Mem) : List CV → Option CV
  | [] => match m.get 3 with
    | some (.ro cs) => match cvEqL cs namesWK with
      | true => some (.bool true)
      | false => none
    | _ => none
  | _ => none
noncomputable def fewM (_ : Mem) : List CV → Option CV
  | [.res x k r h, .int .i64 (.ofNat k')] => match Nat.beq k k' && (Nat.blt 0 k && Nat.blt k 1000000) with
    | true => some (.int .i64 (.ofNat r))
    | false => none
  | _ => none
noncomputable def fewX : Ext := fun f => match Nat.beq f 3 with
  | true => some fewK
  | false => match Nat.beq f 20 with
    | true => some fewM
    | false => none
noncomputable def fewRun (a b : Int) (i j : Nat) (h : a.emod (14 : Nat) = i) (h' : b.emod (9 : Nat) = j) : Bool := isTrue (runF Tryd.prog fewX 100000 (.call 4 [.res a 14 i h, .res b 9 j h'] (mem0 64 rowsWK)))
end Go.Proofs.YtpgbihleidcdkaaDoor
