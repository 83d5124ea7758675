/-
  ModelKnown: the states between its parts. Conditions: none.
-/
import Derived.Test.YtboceomegbioaaaGreatDoorCu
import Derived.Test.YtboceomegbioaaaGreatDoorChecked
import Derived.Test.YtboceomegbioaaaGreatDoorCv
import Derived.KernelRfl
set_option linter.unusedSimpArgs false
set_option linter.unusedVariables false
namespace Go.Proofs.YtboceomegbioaaaGreatDoor
open Go Go.Cx Go.RowKit
noncomputable def kn_c0 : Code := match Tryz.f3.body with | some c => c | none => .skip
noncomputable def kn_t1 : List (Nat × CV) := [(1, .opn 2859 0 5), (3, .ptr 3740 0), (0, .bool false)]
noncomputable def kn_o1 : List (Nat × CO) := [(2859, .opn 36 6 [.int .i64 (0), .int .i64 (0), .int .i64 (0), .int .i64 (1), .nils, .nils, .int .i64 (0), .int .i64 (0), .int .i64 (0), .int .i64 (2), .nils, .nils, .int .i64 (0), .int .i64 (15), .int .i64 (0), .int .i64 (0), .nils, .nils, .int .i64 (0), .int .i64 (0), .int .i64 (0), .int .i64 (0), .nils, .nils, .int .i64 (0), .int .i64 (6), .int .i64 (0), .int .i64 (0), .nils, .nils]), (3740, .cells 48 [.int .i64 (3), .int .i64 (3)])]
noncomputable def kn_c1 : Code := tlC 4 kn_c0
noncomputable def kn_t2 : List (Nat × CV) := [(1, .opn 11106 0 6), (3, .ptr 3740 0), (0, .bool false)]
noncomputable def kn_o2 : List (Nat × CO) := [(3740, .cells 48 [.int .i64 (3), .int .i64 (3)]), (11106, .opn 36 6 [.int .i64 (1), .int .i64 (0), .int .i64 (0), .int .i64 (0), .nils, .nils, .int .i64 (1), .int .i64 (3), .int .i64 (3), .int .i64 (0), .nils, .nils, .int .i64 (1), .int .i64 (9), .int .i64 (0), .int .i64 (0), .nils, .nils, .int .i64 (1), .int .i64 (13), .int .i64 (0), .int .i64 (0), .nils, .nils, .int .i64 (1), .int .i64 (0), .int .i64 (0), .int .i64 (1), .nils, .nils, .int .i64 (1), .int .i64 (15), .int .i64 (0), .int .i64 (0), .nils, .nils])]
noncomputable def kn_c2 : Code := tlC 1 kn_c1
noncomputable def kn_t3 : List (Nat × CV) := [(1, .opn 15434 0 2), (0, .bool false)]
noncomputable def kn_o3 : List (Nat × CO) := [(15434, .opn 36 6 [.int .i64 (3), .int .i64 (7), .int .i64 (0), .int .i64 (0), .nils, .nils, .int .i64 (0), .int .i64 (2), .int .i64 (0), .int .i64 (0), .nils, .nils])]
noncomputable def kn_c3 : Code := tlC 9 kn_c2
noncomputable def kn_t4 : List (Nat × CV) := [(0, .bool true)]
noncomputable def kn_o4 : List (Nat × CO) := []
end Go.Proofs.YtboceomegbioaaaGreatDoor
