/-
  ModelKnown: its parts make the whole. Conditions: none.
-/
import Derived.Test.YtboceomegbioaaaGreatDoorModelKnownP1
import Derived.Test.YtboceomegbioaaaGreatDoorModelKnownP2
import Derived.Test.YtboceomegbioaaaGreatDoorModelKnownP3
import Derived.Test.YtboceomegbioaaaGreatDoorModelKnownP4
import Derived.KernelRfl
set_option linter.unusedSimpArgs false
set_option linter.unusedVariables false
namespace Go.Proofs.YtboceomegbioaaaGreatDoor
open Go Go.Cx Go.RowKit
theorem modelKnown_code (hm : Tryz.prog.follows .mixedOrders = true) (B : Bas) : CodeOk Tryz.prog B kn_c0 ⟨Tryz.f3.ntmps, .nil⟩ [] none (mem0 64 []) (.ex .ret (mkT 147 kn_t4) [] (mkM 21680 kn_o4)) := by
  have ih : ∀ k, TaskOk Tryz.prog B k (runF Tryz.prog (fun _ => none) 1000000 k) := fun k => by
    rw [runF_eq]; exact runC_ok noExt hm _ B k
  have h4 := runR_ok ih modelKnown_p4
  have h3 : CodeOk Tryz.prog B kn_c2 (mkT 147 kn_t2) [] none (mkM 11154 kn_o2) (.ex .ret (mkT 147 kn_t4) [] (mkM 21680 kn_o4)) := runS_ok ih _ _ _ _ modelKnown_p3 h4
  have h2 : CodeOk Tryz.prog B kn_c1 (mkT 147 kn_t1) [] none (mkM 3741 kn_o1) (.ex .ret (mkT 147 kn_t4) [] (mkM 21680 kn_o4)) := runS_ok ih _ _ _ _ modelKnown_p2 h3
  have h1 : CodeOk Tryz.prog B kn_c0 ⟨Tryz.f3.ntmps, .nil⟩ [] none (mem0 64 []) (.ex .ret (mkT 147 kn_t4) [] (mkM 21680 kn_o4)) := runS_ok ih _ _ _ _ modelKnown_p1 h2
  exact h1
theorem modelKnown_b : Tryz.f3.body = some kn_c0 := by kernel_rfl
theorem modelKnown_g : goodName Tryz.f3 = true := by kernel_rfl
theorem modelKnown_l : isTrue (leave Tryz.prog (fun _ => .no "") Tryz.f3.results.toList (mkT 147 kn_t4) [] (mkM 21680 kn_o4)) = true := by kernel_rfl
theorem modelKnown_calls0 (hm : Tryz.prog.follows .mixedOrders = true) (W : World) : Calls Tryz.prog 3 #[] W fun en w' => en = .returned (.bool true) ∧ Below W.heap.size W w' :=
  parts_calls (P := Tryz.prog) (f := 3) (fn := Tryz.f3) (c := kn_c0) (l := []) (bs := []) (k := 64) (nxt := 21680) (sz := 147) (ts := kn_t4) (os := kn_o4) (W := W) rfl Tryz.func3 modelKnown_b modelKnown_g (fun B => modelKnown_code hm B) modelKnown_l (rowsOk_nil W [])
end Go.Proofs.YtboceomegbioaaaGreatDoor
