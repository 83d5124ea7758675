/-
  BoundKnown: its parts make the whole. Conditions: none.
-/
import Derived.Test.YtggcihdpjmbbbaaGreatDoorBoundKnownP1
import Derived.KernelRfl
set_option linter.unusedSimpArgs false
set_option linter.unusedVariables false
namespace Go.Proofs.YtggcihdpjmbbbaaGreatDoor
open Go Go.Cx Go.RowKit
theorem boundKnown_code (hm : Tryz.prog.follows .mixedOrders = true) (B : Bas) : CodeOk Tryz.prog B kn_c0 ⟨Tryz.f3.ntmps, .nil⟩ [] none (mem0 64 []) (.ex .ret (mkT 127 kn_t1) [] (mkM 1791 kn_o1)) := by
  have ih : ∀ k, TaskOk Tryz.prog B k (runF Tryz.prog (fun _ => none) 1000000 k) := fun k => by
    rw [runF_eq]; exact runC_ok noExt hm _ B k
  have h1 := runR_ok ih boundKnown_p1
  exact h1
theorem boundKnown_b : Tryz.f3.body = some kn_c0 := by kernel_rfl
theorem boundKnown_g : goodName Tryz.f3 = true := by kernel_rfl
theorem boundKnown_l : isTrue (leave Tryz.prog (fun _ => .no "") Tryz.f3.results.toList (mkT 127 kn_t1) [] (mkM 1791 kn_o1)) = true := by kernel_rfl
theorem boundKnown_calls0 (hm : Tryz.prog.follows .mixedOrders = true) (W : World) : Calls Tryz.prog 3 #[] W fun en w' => en = .returned (.bool true) ∧ Below W.heap.size W w' :=
  parts_calls (P := Tryz.prog) (f := 3) (fn := Tryz.f3) (c := kn_c0) (l := []) (bs := []) (k := 64) (nxt := 1791) (sz := 127) (ts := kn_t1) (os := kn_o1) (W := W) rfl Tryz.func3 boundKnown_b boundKnown_g (fun B => boundKnown_code hm B) boundKnown_l (rowsOk_nil W [])
end Go.Proofs.YtggcihdpjmbbbaaGreatDoor
