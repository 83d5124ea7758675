/-
  ParseKnown: its parts make the whole. Conditions: none.
-/
import Derived.Test.YtoiigefgpcioeaaGreatDoorParseKnownP1
import Derived.Test.YtoiigefgpcioeaaGreatDoorParseKnownP2
import Derived.Test.YtoiigefgpcioeaaGreatDoorParseKnownP3
import Derived.Test.YtoiigefgpcioeaaGreatDoorParseKnownP4
import Derived.Test.YtoiigefgpcioeaaGreatDoorParseKnownP5
import Derived.Test.YtoiigefgpcioeaaGreatDoorParseKnownP6
import Derived.Test.YtoiigefgpcioeaaGreatDoorParseKnownP7
import Derived.Test.YtoiigefgpcioeaaGreatDoorParseKnownP8
import Derived.KernelRfl
set_option linter.unusedSimpArgs false
set_option linter.unusedVariables false
namespace Go.Proofs.YtoiigefgpcioeaaGreatDoor
open Go Go.Cx Go.RowKit
theorem parseKnown_code (hm : Tryz.prog.follows .mixedOrders = true) (B : Bas) : CodeOk Tryz.prog B kn_c0 ⟨Tryz.f3.ntmps, .nil⟩ [] none (mem0 64 rows0) (.ex .ret (mkT 114 kn_t8) [] (mkM 24625 kn_o8)) := by
  have ih : ∀ k, TaskOk Tryz.prog B k (runF Tryz.prog strX 1000000 k) := fun k => by
    rw [runF_eq]; exact runC_ok strX_ok hm _ B k
  have h8 := runR_ok ih parseKnown_p8
  have h7 : OpsOk Tryz.prog B (opsC kn_c3) (List.drop 11 (opsC kn_c3).toList) (tlC 1 kn_c3) (mkT 114 kn_t6) (mkM 18460 kn_o6) .ret (mkT 114 kn_t8) (mkM 24625 kn_o8) := opsOk_run ih 6 parseKnown_p7 (ops_end (by kernel_rfl) h8)
  have g6 : OpsOk Tryz.prog B (opsC kn_c3) (opsC kn_c3).toList (tlC 1 kn_c3) (mkT 114 kn_t5) (mkM 13727 kn_o5) .ret (mkT 114 kn_t8) (mkM 24625 kn_o8) := opsOk_run ih 11 parseKnown_p6 h7
  have h6 : CodeOk Tryz.prog B kn_c3 (mkT 114 kn_t5) [] none (mkM 13727 kn_o5) (.ex .ret (mkT 114 kn_t8) [] (mkM 24625 kn_o8)) := ops_code (by kernel_rfl) g6
  have h5 : CodeOk Tryz.prog B kn_c2 (mkT 114 kn_t4) [] none (mkM 12535 kn_o4) (.ex .ret (mkT 114 kn_t8) [] (mkM 24625 kn_o8)) := runS_ok ih _ _ _ _ parseKnown_p5 h6
  have h4 : OpsOk Tryz.prog B (opsC kn_c1) (List.drop 1 (List.drop 2 (opsC kn_c1).toList)) (tlC 1 kn_c1) (mkT 114 kn_t3) (mkM 10202 kn_o3) .ret (mkT 114 kn_t8) (mkM 24625 kn_o8) := opsOk_run ih 7 parseKnown_p4 (ops_end (by kernel_rfl) h5)
  have h3 : OpsOk Tryz.prog B (opsC kn_c1) (List.drop 2 (opsC kn_c1).toList) (tlC 1 kn_c1) (mkT 114 kn_t2) (mkM 2112 kn_o2) .ret (mkT 114 kn_t8) (mkM 24625 kn_o8) := opsOk_run ih 1 parseKnown_p3 h4
  have g2 : OpsOk Tryz.prog B (opsC kn_c1) (opsC kn_c1).toList (tlC 1 kn_c1) (mkT 114 kn_t1) (mkM 2112 kn_o1) .ret (mkT 114 kn_t8) (mkM 24625 kn_o8) := opsOk_run ih 2 parseKnown_p2 h3
  have h2 : CodeOk Tryz.prog B kn_c1 (mkT 114 kn_t1) [] none (mkM 2112 kn_o1) (.ex .ret (mkT 114 kn_t8) [] (mkM 24625 kn_o8)) := ops_code (by kernel_rfl) g2
  have h1 : CodeOk Tryz.prog B kn_c0 ⟨Tryz.f3.ntmps, .nil⟩ [] none (mem0 64 rows0) (.ex .ret (mkT 114 kn_t8) [] (mkM 24625 kn_o8)) := runS_ok ih _ _ _ _ parseKnown_p1 h2
  exact h1
theorem parseKnown_b : Tryz.f3.body = some kn_c0 := by kernel_rfl
theorem parseKnown_g : goodName Tryz.f3 = true := by kernel_rfl
theorem parseKnown_l : isTrue (leave Tryz.prog (fun _ => .no "") Tryz.f3.results.toList (mkT 114 kn_t8) [] (mkM 24625 kn_o8)) = true := by kernel_rfl
theorem parseKnown_calls0 (hm : Tryz.prog.follows .mixedOrders = true) (W : World) (hR : RowsOk W [] rows0) : Calls Tryz.prog 3 #[] W fun en w' => en = .returned (.bool true) ∧ Below W.heap.size W w' :=
  parts_calls (P := Tryz.prog) (f := 3) (fn := Tryz.f3) (c := kn_c0) (l := rows0) (bs := []) (k := 64) (nxt := 24625) (sz := 114) (ts := kn_t8) (os := kn_o8) (W := W) rfl Tryz.func3 parseKnown_b parseKnown_g (fun B => parseKnown_code hm B) parseKnown_l hR
end Go.Proofs.YtoiigefgpcioeaaGreatDoor
