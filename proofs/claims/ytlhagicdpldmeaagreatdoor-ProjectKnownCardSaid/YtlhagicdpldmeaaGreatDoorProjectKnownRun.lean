/-
  ProjectKnown: its parts make the whole. Conditions: none.
-/
import Derived.Test.YtlhagicdpldmeaaGreatDoorProjectKnownP1
import Derived.Test.YtlhagicdpldmeaaGreatDoorProjectKnownP2
import Derived.Test.YtlhagicdpldmeaaGreatDoorProjectKnownP3
import Derived.Test.YtlhagicdpldmeaaGreatDoorProjectKnownP4
import Derived.Test.YtlhagicdpldmeaaGreatDoorProjectKnownP5
import Derived.Test.YtlhagicdpldmeaaGreatDoorProjectKnownP6
import Derived.Test.YtlhagicdpldmeaaGreatDoorProjectKnownP7
import Derived.Test.YtlhagicdpldmeaaGreatDoorProjectKnownP8
import Derived.Test.YtlhagicdpldmeaaGreatDoorProjectKnownP9
import Derived.Test.YtlhagicdpldmeaaGreatDoorProjectKnownP10
import Derived.Test.YtlhagicdpldmeaaGreatDoorProjectKnownP11
import Derived.Test.YtlhagicdpldmeaaGreatDoorProjectKnownP12
import Derived.Test.YtlhagicdpldmeaaGreatDoorProjectKnownP13
import Derived.KernelRfl
set_option linter.unusedSimpArgs false
set_option linter.unusedVariables false
namespace Go.Proofs.YtlhagicdpldmeaaGreatDoor
open Go Go.Cx Go.RowKit
theorem projectKnown_code1 (hm : Tryz.prog.follows .mixedOrders = true) (B : Bas) : CodeOk Tryz.prog B k1_c0 ⟨Tryz.f12.ntmps, ofList 0 k1_a .nil⟩ [] none (mkM 35036 k1_o0) (.ex .ret (mkT 56 k1_t3) [] (mkM 44704 k1_o3)) := by
  have ih : ∀ B k, TaskOk Tryz.prog B k (runF Tryz.prog (fun _ => none) 1000000 k) := fun B k => by
    rw [runF_eq]; exact runC_ok noExt hm _ B k
  have h3 := runR_ok (ih B) projectKnown_p1_3
  have h2 : CodeOk Tryz.prog B k1_c1 (mkT 56 k1_t1) [] none (mkM 40521 k1_o1) (.ex .ret (mkT 56 k1_t3) [] (mkM 44704 k1_o3)) := runS_ok (ih B) _ _ _ _ projectKnown_p1_2 h3
  have h1 : CodeOk Tryz.prog B k1_c0 ⟨Tryz.f12.ntmps, ofList 0 k1_a .nil⟩ [] none (mkM 35036 k1_o0) (.ex .ret (mkT 56 k1_t3) [] (mkM 44704 k1_o3)) := runS_ok (ih B) _ _ _ _ projectKnown_p1_1 h2
  exact h1
theorem projectKnown_b1 : Tryz.f12.body = some k1_c0 := by kernel_rfl
theorem projectKnown_g1 : goodName Tryz.f12 = true := by kernel_rfl
theorem projectKnown_l1 : leave Tryz.prog (fun _ => .no "") Tryz.f12.results.toList (mkT 56 k1_t3) [] (mkM 44704 k1_o3) = .ret k1_v (mkM 44704 k1_o3) := by kernel_rfl
theorem projectKnown_call1 (hm : Tryz.prog.follows .mixedOrders = true) (B : Bas) : (∀ aa w, (callFunc 12 aa).run Tryz.prog w = .ok (.enter 12 aa) w) ∧ ∀ e aa w, denL e k1_a = some aa → Rel B e (mkM 35036 k1_o0) w → Calls Tryz.prog 12 aa.toArray w (Back B e k1_v (mkM 44704 k1_o3)) :=
  unit_call Tryz.func12 projectKnown_b1 projectKnown_g1 (by kernel_rfl) (by kernel_rfl) (projectKnown_code1 hm B) projectKnown_l1
theorem projectKnown_code2 (hm : Tryz.prog.follows .mixedOrders = true) (B : Bas) : CodeOk Tryz.prog B k2_c0 ⟨Tryz.f12.ntmps, ofList 0 k2_a .nil⟩ [] none (mkM 44714 k2_o0) (.ex .ret (mkT 56 k2_t3) [] (mkM 54657 k2_o3)) := by
  have ih : ∀ B k, TaskOk Tryz.prog B k (runF Tryz.prog (fun _ => none) 1000000 k) := fun B k => by
    rw [runF_eq]; exact runC_ok noExt hm _ B k
  have h3 := runR_ok (ih B) projectKnown_p2_3
  have h2 : CodeOk Tryz.prog B k2_c1 (mkT 56 k2_t1) [] none (mkM 50199 k2_o1) (.ex .ret (mkT 56 k2_t3) [] (mkM 54657 k2_o3)) := runS_ok (ih B) _ _ _ _ projectKnown_p2_2 h3
  have h1 : CodeOk Tryz.prog B k2_c0 ⟨Tryz.f12.ntmps, ofList 0 k2_a .nil⟩ [] none (mkM 44714 k2_o0) (.ex .ret (mkT 56 k2_t3) [] (mkM 54657 k2_o3)) := runS_ok (ih B) _ _ _ _ projectKnown_p2_1 h2
  exact h1
theorem projectKnown_b2 : Tryz.f12.body = some k2_c0 := by kernel_rfl
theorem projectKnown_g2 : goodName Tryz.f12 = true := by kernel_rfl
theorem projectKnown_l2 : leave Tryz.prog (fun _ => .no "") Tryz.f12.results.toList (mkT 56 k2_t3) [] (mkM 54657 k2_o3) = .ret k2_v (mkM 54657 k2_o3) := by kernel_rfl
theorem projectKnown_call2 (hm : Tryz.prog.follows .mixedOrders = true) (B : Bas) : (∀ aa w, (callFunc 12 aa).run Tryz.prog w = .ok (.enter 12 aa) w) ∧ ∀ e aa w, denL e k2_a = some aa → Rel B e (mkM 44714 k2_o0) w → Calls Tryz.prog 12 aa.toArray w (Back B e k2_v (mkM 54657 k2_o3)) :=
  unit_call Tryz.func12 projectKnown_b2 projectKnown_g2 (by kernel_rfl) (by kernel_rfl) (projectKnown_code2 hm B) projectKnown_l2
theorem projectKnown_code3 (hm : Tryz.prog.follows .mixedOrders = true) (B : Bas) : CodeOk Tryz.prog B k3_c0 ⟨Tryz.f14.ntmps, ofList 0 k3_a .nil⟩ [] none (mkM 54764 k3_o0) (.ex .ret (mkT 24 k3_t3) [] (mkM 64900 k3_o3)) := by
  have ih : ∀ B k, TaskOk Tryz.prog B k (runF Tryz.prog (fun _ => none) 1000000 k) := fun B k => by
    rw [runF_eq]; exact runC_ok noExt hm _ B k
  have h3 := runR_ok (ih B) projectKnown_p3_3
  have h2 : CodeOk Tryz.prog B k3_c1 (mkT 24 k3_t1) [] none (mkM 59699 k3_o1) (.ex .ret (mkT 24 k3_t3) [] (mkM 64900 k3_o3)) := runS_ok (ih B) _ _ _ _ projectKnown_p3_2 h3
  have h1 : CodeOk Tryz.prog B k3_c0 ⟨Tryz.f14.ntmps, ofList 0 k3_a .nil⟩ [] none (mkM 54764 k3_o0) (.ex .ret (mkT 24 k3_t3) [] (mkM 64900 k3_o3)) := runS_ok (ih B) _ _ _ _ projectKnown_p3_1 h2
  exact h1
theorem projectKnown_b3 : Tryz.f14.body = some k3_c0 := by kernel_rfl
theorem projectKnown_g3 : goodName Tryz.f14 = true := by kernel_rfl
theorem projectKnown_l3 : leave Tryz.prog (fun _ => .no "") Tryz.f14.results.toList (mkT 24 k3_t3) [] (mkM 64900 k3_o3) = .ret k3_v (mkM 64900 k3_o3) := by kernel_rfl
theorem projectKnown_call3 (hm : Tryz.prog.follows .mixedOrders = true) (B : Bas) : (∀ aa w, (callFunc 14 aa).run Tryz.prog w = .ok (.enter 14 aa) w) ∧ ∀ e aa w, denL e k3_a = some aa → Rel B e (mkM 54764 k3_o0) w → Calls Tryz.prog 14 aa.toArray w (Back B e k3_v (mkM 64900 k3_o3)) :=
  unit_call Tryz.func14 projectKnown_b3 projectKnown_g3 (by kernel_rfl) (by kernel_rfl) (projectKnown_code3 hm B) projectKnown_l3
theorem projectKnown_code0 (hm : Tryz.prog.follows .mixedOrders = true) (B : Bas) : CodeOk Tryz.prog B k0_c0 ⟨Tryz.f3.ntmps, .nil⟩ [] none (mem0 64 rows0) (.ex .ret (mkT 240 k0_t16) [] (mkM 75152 k0_o16)) := by
  have ih : ∀ B k, TaskOk Tryz.prog B k (runF Tryz.prog (fun _ => none) 1000000 k) := fun B k => by
    rw [runF_eq]; exact runC_ok noExt hm _ B k
  have h16 := runR_ok (ih B) projectKnown_p0_16
  have h15 : OpsOk Tryz.prog B (opsC k0_c10) (List.drop 12 (List.drop 1 (opsC k0_c10).toList)) (tlC 1 k0_c10) (mkT 240 k0_t14) (mkM 70102 k0_o14) .ret (mkT 240 k0_t16) (mkM 75152 k0_o16) := opsOk_run (ih B) 31 projectKnown_p0_15 (ops_end (by kernel_rfl) h16)
  have h14 : OpsOk Tryz.prog B (opsC k0_c10) (List.drop 1 (opsC k0_c10).toList) (tlC 1 k0_c10) (mkT 240 k0_t13) (mkM 64900 k0_o13) .ret (mkT 240 k0_t16) (mkM 75152 k0_o16) := opsOk_run (ih B) 12 projectKnown_p0_14 h15
  have g13 : OpsOk Tryz.prog B (opsC k0_c10) (opsC k0_c10).toList (tlC 1 k0_c10) (mkT 240 k0_t12) (mkM 54764 k0_o12) .ret (mkT 240 k0_t16) (mkM 75152 k0_o16) := opsOk_run (ihS_ok (ih B) (projectKnown_call3 hm B)) 1 projectKnown_p0_13 h14
  have h13 : CodeOk Tryz.prog B k0_c10 (mkT 240 k0_t12) [] none (mkM 54764 k0_o12) (.ex .ret (mkT 240 k0_t16) [] (mkM 75152 k0_o16)) := ops_code (by kernel_rfl) g13
  have h12 : CodeOk Tryz.prog B k0_c9 (mkT 240 k0_t11) [] none (mkM 54657 k0_o11) (.ex .ret (mkT 240 k0_t16) [] (mkM 75152 k0_o16)) := runS_ok (ih B) _ _ _ _ projectKnown_p0_12 h13
  have h11 : CodeOk Tryz.prog B k0_c8 (mkT 240 k0_t10) [] none (mkM 44704 k0_o10) (.ex .ret (mkT 240 k0_t16) [] (mkM 75152 k0_o16)) := runS_ok (ihL_ok (fun B => ihS_ok (ih B) (projectKnown_call2 hm B)) hm B) _ _ _ _ projectKnown_p0_11 h12
  have h10 : OpsOk Tryz.prog B (opsC k0_c7) (List.drop 1 (List.drop 3 (opsC k0_c7).toList)) (tlC 1 k0_c7) (mkT 240 k0_t9) (mkM 44704 k0_o9) .ret (mkT 240 k0_t16) (mkM 75152 k0_o16) := opsOk_run (ih B) 5 projectKnown_p0_10 (ops_end (by kernel_rfl) h11)
  have h9 : OpsOk Tryz.prog B (opsC k0_c7) (List.drop 3 (opsC k0_c7).toList) (tlC 1 k0_c7) (mkT 240 k0_t8) (mkM 35036 k0_o8) .ret (mkT 240 k0_t16) (mkM 75152 k0_o16) := opsOk_run (ihS_ok (ih B) (projectKnown_call1 hm B)) 1 projectKnown_p0_9 h10
  have g8 : OpsOk Tryz.prog B (opsC k0_c7) (opsC k0_c7).toList (tlC 1 k0_c7) (mkT 240 k0_t7) (mkM 35036 k0_o7) .ret (mkT 240 k0_t16) (mkM 75152 k0_o16) := opsOk_run (ih B) 3 projectKnown_p0_8 h9
  have h8 : CodeOk Tryz.prog B k0_c7 (mkT 240 k0_t7) [] none (mkM 35036 k0_o7) (.ex .ret (mkT 240 k0_t16) [] (mkM 75152 k0_o16)) := ops_code (by kernel_rfl) g8
  have h7 : CodeOk Tryz.prog B k0_c6 (mkT 240 k0_t6) [] none (mkM 29552 k0_o6) (.ex .ret (mkT 240 k0_t16) [] (mkM 75152 k0_o16)) := runS_ok (ih B) _ _ _ _ projectKnown_p0_7 h8
  have h6 : CodeOk Tryz.prog B k0_c5 (mkT 240 k0_t5) [] none (mkM 24663 k0_o5) (.ex .ret (mkT 240 k0_t16) [] (mkM 75152 k0_o16)) := runS_ok (ih B) _ _ _ _ projectKnown_p0_6 h7
  have h5 : CodeOk Tryz.prog B k0_c4 (mkT 240 k0_t4) [] none (mkM 19780 k0_o4) (.ex .ret (mkT 240 k0_t16) [] (mkM 75152 k0_o16)) := runS_ok (ih B) _ _ _ _ projectKnown_p0_5 h6
  have h4 : CodeOk Tryz.prog B k0_c3 (mkT 240 k0_t3) [] none (mkM 14865 k0_o3) (.ex .ret (mkT 240 k0_t16) [] (mkM 75152 k0_o16)) := runS_ok (ih B) _ _ _ _ projectKnown_p0_4 h5
  have h3 : CodeOk Tryz.prog B k0_c2 (mkT 240 k0_t2) [] none (mkM 9949 k0_o2) (.ex .ret (mkT 240 k0_t16) [] (mkM 75152 k0_o16)) := runS_ok (ih B) _ _ _ _ projectKnown_p0_3 h4
  have h2 : CodeOk Tryz.prog B k0_c1 (mkT 240 k0_t1) [] none (mkM 5059 k0_o1) (.ex .ret (mkT 240 k0_t16) [] (mkM 75152 k0_o16)) := runS_ok (ih B) _ _ _ _ projectKnown_p0_2 h3
  have h1 : CodeOk Tryz.prog B k0_c0 ⟨Tryz.f3.ntmps, .nil⟩ [] none (mem0 64 rows0) (.ex .ret (mkT 240 k0_t16) [] (mkM 75152 k0_o16)) := runS_ok (ih B) _ _ _ _ projectKnown_p0_1 h2
  exact h1
theorem projectKnown_b0 : Tryz.f3.body = some k0_c0 := by kernel_rfl
theorem projectKnown_g0 : goodName Tryz.f3 = true := by kernel_rfl
theorem projectKnown_l : isTrue (leave Tryz.prog (fun _ => .no "") Tryz.f3.results.toList (mkT 240 k0_t16) [] (mkM 75152 k0_o16)) = true := by kernel_rfl
theorem projectKnown_calls0 (hm : Tryz.prog.follows .mixedOrders = true) (W : World) (hR : RowsOk W [] rows0) : Calls Tryz.prog 3 #[] W fun en w' => en = .returned (.bool true) ∧ Below W.heap.size W w' :=
  parts_calls (P := Tryz.prog) (f := 3) (fn := Tryz.f3) (c := k0_c0) (l := rows0) (bs := []) (k := 64) (nxt := 75152) (sz := 240) (ts := k0_t16) (os := k0_o16) (W := W) rfl Tryz.func3 projectKnown_b0 projectKnown_g0 (fun B => projectKnown_code0 hm B) projectKnown_l hR
end Go.Proofs.YtlhagicdpldmeaaGreatDoor
