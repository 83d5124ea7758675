/-
  VariantKnown: its parts make the whole. Conditions: none.
-/
import Derived.Test.YtelgaffeihgffaaGreatDoorVariantKnownP1
import Derived.Test.YtelgaffeihgffaaGreatDoorVariantKnownP2
import Derived.Test.YtelgaffeihgffaaGreatDoorVariantKnownP3
import Derived.Test.YtelgaffeihgffaaGreatDoorVariantKnownP4
import Derived.Test.YtelgaffeihgffaaGreatDoorVariantKnownP5
import Derived.Test.YtelgaffeihgffaaGreatDoorVariantKnownP6
import Derived.Test.YtelgaffeihgffaaGreatDoorVariantKnownP7
import Derived.Test.YtelgaffeihgffaaGreatDoorVariantKnownP8
import Derived.Test.YtelgaffeihgffaaGreatDoorVariantKnownP9
import Derived.Test.YtelgaffeihgffaaGreatDoorVariantKnownP10
import Derived.Test.YtelgaffeihgffaaGreatDoorVariantKnownP11
import Derived.Test.YtelgaffeihgffaaGreatDoorVariantKnownP12
import Derived.Test.YtelgaffeihgffaaGreatDoorVariantKnownP13
import Derived.Test.YtelgaffeihgffaaGreatDoorVariantKnownP14
import Derived.Test.YtelgaffeihgffaaGreatDoorVariantKnownP15
import Derived.Test.YtelgaffeihgffaaGreatDoorVariantKnownP16
import Derived.Test.YtelgaffeihgffaaGreatDoorVariantKnownP17
import Derived.KernelRfl
set_option linter.unusedSimpArgs false
set_option linter.unusedVariables false
namespace Go.Proofs.YtelgaffeihgffaaGreatDoor
open Go Go.Cx Go.RowKit
theorem variantKnown_code5 (hm : Tryz.prog.follows .mixedOrders = true) (B : Bas) : CodeOk Tryz.prog B k5_c0 ⟨Tryz.f35.ntmps, ofList 0 k5_a .nil⟩ [] none (mkM 12806 k5_o0) (.ex .ret (mkT 56 k5_t3) [] (mkM 21417 k5_o3)) := by
  have ih : ∀ B k, TaskOk Tryz.prog B k (runF Tryz.prog (fun _ => none) 1000000 k) := fun B k => by
    rw [runF_eq]; exact runC_ok noExt hm _ B k
  have h3 := runR_ok (ih B) variantKnown_p5_3
  have h2 : CodeOk Tryz.prog B k5_c1 (mkT 56 k5_t1) [] none (mkM 16899 k5_o1) (.ex .ret (mkT 56 k5_t3) [] (mkM 21417 k5_o3)) := runS_ok (ih B) _ _ _ _ variantKnown_p5_2 h3
  have h1 : CodeOk Tryz.prog B k5_c0 ⟨Tryz.f35.ntmps, ofList 0 k5_a .nil⟩ [] none (mkM 12806 k5_o0) (.ex .ret (mkT 56 k5_t3) [] (mkM 21417 k5_o3)) := runS_ok (ih B) _ _ _ _ variantKnown_p5_1 h2
  exact h1
theorem variantKnown_b5 : Tryz.f35.body = some k5_c0 := by kernel_rfl
theorem variantKnown_g5 : goodName Tryz.f35 = true := by kernel_rfl
theorem variantKnown_l5 : leave Tryz.prog (fun _ => .no "") Tryz.f35.results.toList (mkT 56 k5_t3) [] (mkM 21417 k5_o3) = .ret k5_v (mkM 21417 k5_o3) := by kernel_rfl
theorem variantKnown_call5 (hm : Tryz.prog.follows .mixedOrders = true) (B : Bas) : (∀ aa w, (callFunc 35 aa).run Tryz.prog w = .ok (.enter 35 aa) w) ∧ ∀ e aa w, denL e k5_a = some aa → Rel B e (mkM 12806 k5_o0) w → Calls Tryz.prog 35 aa.toArray w (Back B e k5_v (mkM 21417 k5_o3)) :=
  unit_call Tryz.func35 variantKnown_b5 variantKnown_g5 (by kernel_rfl) (by kernel_rfl) (variantKnown_code5 hm B) variantKnown_l5
theorem variantKnown_code4 (hm : Tryz.prog.follows .mixedOrders = true) (B : Bas) : CodeOk Tryz.prog B k4_c0 ⟨Tryz.f34.ntmps, ofList 0 k4_a .nil⟩ [] none (mkM 12805 k4_o0) (.ex .ret (mkT 20 k4_t5) [] (mkM 21417 k4_o5)) := by
  have ih : ∀ B k, TaskOk Tryz.prog B k (runF Tryz.prog (fun _ => none) 1000000 k) := fun B k => by
    rw [runF_eq]; exact runC_ok noExt hm _ B k
  have h5 := runR_ok (ih B) variantKnown_p4_5
  have h4 : OpsOk Tryz.prog B (opsC k4_c1) (List.drop 1 (List.drop 5 (opsC k4_c1).toList)) (tlC 1 k4_c1) (mkT 20 k4_t3) (mkM 21417 k4_o3) .ret (mkT 20 k4_t5) (mkM 21417 k4_o5) := opsOk_run (ih B) 4 variantKnown_p4_4 (ops_end (by kernel_rfl) h5)
  have h3 : OpsOk Tryz.prog B (opsC k4_c1) (List.drop 5 (opsC k4_c1).toList) (tlC 1 k4_c1) (mkT 20 k4_t2) (mkM 12806 k4_o2) .ret (mkT 20 k4_t5) (mkM 21417 k4_o5) := opsOk_run (ihS_ok (ih B) (variantKnown_call5 hm B)) 1 variantKnown_p4_3 h4
  have g2 : OpsOk Tryz.prog B (opsC k4_c1) (opsC k4_c1).toList (tlC 1 k4_c1) (mkT 20 k4_t1) (mkM 12806 k4_o1) .ret (mkT 20 k4_t5) (mkM 21417 k4_o5) := opsOk_run (ih B) 5 variantKnown_p4_2 h3
  have h2 : CodeOk Tryz.prog B k4_c1 (mkT 20 k4_t1) [] none (mkM 12806 k4_o1) (.ex .ret (mkT 20 k4_t5) [] (mkM 21417 k4_o5)) := ops_code (by kernel_rfl) g2
  have h1 : CodeOk Tryz.prog B k4_c0 ⟨Tryz.f34.ntmps, ofList 0 k4_a .nil⟩ [] none (mkM 12805 k4_o0) (.ex .ret (mkT 20 k4_t5) [] (mkM 21417 k4_o5)) := runS_ok (ih B) _ _ _ _ variantKnown_p4_1 h2
  exact h1
theorem variantKnown_b4 : Tryz.f34.body = some k4_c0 := by kernel_rfl
theorem variantKnown_g4 : goodName Tryz.f34 = true := by kernel_rfl
theorem variantKnown_l4 : leave Tryz.prog (fun _ => .no "") Tryz.f34.results.toList (mkT 20 k4_t5) [] (mkM 21417 k4_o5) = .ret k4_v (mkM 21417 k4_o5) := by kernel_rfl
theorem variantKnown_call4 (hm : Tryz.prog.follows .mixedOrders = true) (B : Bas) : (∀ aa w, (callFunc 34 aa).run Tryz.prog w = .ok (.enter 34 aa) w) ∧ ∀ e aa w, denL e k4_a = some aa → Rel B e (mkM 12805 k4_o0) w → Calls Tryz.prog 34 aa.toArray w (Back B e k4_v (mkM 21417 k4_o5)) :=
  unit_call Tryz.func34 variantKnown_b4 variantKnown_g4 (by kernel_rfl) (by kernel_rfl) (variantKnown_code4 hm B) variantKnown_l4
theorem variantKnown_code3 (hm : Tryz.prog.follows .mixedOrders = true) (B : Bas) : CodeOk Tryz.prog B k3_c0 ⟨Tryz.f20.ntmps, ofList 0 k3_a .nil⟩ [] none (mkM 12752 k3_o0) (.ex .ret (mkT 73 k3_t6) [] (mkM 21417 k3_o6)) := by
  have ih : ∀ B k, TaskOk Tryz.prog B k (runF Tryz.prog (fun _ => none) 1000000 k) := fun B k => by
    rw [runF_eq]; exact runC_ok noExt hm _ B k
  have h6 := runR_ok (ih B) variantKnown_p3_6
  have h5 : CodeOk Tryz.prog B k3_c5 (mkT 73 k3_t4) [] none (mkM 21417 k3_o4) (.ex .ret (mkT 73 k3_t6) [] (mkM 21417 k3_o6)) := runS_ok (ih B) _ _ _ _ variantKnown_p3_5 h6
  have h4 : CodeOk Tryz.prog B k3_c4 (mkT 73 k3_t3) [] none (mkM 21417 k3_o3) (.ex .normal (mkT 73 k3_t4) [] (mkM 21417 k3_o4)) := runN_ok (ih B) variantKnown_p3_4
  have h3 : CodeOk Tryz.prog B k3_c3 (mkT 73 k3_t2) [] none (mkM 21417 k3_o2) (.ex .normal (mkT 73 k3_t4) [] (mkM 21417 k3_o4)) := runS_ok (ih B) _ _ _ _ variantKnown_p3_3 h4
  have h2 : CodeOk Tryz.prog B k3_c2 (mkT 73 k3_t1) [] none (mkM 12786 k3_o1) (.ex .normal (mkT 73 k3_t4) [] (mkM 21417 k3_o4)) := runS_ok (ihL_ok (fun B => ihS_ok (ih B) (variantKnown_call4 hm B)) hm B) _ _ _ _ variantKnown_p3_2 h3
  have hs2 : CodeOk Tryz.prog B k3_c1 (mkT 73 k3_t1) [] none (mkM 12786 k3_o1) (.ex .ret (mkT 73 k3_t6) [] (mkM 21417 k3_o6)) := seq_sub (by kernel_rfl) h2 h5
  have h1 : CodeOk Tryz.prog B k3_c0 ⟨Tryz.f20.ntmps, ofList 0 k3_a .nil⟩ [] none (mkM 12752 k3_o0) (.ex .ret (mkT 73 k3_t6) [] (mkM 21417 k3_o6)) := runS_ok (ih B) _ _ _ _ variantKnown_p3_1 hs2
  exact h1
theorem variantKnown_b3 : Tryz.f20.body = some k3_c0 := by kernel_rfl
theorem variantKnown_g3 : goodName Tryz.f20 = true := by kernel_rfl
theorem variantKnown_l3 : leave Tryz.prog (fun _ => .no "") Tryz.f20.results.toList (mkT 73 k3_t6) [] (mkM 21417 k3_o6) = .ret k3_v (mkM 21417 k3_o6) := by kernel_rfl
theorem variantKnown_call3 (hm : Tryz.prog.follows .mixedOrders = true) (B : Bas) : (∀ aa w, (callFunc 20 aa).run Tryz.prog w = .ok (.enter 20 aa) w) ∧ ∀ e aa w, denL e k3_a = some aa → Rel B e (mkM 12752 k3_o0) w → Calls Tryz.prog 20 aa.toArray w (Back B e k3_v (mkM 21417 k3_o6)) :=
  unit_call Tryz.func20 variantKnown_b3 variantKnown_g3 (by kernel_rfl) (by kernel_rfl) (variantKnown_code3 hm B) variantKnown_l3
theorem variantKnown_code2 (hm : Tryz.prog.follows .mixedOrders = true) (B : Bas) : CodeOk Tryz.prog B k2_c0 ⟨Tryz.f12.ntmps, ofList 0 k2_a .nil⟩ [] none (mkM 8877 k2_o0) (.ex .ret (mkT 31 k2_t5) [] (mkM 21417 k2_o5)) := by
  have ih : ∀ B k, TaskOk Tryz.prog B k (runF Tryz.prog (fun _ => none) 1000000 k) := fun B k => by
    rw [runF_eq]; exact runC_ok noExt hm _ B k
  have h5 := runR_ok (ih B) variantKnown_p2_5
  have h4 : OpsOk Tryz.prog B (opsC k2_c1) (List.drop 1 (List.drop 2 (opsC k2_c1).toList)) (tlC 1 k2_c1) (mkT 31 k2_t3) (mkM 21417 k2_o3) .ret (mkT 31 k2_t5) (mkM 21417 k2_o5) := opsOk_run (ih B) 2 variantKnown_p2_4 (ops_end (by kernel_rfl) h5)
  have h3 : OpsOk Tryz.prog B (opsC k2_c1) (List.drop 2 (opsC k2_c1).toList) (tlC 1 k2_c1) (mkT 31 k2_t2) (mkM 12752 k2_o2) .ret (mkT 31 k2_t5) (mkM 21417 k2_o5) := opsOk_run (ihS_ok (ih B) (variantKnown_call3 hm B)) 1 variantKnown_p2_3 h4
  have g2 : OpsOk Tryz.prog B (opsC k2_c1) (opsC k2_c1).toList (tlC 1 k2_c1) (mkT 31 k2_t1) (mkM 12752 k2_o1) .ret (mkT 31 k2_t5) (mkM 21417 k2_o5) := opsOk_run (ih B) 2 variantKnown_p2_2 h3
  have h2 : CodeOk Tryz.prog B k2_c1 (mkT 31 k2_t1) [] none (mkM 12752 k2_o1) (.ex .ret (mkT 31 k2_t5) [] (mkM 21417 k2_o5)) := ops_code (by kernel_rfl) g2
  have h1 : CodeOk Tryz.prog B k2_c0 ⟨Tryz.f12.ntmps, ofList 0 k2_a .nil⟩ [] none (mkM 8877 k2_o0) (.ex .ret (mkT 31 k2_t5) [] (mkM 21417 k2_o5)) := runS_ok (ih B) _ _ _ _ variantKnown_p2_1 h2
  exact h1
theorem variantKnown_b2 : Tryz.f12.body = some k2_c0 := by kernel_rfl
theorem variantKnown_g2 : goodName Tryz.f12 = true := by kernel_rfl
theorem variantKnown_l2 : leave Tryz.prog (fun _ => .no "") Tryz.f12.results.toList (mkT 31 k2_t5) [] (mkM 21417 k2_o5) = .ret k2_v (mkM 21417 k2_o5) := by kernel_rfl
theorem variantKnown_call2 (hm : Tryz.prog.follows .mixedOrders = true) (B : Bas) : (∀ aa w, (callFunc 12 aa).run Tryz.prog w = .ok (.enter 12 aa) w) ∧ ∀ e aa w, denL e k2_a = some aa → Rel B e (mkM 8877 k2_o0) w → Calls Tryz.prog 12 aa.toArray w (Back B e k2_v (mkM 21417 k2_o5)) :=
  unit_call Tryz.func12 variantKnown_b2 variantKnown_g2 (by kernel_rfl) (by kernel_rfl) (variantKnown_code2 hm B) variantKnown_l2
theorem variantKnown_code1 (hm : Tryz.prog.follows .mixedOrders = true) (B : Bas) : CodeOk Tryz.prog B k1_c0 ⟨Tryz.f10.ntmps, ofList 0 k1_a .nil⟩ [] none (mkM 8872 k1_o0) (.ex .ret (mkT 21 k1_t6) [] (mkM 21462 k1_o6)) := by
  have ih : ∀ B k, TaskOk Tryz.prog B k (runF Tryz.prog (fun _ => none) 1000000 k) := fun B k => by
    rw [runF_eq]; exact runC_ok noExt hm _ B k
  have h6 := runR_ok (ih B) variantKnown_p1_6
  have h5 : CodeOk Tryz.prog B k1_c2 (mkT 21 k1_t4) [] none (mkM 21417 k1_o4) (.ex .ret (mkT 21 k1_t6) [] (mkM 21462 k1_o6)) := runS_ok (ih B) _ _ _ _ variantKnown_p1_5 h6
  have h4 : OpsOk Tryz.prog B (opsC k1_c1) (List.drop 1 (List.drop 3 (opsC k1_c1).toList)) (tlC 1 k1_c1) (mkT 21 k1_t3) (mkM 21417 k1_o3) .ret (mkT 21 k1_t6) (mkM 21462 k1_o6) := opsOk_run (ih B) 5 variantKnown_p1_4 (ops_end (by kernel_rfl) h5)
  have h3 : OpsOk Tryz.prog B (opsC k1_c1) (List.drop 3 (opsC k1_c1).toList) (tlC 1 k1_c1) (mkT 21 k1_t2) (mkM 8877 k1_o2) .ret (mkT 21 k1_t6) (mkM 21462 k1_o6) := opsOk_run (ihS_ok (ih B) (variantKnown_call2 hm B)) 1 variantKnown_p1_3 h4
  have g2 : OpsOk Tryz.prog B (opsC k1_c1) (opsC k1_c1).toList (tlC 1 k1_c1) (mkT 21 k1_t1) (mkM 8872 k1_o1) .ret (mkT 21 k1_t6) (mkM 21462 k1_o6) := opsOk_run (ih B) 3 variantKnown_p1_2 h3
  have h2 : CodeOk Tryz.prog B k1_c1 (mkT 21 k1_t1) [] none (mkM 8872 k1_o1) (.ex .ret (mkT 21 k1_t6) [] (mkM 21462 k1_o6)) := ops_code (by kernel_rfl) g2
  have h1 : CodeOk Tryz.prog B k1_c0 ⟨Tryz.f10.ntmps, ofList 0 k1_a .nil⟩ [] none (mkM 8872 k1_o0) (.ex .ret (mkT 21 k1_t6) [] (mkM 21462 k1_o6)) := runS_ok (ih B) _ _ _ _ variantKnown_p1_1 h2
  exact h1
theorem variantKnown_b1 : Tryz.f10.body = some k1_c0 := by kernel_rfl
theorem variantKnown_g1 : goodName Tryz.f10 = true := by kernel_rfl
theorem variantKnown_l1 : leave Tryz.prog (fun _ => .no "") Tryz.f10.results.toList (mkT 21 k1_t6) [] (mkM 21462 k1_o6) = .ret k1_v (mkM 21462 k1_o6) := by kernel_rfl
theorem variantKnown_call1 (hm : Tryz.prog.follows .mixedOrders = true) (B : Bas) : (∀ aa w, (callFunc 10 aa).run Tryz.prog w = .ok (.enter 10 aa) w) ∧ ∀ e aa w, denL e k1_a = some aa → Rel B e (mkM 8872 k1_o0) w → Calls Tryz.prog 10 aa.toArray w (Back B e k1_v (mkM 21462 k1_o6)) :=
  unit_call Tryz.func10 variantKnown_b1 variantKnown_g1 (by kernel_rfl) (by kernel_rfl) (variantKnown_code1 hm B) variantKnown_l1
theorem variantKnown_code10 (hm : Tryz.prog.follows .mixedOrders = true) (B : Bas) : CodeOk Tryz.prog B k10_c0 ⟨Tryz.f54.ntmps, ofList 0 k10_a .nil⟩ [] none (mkM 25363 k10_o0) (.ex .ret (mkT 59 k10_t3) [] (mkM 33100 k10_o3)) := by
  have ih : ∀ B k, TaskOk Tryz.prog B k (runF Tryz.prog (fun _ => none) 1000000 k) := fun B k => by
    rw [runF_eq]; exact runC_ok noExt hm _ B k
  have h3 := runR_ok (ih B) variantKnown_p10_3
  have h2 : CodeOk Tryz.prog B k10_c1 (mkT 59 k10_t1) [] none (mkM 29242 k10_o1) (.ex .ret (mkT 59 k10_t3) [] (mkM 33100 k10_o3)) := runS_ok (ih B) _ _ _ _ variantKnown_p10_2 h3
  have h1 : CodeOk Tryz.prog B k10_c0 ⟨Tryz.f54.ntmps, ofList 0 k10_a .nil⟩ [] none (mkM 25363 k10_o0) (.ex .ret (mkT 59 k10_t3) [] (mkM 33100 k10_o3)) := runS_ok (ih B) _ _ _ _ variantKnown_p10_1 h2
  exact h1
theorem variantKnown_b10 : Tryz.f54.body = some k10_c0 := by kernel_rfl
theorem variantKnown_g10 : goodName Tryz.f54 = true := by kernel_rfl
theorem variantKnown_l10 : leave Tryz.prog (fun _ => .no "") Tryz.f54.results.toList (mkT 59 k10_t3) [] (mkM 33100 k10_o3) = .ret k10_v (mkM 33100 k10_o3) := by kernel_rfl
theorem variantKnown_call10 (hm : Tryz.prog.follows .mixedOrders = true) (B : Bas) : (∀ aa w, (callFunc 54 aa).run Tryz.prog w = .ok (.enter 54 aa) w) ∧ ∀ e aa w, denL e k10_a = some aa → Rel B e (mkM 25363 k10_o0) w → Calls Tryz.prog 54 aa.toArray w (Back B e k10_v (mkM 33100 k10_o3)) :=
  unit_call Tryz.func54 variantKnown_b10 variantKnown_g10 (by kernel_rfl) (by kernel_rfl) (variantKnown_code10 hm B) variantKnown_l10
theorem variantKnown_code9 (hm : Tryz.prog.follows .mixedOrders = true) (B : Bas) : CodeOk Tryz.prog B k9_c0 ⟨Tryz.f53.ntmps, ofList 0 k9_a .nil⟩ [] none (mkM 25363 k9_o0) (.ex .ret (mkT 21 k9_t6) [] (mkM 33121 k9_o6)) := by
  have ih : ∀ B k, TaskOk Tryz.prog B k (runF Tryz.prog (fun _ => none) 1000000 k) := fun B k => by
    rw [runF_eq]; exact runC_ok noExt hm _ B k
  have h6 := runR_ok (ih B) variantKnown_p9_6
  have h5 : CodeOk Tryz.prog B k9_c2 (mkT 21 k9_t4) [] none (mkM 33100 k9_o4) (.ex .ret (mkT 21 k9_t6) [] (mkM 33121 k9_o6)) := runS_ok (ih B) _ _ _ _ variantKnown_p9_5 h6
  have h4 : OpsOk Tryz.prog B (opsC k9_c1) (List.drop 1 (List.drop 1 (opsC k9_c1).toList)) (tlC 1 k9_c1) (mkT 21 k9_t3) (mkM 33100 k9_o3) .ret (mkT 21 k9_t6) (mkM 33121 k9_o6) := opsOk_run (ih B) 5 variantKnown_p9_4 (ops_end (by kernel_rfl) h5)
  have h3 : OpsOk Tryz.prog B (opsC k9_c1) (List.drop 1 (opsC k9_c1).toList) (tlC 1 k9_c1) (mkT 21 k9_t2) (mkM 25363 k9_o2) .ret (mkT 21 k9_t6) (mkM 33121 k9_o6) := opsOk_run (ihS_ok (ih B) (variantKnown_call10 hm B)) 1 variantKnown_p9_3 h4
  have g2 : OpsOk Tryz.prog B (opsC k9_c1) (opsC k9_c1).toList (tlC 1 k9_c1) (mkT 21 k9_t1) (mkM 25363 k9_o1) .ret (mkT 21 k9_t6) (mkM 33121 k9_o6) := opsOk_run (ih B) 1 variantKnown_p9_2 h3
  have h2 : CodeOk Tryz.prog B k9_c1 (mkT 21 k9_t1) [] none (mkM 25363 k9_o1) (.ex .ret (mkT 21 k9_t6) [] (mkM 33121 k9_o6)) := ops_code (by kernel_rfl) g2
  have h1 : CodeOk Tryz.prog B k9_c0 ⟨Tryz.f53.ntmps, ofList 0 k9_a .nil⟩ [] none (mkM 25363 k9_o0) (.ex .ret (mkT 21 k9_t6) [] (mkM 33121 k9_o6)) := runS_ok (ih B) _ _ _ _ variantKnown_p9_1 h2
  exact h1
theorem variantKnown_b9 : Tryz.f53.body = some k9_c0 := by kernel_rfl
theorem variantKnown_g9 : goodName Tryz.f53 = true := by kernel_rfl
theorem variantKnown_l9 : leave Tryz.prog (fun _ => .no "") Tryz.f53.results.toList (mkT 21 k9_t6) [] (mkM 33121 k9_o6) = .ret k9_v (mkM 33121 k9_o6) := by kernel_rfl
theorem variantKnown_call9 (hm : Tryz.prog.follows .mixedOrders = true) (B : Bas) : (∀ aa w, (callFunc 53 aa).run Tryz.prog w = .ok (.enter 53 aa) w) ∧ ∀ e aa w, denL e k9_a = some aa → Rel B e (mkM 25363 k9_o0) w → Calls Tryz.prog 53 aa.toArray w (Back B e k9_v (mkM 33121 k9_o6)) :=
  unit_call Tryz.func53 variantKnown_b9 variantKnown_g9 (by kernel_rfl) (by kernel_rfl) (variantKnown_code9 hm B) variantKnown_l9
theorem variantKnown_code12 (hm : Tryz.prog.follows .mixedOrders = true) (B : Bas) : CodeOk Tryz.prog B k12_c0 ⟨Tryz.f35.ntmps, ofList 0 k12_a .nil⟩ [] none (mkM 33141 k12_o0) (.ex .ret (mkT 56 k12_t3) [] (mkM 41623 k12_o3)) := by
  have ih : ∀ B k, TaskOk Tryz.prog B k (runF Tryz.prog (fun _ => none) 1000000 k) := fun B k => by
    rw [runF_eq]; exact runC_ok noExt hm _ B k
  have h3 := runR_ok (ih B) variantKnown_p12_3
  have h2 : CodeOk Tryz.prog B k12_c1 (mkT 56 k12_t1) [] none (mkM 37234 k12_o1) (.ex .ret (mkT 56 k12_t3) [] (mkM 41623 k12_o3)) := runS_ok (ih B) _ _ _ _ variantKnown_p12_2 h3
  have h1 : CodeOk Tryz.prog B k12_c0 ⟨Tryz.f35.ntmps, ofList 0 k12_a .nil⟩ [] none (mkM 33141 k12_o0) (.ex .ret (mkT 56 k12_t3) [] (mkM 41623 k12_o3)) := runS_ok (ih B) _ _ _ _ variantKnown_p12_1 h2
  exact h1
theorem variantKnown_b12 : Tryz.f35.body = some k12_c0 := by kernel_rfl
theorem variantKnown_g12 : goodName Tryz.f35 = true := by kernel_rfl
theorem variantKnown_l12 : leave Tryz.prog (fun _ => .no "") Tryz.f35.results.toList (mkT 56 k12_t3) [] (mkM 41623 k12_o3) = .ret k12_v (mkM 41623 k12_o3) := by kernel_rfl
theorem variantKnown_call12 (hm : Tryz.prog.follows .mixedOrders = true) (B : Bas) : (∀ aa w, (callFunc 35 aa).run Tryz.prog w = .ok (.enter 35 aa) w) ∧ ∀ e aa w, denL e k12_a = some aa → Rel B e (mkM 33141 k12_o0) w → Calls Tryz.prog 35 aa.toArray w (Back B e k12_v (mkM 41623 k12_o3)) :=
  unit_call Tryz.func35 variantKnown_b12 variantKnown_g12 (by kernel_rfl) (by kernel_rfl) (variantKnown_code12 hm B) variantKnown_l12
theorem variantKnown_code11 (hm : Tryz.prog.follows .mixedOrders = true) (B : Bas) : CodeOk Tryz.prog B k11_c0 ⟨Tryz.f34.ntmps, ofList 0 k11_a .nil⟩ [] none (mkM 33140 k11_o0) (.ex .ret (mkT 20 k11_t5) [] (mkM 41623 k11_o5)) := by
  have ih : ∀ B k, TaskOk Tryz.prog B k (runF Tryz.prog (fun _ => none) 1000000 k) := fun B k => by
    rw [runF_eq]; exact runC_ok noExt hm _ B k
  have h5 := runR_ok (ih B) variantKnown_p11_5
  have h4 : OpsOk Tryz.prog B (opsC k11_c1) (List.drop 1 (List.drop 5 (opsC k11_c1).toList)) (tlC 1 k11_c1) (mkT 20 k11_t3) (mkM 41623 k11_o3) .ret (mkT 20 k11_t5) (mkM 41623 k11_o5) := opsOk_run (ih B) 4 variantKnown_p11_4 (ops_end (by kernel_rfl) h5)
  have h3 : OpsOk Tryz.prog B (opsC k11_c1) (List.drop 5 (opsC k11_c1).toList) (tlC 1 k11_c1) (mkT 20 k11_t2) (mkM 33141 k11_o2) .ret (mkT 20 k11_t5) (mkM 41623 k11_o5) := opsOk_run (ihS_ok (ih B) (variantKnown_call12 hm B)) 1 variantKnown_p11_3 h4
  have g2 : OpsOk Tryz.prog B (opsC k11_c1) (opsC k11_c1).toList (tlC 1 k11_c1) (mkT 20 k11_t1) (mkM 33141 k11_o1) .ret (mkT 20 k11_t5) (mkM 41623 k11_o5) := opsOk_run (ih B) 5 variantKnown_p11_2 h3
  have h2 : CodeOk Tryz.prog B k11_c1 (mkT 20 k11_t1) [] none (mkM 33141 k11_o1) (.ex .ret (mkT 20 k11_t5) [] (mkM 41623 k11_o5)) := ops_code (by kernel_rfl) g2
  have h1 : CodeOk Tryz.prog B k11_c0 ⟨Tryz.f34.ntmps, ofList 0 k11_a .nil⟩ [] none (mkM 33140 k11_o0) (.ex .ret (mkT 20 k11_t5) [] (mkM 41623 k11_o5)) := runS_ok (ih B) _ _ _ _ variantKnown_p11_1 h2
  exact h1
theorem variantKnown_b11 : Tryz.f34.body = some k11_c0 := by kernel_rfl
theorem variantKnown_g11 : goodName Tryz.f34 = true := by kernel_rfl
theorem variantKnown_l11 : leave Tryz.prog (fun _ => .no "") Tryz.f34.results.toList (mkT 20 k11_t5) [] (mkM 41623 k11_o5) = .ret k11_v (mkM 41623 k11_o5) := by kernel_rfl
theorem variantKnown_call11 (hm : Tryz.prog.follows .mixedOrders = true) (B : Bas) : (∀ aa w, (callFunc 34 aa).run Tryz.prog w = .ok (.enter 34 aa) w) ∧ ∀ e aa w, denL e k11_a = some aa → Rel B e (mkM 33140 k11_o0) w → Calls Tryz.prog 34 aa.toArray w (Back B e k11_v (mkM 41623 k11_o5)) :=
  unit_call Tryz.func34 variantKnown_b11 variantKnown_g11 (by kernel_rfl) (by kernel_rfl) (variantKnown_code11 hm B) variantKnown_l11
theorem variantKnown_code8 (hm : Tryz.prog.follows .mixedOrders = true) (B : Bas) : CodeOk Tryz.prog B k8_c0 ⟨Tryz.f20.ntmps, ofList 0 k8_a .nil⟩ [] none (mkM 25350 k8_o0) (.ex .ret (mkT 73 k8_t8) [] (mkM 41623 k8_o8)) := by
  have ih : ∀ B k, TaskOk Tryz.prog B k (runF Tryz.prog (fun _ => none) 1000000 k) := fun B k => by
    rw [runF_eq]; exact runC_ok noExt hm _ B k
  have h8 := runR_ok (ih B) variantKnown_p8_8
  have h7 : CodeOk Tryz.prog B k8_c7 (mkT 73 k8_t6) [] none (mkM 41623 k8_o6) (.ex .ret (mkT 73 k8_t8) [] (mkM 41623 k8_o8)) := runS_ok (ih B) _ _ _ _ variantKnown_p8_7 h8
  have h6 : CodeOk Tryz.prog B k8_c6 (mkT 73 k8_t5) [] none (mkM 41623 k8_o5) (.ex .normal (mkT 73 k8_t6) [] (mkM 41623 k8_o6)) := runN_ok (ih B) variantKnown_p8_6
  have h5 : CodeOk Tryz.prog B k8_c5 (mkT 73 k8_t4) [] none (mkM 41623 k8_o4) (.ex .normal (mkT 73 k8_t6) [] (mkM 41623 k8_o6)) := runS_ok (ih B) _ _ _ _ variantKnown_p8_5 h6
  have h4 : CodeOk Tryz.prog B k8_c4 (mkT 73 k8_t3) [] none (mkM 33121 k8_o3) (.ex .normal (mkT 73 k8_t6) [] (mkM 41623 k8_o6)) := runS_ok (ihL_ok (fun B => ihS_ok (ih B) (variantKnown_call11 hm B)) hm B) _ _ _ _ variantKnown_p8_4 h5
  have hs4 : CodeOk Tryz.prog B k8_c3 (mkT 73 k8_t3) [] none (mkM 33121 k8_o3) (.ex .ret (mkT 73 k8_t8) [] (mkM 41623 k8_o8)) := seq_sub (by kernel_rfl) h4 h7
  have h3 : CodeOk Tryz.prog B k8_c2 (mkT 73 k8_t2) [] none (mkM 33121 k8_o2) (.ex .ret (mkT 73 k8_t8) [] (mkM 41623 k8_o8)) := runS_ok (ih B) _ _ _ _ variantKnown_p8_3 hs4
  have h2 : CodeOk Tryz.prog B k8_c1 (mkT 73 k8_t1) [] none (mkM 25350 k8_o1) (.ex .ret (mkT 73 k8_t8) [] (mkM 41623 k8_o8)) := runS_ok (ihL_ok (fun B => ihS_ok (ih B) (variantKnown_call9 hm B)) hm B) _ _ _ _ variantKnown_p8_2 h3
  have h1 : CodeOk Tryz.prog B k8_c0 ⟨Tryz.f20.ntmps, ofList 0 k8_a .nil⟩ [] none (mkM 25350 k8_o0) (.ex .ret (mkT 73 k8_t8) [] (mkM 41623 k8_o8)) := runS_ok (ih B) _ _ _ _ variantKnown_p8_1 h2
  exact h1
theorem variantKnown_b8 : Tryz.f20.body = some k8_c0 := by kernel_rfl
theorem variantKnown_g8 : goodName Tryz.f20 = true := by kernel_rfl
theorem variantKnown_l8 : leave Tryz.prog (fun _ => .no "") Tryz.f20.results.toList (mkT 73 k8_t8) [] (mkM 41623 k8_o8) = .ret k8_v (mkM 41623 k8_o8) := by kernel_rfl
theorem variantKnown_call8 (hm : Tryz.prog.follows .mixedOrders = true) (B : Bas) : (∀ aa w, (callFunc 20 aa).run Tryz.prog w = .ok (.enter 20 aa) w) ∧ ∀ e aa w, denL e k8_a = some aa → Rel B e (mkM 25350 k8_o0) w → Calls Tryz.prog 20 aa.toArray w (Back B e k8_v (mkM 41623 k8_o8)) :=
  unit_call Tryz.func20 variantKnown_b8 variantKnown_g8 (by kernel_rfl) (by kernel_rfl) (variantKnown_code8 hm B) variantKnown_l8
theorem variantKnown_code7 (hm : Tryz.prog.follows .mixedOrders = true) (B : Bas) : CodeOk Tryz.prog B k7_c0 ⟨Tryz.f12.ntmps, ofList 0 k7_a .nil⟩ [] none (mkM 21475 k7_o0) (.ex .ret (mkT 31 k7_t5) [] (mkM 41623 k7_o5)) := by
  have ih : ∀ B k, TaskOk Tryz.prog B k (runF Tryz.prog (fun _ => none) 1000000 k) := fun B k => by
    rw [runF_eq]; exact runC_ok noExt hm _ B k
  have h5 := runR_ok (ih B) variantKnown_p7_5
  have h4 : OpsOk Tryz.prog B (opsC k7_c1) (List.drop 1 (List.drop 2 (opsC k7_c1).toList)) (tlC 1 k7_c1) (mkT 31 k7_t3) (mkM 41623 k7_o3) .ret (mkT 31 k7_t5) (mkM 41623 k7_o5) := opsOk_run (ih B) 2 variantKnown_p7_4 (ops_end (by kernel_rfl) h5)
  have h3 : OpsOk Tryz.prog B (opsC k7_c1) (List.drop 2 (opsC k7_c1).toList) (tlC 1 k7_c1) (mkT 31 k7_t2) (mkM 25350 k7_o2) .ret (mkT 31 k7_t5) (mkM 41623 k7_o5) := opsOk_run (ihS_ok (ih B) (variantKnown_call8 hm B)) 1 variantKnown_p7_3 h4
  have g2 : OpsOk Tryz.prog B (opsC k7_c1) (opsC k7_c1).toList (tlC 1 k7_c1) (mkT 31 k7_t1) (mkM 25350 k7_o1) .ret (mkT 31 k7_t5) (mkM 41623 k7_o5) := opsOk_run (ih B) 2 variantKnown_p7_2 h3
  have h2 : CodeOk Tryz.prog B k7_c1 (mkT 31 k7_t1) [] none (mkM 25350 k7_o1) (.ex .ret (mkT 31 k7_t5) [] (mkM 41623 k7_o5)) := ops_code (by kernel_rfl) g2
  have h1 : CodeOk Tryz.prog B k7_c0 ⟨Tryz.f12.ntmps, ofList 0 k7_a .nil⟩ [] none (mkM 21475 k7_o0) (.ex .ret (mkT 31 k7_t5) [] (mkM 41623 k7_o5)) := runS_ok (ih B) _ _ _ _ variantKnown_p7_1 h2
  exact h1
theorem variantKnown_b7 : Tryz.f12.body = some k7_c0 := by kernel_rfl
theorem variantKnown_g7 : goodName Tryz.f12 = true := by kernel_rfl
theorem variantKnown_l7 : leave Tryz.prog (fun _ => .no "") Tryz.f12.results.toList (mkT 31 k7_t5) [] (mkM 41623 k7_o5) = .ret k7_v (mkM 41623 k7_o5) := by kernel_rfl
theorem variantKnown_call7 (hm : Tryz.prog.follows .mixedOrders = true) (B : Bas) : (∀ aa w, (callFunc 12 aa).run Tryz.prog w = .ok (.enter 12 aa) w) ∧ ∀ e aa w, denL e k7_a = some aa → Rel B e (mkM 21475 k7_o0) w → Calls Tryz.prog 12 aa.toArray w (Back B e k7_v (mkM 41623 k7_o5)) :=
  unit_call Tryz.func12 variantKnown_b7 variantKnown_g7 (by kernel_rfl) (by kernel_rfl) (variantKnown_code7 hm B) variantKnown_l7
theorem variantKnown_code6 (hm : Tryz.prog.follows .mixedOrders = true) (B : Bas) : CodeOk Tryz.prog B k6_c0 ⟨Tryz.f10.ntmps, ofList 0 k6_a .nil⟩ [] none (mkM 21470 k6_o0) (.ex .ret (mkT 21 k6_t6) [] (mkM 41668 k6_o6)) := by
  have ih : ∀ B k, TaskOk Tryz.prog B k (runF Tryz.prog (fun _ => none) 1000000 k) := fun B k => by
    rw [runF_eq]; exact runC_ok noExt hm _ B k
  have h6 := runR_ok (ih B) variantKnown_p6_6
  have h5 : CodeOk Tryz.prog B k6_c2 (mkT 21 k6_t4) [] none (mkM 41623 k6_o4) (.ex .ret (mkT 21 k6_t6) [] (mkM 41668 k6_o6)) := runS_ok (ih B) _ _ _ _ variantKnown_p6_5 h6
  have h4 : OpsOk Tryz.prog B (opsC k6_c1) (List.drop 1 (List.drop 3 (opsC k6_c1).toList)) (tlC 1 k6_c1) (mkT 21 k6_t3) (mkM 41623 k6_o3) .ret (mkT 21 k6_t6) (mkM 41668 k6_o6) := opsOk_run (ih B) 5 variantKnown_p6_4 (ops_end (by kernel_rfl) h5)
  have h3 : OpsOk Tryz.prog B (opsC k6_c1) (List.drop 3 (opsC k6_c1).toList) (tlC 1 k6_c1) (mkT 21 k6_t2) (mkM 21475 k6_o2) .ret (mkT 21 k6_t6) (mkM 41668 k6_o6) := opsOk_run (ihS_ok (ih B) (variantKnown_call7 hm B)) 1 variantKnown_p6_3 h4
  have g2 : OpsOk Tryz.prog B (opsC k6_c1) (opsC k6_c1).toList (tlC 1 k6_c1) (mkT 21 k6_t1) (mkM 21470 k6_o1) .ret (mkT 21 k6_t6) (mkM 41668 k6_o6) := opsOk_run (ih B) 3 variantKnown_p6_2 h3
  have h2 : CodeOk Tryz.prog B k6_c1 (mkT 21 k6_t1) [] none (mkM 21470 k6_o1) (.ex .ret (mkT 21 k6_t6) [] (mkM 41668 k6_o6)) := ops_code (by kernel_rfl) g2
  have h1 : CodeOk Tryz.prog B k6_c0 ⟨Tryz.f10.ntmps, ofList 0 k6_a .nil⟩ [] none (mkM 21470 k6_o0) (.ex .ret (mkT 21 k6_t6) [] (mkM 41668 k6_o6)) := runS_ok (ih B) _ _ _ _ variantKnown_p6_1 h2
  exact h1
theorem variantKnown_b6 : Tryz.f10.body = some k6_c0 := by kernel_rfl
theorem variantKnown_g6 : goodName Tryz.f10 = true := by kernel_rfl
theorem variantKnown_l6 : leave Tryz.prog (fun _ => .no "") Tryz.f10.results.toList (mkT 21 k6_t6) [] (mkM 41668 k6_o6) = .ret k6_v (mkM 41668 k6_o6) := by kernel_rfl
theorem variantKnown_call6 (hm : Tryz.prog.follows .mixedOrders = true) (B : Bas) : (∀ aa w, (callFunc 10 aa).run Tryz.prog w = .ok (.enter 10 aa) w) ∧ ∀ e aa w, denL e k6_a = some aa → Rel B e (mkM 21470 k6_o0) w → Calls Tryz.prog 10 aa.toArray w (Back B e k6_v (mkM 41668 k6_o6)) :=
  unit_call Tryz.func10 variantKnown_b6 variantKnown_g6 (by kernel_rfl) (by kernel_rfl) (variantKnown_code6 hm B) variantKnown_l6
theorem variantKnown_code13 (hm : Tryz.prog.follows .mixedOrders = true) (B : Bas) : CodeOk Tryz.prog B k13_c0 ⟨Tryz.f11.ntmps, ofList 0 k13_a .nil⟩ [] none (mkM 41736 k13_o0) (.ex .ret (mkT 64 k13_t3) [] (mkM 50010 k13_o3)) := by
  have ih : ∀ B k, TaskOk Tryz.prog B k (runF Tryz.prog (fun _ => none) 1000000 k) := fun B k => by
    rw [runF_eq]; exact runC_ok noExt hm _ B k
  have h3 := runR_ok (ih B) variantKnown_p13_3
  have h2 : CodeOk Tryz.prog B k13_c1 (mkT 64 k13_t1) [] none (mkM 45551 k13_o1) (.ex .ret (mkT 64 k13_t3) [] (mkM 50010 k13_o3)) := runS_ok (ih B) _ _ _ _ variantKnown_p13_2 h3
  have h1 : CodeOk Tryz.prog B k13_c0 ⟨Tryz.f11.ntmps, ofList 0 k13_a .nil⟩ [] none (mkM 41736 k13_o0) (.ex .ret (mkT 64 k13_t3) [] (mkM 50010 k13_o3)) := runS_ok (ih B) _ _ _ _ variantKnown_p13_1 h2
  exact h1
theorem variantKnown_b13 : Tryz.f11.body = some k13_c0 := by kernel_rfl
theorem variantKnown_g13 : goodName Tryz.f11 = true := by kernel_rfl
theorem variantKnown_l13 : leave Tryz.prog (fun _ => .no "") Tryz.f11.results.toList (mkT 64 k13_t3) [] (mkM 50010 k13_o3) = .ret k13_v (mkM 50010 k13_o3) := by kernel_rfl
theorem variantKnown_call13 (hm : Tryz.prog.follows .mixedOrders = true) (B : Bas) : (∀ aa w, (callFunc 11 aa).run Tryz.prog w = .ok (.enter 11 aa) w) ∧ ∀ e aa w, denL e k13_a = some aa → Rel B e (mkM 41736 k13_o0) w → Calls Tryz.prog 11 aa.toArray w (Back B e k13_v (mkM 50010 k13_o3)) :=
  unit_call Tryz.func11 variantKnown_b13 variantKnown_g13 (by kernel_rfl) (by kernel_rfl) (variantKnown_code13 hm B) variantKnown_l13
theorem variantKnown_code15 (hm : Tryz.prog.follows .mixedOrders = true) (B : Bas) : CodeOk Tryz.prog B k15_c0 ⟨Tryz.f21.ntmps, ofList 0 k15_a .nil⟩ [] none (mkM 58884 k15_o0) (.ex .ret (mkT 27 k15_t3) [] (mkM 66619 k15_o3)) := by
  have ih : ∀ B k, TaskOk Tryz.prog B k (runF Tryz.prog (fun _ => none) 1000000 k) := fun B k => by
    rw [runF_eq]; exact runC_ok noExt hm _ B k
  have h3 := runR_ok (ih B) variantKnown_p15_3
  have h2 : CodeOk Tryz.prog B k15_c1 (mkT 27 k15_t1) [] none (mkM 62759 k15_o1) (.ex .ret (mkT 27 k15_t3) [] (mkM 66619 k15_o3)) := runS_ok (ih B) _ _ _ _ variantKnown_p15_2 h3
  have h1 : CodeOk Tryz.prog B k15_c0 ⟨Tryz.f21.ntmps, ofList 0 k15_a .nil⟩ [] none (mkM 58884 k15_o0) (.ex .ret (mkT 27 k15_t3) [] (mkM 66619 k15_o3)) := runS_ok (ih B) _ _ _ _ variantKnown_p15_1 h2
  exact h1
theorem variantKnown_b15 : Tryz.f21.body = some k15_c0 := by kernel_rfl
theorem variantKnown_g15 : goodName Tryz.f21 = true := by kernel_rfl
theorem variantKnown_l15 : leave Tryz.prog (fun _ => .no "") Tryz.f21.results.toList (mkT 27 k15_t3) [] (mkM 66619 k15_o3) = .ret k15_v (mkM 66619 k15_o3) := by kernel_rfl
theorem variantKnown_call15 (hm : Tryz.prog.follows .mixedOrders = true) (B : Bas) : (∀ aa w, (callFunc 21 aa).run Tryz.prog w = .ok (.enter 21 aa) w) ∧ ∀ e aa w, denL e k15_a = some aa → Rel B e (mkM 58884 k15_o0) w → Calls Tryz.prog 21 aa.toArray w (Back B e k15_v (mkM 66619 k15_o3)) :=
  unit_call Tryz.func21 variantKnown_b15 variantKnown_g15 (by kernel_rfl) (by kernel_rfl) (variantKnown_code15 hm B) variantKnown_l15
theorem variantKnown_code20 (hm : Tryz.prog.follows .mixedOrders = true) (B : Bas) : CodeOk Tryz.prog B k20_c0 ⟨Tryz.f35.ntmps, ofList 0 k20_a .nil⟩ [] none (mkM 74512 k20_o0) (.ex .ret (mkT 56 k20_t3) [] (mkM 83708 k20_o3)) := by
  have ih : ∀ B k, TaskOk Tryz.prog B k (runF Tryz.prog (fun _ => none) 1000000 k) := fun B k => by
    rw [runF_eq]; exact runC_ok noExt hm _ B k
  have h3 := runR_ok (ih B) variantKnown_p20_3
  have h2 : CodeOk Tryz.prog B k20_c1 (mkT 56 k20_t1) [] none (mkM 78605 k20_o1) (.ex .ret (mkT 56 k20_t3) [] (mkM 83708 k20_o3)) := runS_ok (ih B) _ _ _ _ variantKnown_p20_2 h3
  have h1 : CodeOk Tryz.prog B k20_c0 ⟨Tryz.f35.ntmps, ofList 0 k20_a .nil⟩ [] none (mkM 74512 k20_o0) (.ex .ret (mkT 56 k20_t3) [] (mkM 83708 k20_o3)) := runS_ok (ih B) _ _ _ _ variantKnown_p20_1 h2
  exact h1
theorem variantKnown_b20 : Tryz.f35.body = some k20_c0 := by kernel_rfl
theorem variantKnown_g20 : goodName Tryz.f35 = true := by kernel_rfl
theorem variantKnown_l20 : leave Tryz.prog (fun _ => .no "") Tryz.f35.results.toList (mkT 56 k20_t3) [] (mkM 83708 k20_o3) = .ret k20_v (mkM 83708 k20_o3) := by kernel_rfl
theorem variantKnown_call20 (hm : Tryz.prog.follows .mixedOrders = true) (B : Bas) : (∀ aa w, (callFunc 35 aa).run Tryz.prog w = .ok (.enter 35 aa) w) ∧ ∀ e aa w, denL e k20_a = some aa → Rel B e (mkM 74512 k20_o0) w → Calls Tryz.prog 35 aa.toArray w (Back B e k20_v (mkM 83708 k20_o3)) :=
  unit_call Tryz.func35 variantKnown_b20 variantKnown_g20 (by kernel_rfl) (by kernel_rfl) (variantKnown_code20 hm B) variantKnown_l20
theorem variantKnown_code19 (hm : Tryz.prog.follows .mixedOrders = true) (B : Bas) : CodeOk Tryz.prog B k19_c0 ⟨Tryz.f34.ntmps, ofList 0 k19_a .nil⟩ [] none (mkM 74511 k19_o0) (.ex .ret (mkT 20 k19_t5) [] (mkM 83708 k19_o5)) := by
  have ih : ∀ B k, TaskOk Tryz.prog B k (runF Tryz.prog (fun _ => none) 1000000 k) := fun B k => by
    rw [runF_eq]; exact runC_ok noExt hm _ B k
  have h5 := runR_ok (ih B) variantKnown_p19_5
  have h4 : OpsOk Tryz.prog B (opsC k19_c1) (List.drop 1 (List.drop 5 (opsC k19_c1).toList)) (tlC 1 k19_c1) (mkT 20 k19_t3) (mkM 83708 k19_o3) .ret (mkT 20 k19_t5) (mkM 83708 k19_o5) := opsOk_run (ih B) 4 variantKnown_p19_4 (ops_end (by kernel_rfl) h5)
  have h3 : OpsOk Tryz.prog B (opsC k19_c1) (List.drop 5 (opsC k19_c1).toList) (tlC 1 k19_c1) (mkT 20 k19_t2) (mkM 74512 k19_o2) .ret (mkT 20 k19_t5) (mkM 83708 k19_o5) := opsOk_run (ihS_ok (ih B) (variantKnown_call20 hm B)) 1 variantKnown_p19_3 h4
  have g2 : OpsOk Tryz.prog B (opsC k19_c1) (opsC k19_c1).toList (tlC 1 k19_c1) (mkT 20 k19_t1) (mkM 74512 k19_o1) .ret (mkT 20 k19_t5) (mkM 83708 k19_o5) := opsOk_run (ih B) 5 variantKnown_p19_2 h3
  have h2 : CodeOk Tryz.prog B k19_c1 (mkT 20 k19_t1) [] none (mkM 74512 k19_o1) (.ex .ret (mkT 20 k19_t5) [] (mkM 83708 k19_o5)) := ops_code (by kernel_rfl) g2
  have h1 : CodeOk Tryz.prog B k19_c0 ⟨Tryz.f34.ntmps, ofList 0 k19_a .nil⟩ [] none (mkM 74511 k19_o0) (.ex .ret (mkT 20 k19_t5) [] (mkM 83708 k19_o5)) := runS_ok (ih B) _ _ _ _ variantKnown_p19_1 h2
  exact h1
theorem variantKnown_b19 : Tryz.f34.body = some k19_c0 := by kernel_rfl
theorem variantKnown_g19 : goodName Tryz.f34 = true := by kernel_rfl
theorem variantKnown_l19 : leave Tryz.prog (fun _ => .no "") Tryz.f34.results.toList (mkT 20 k19_t5) [] (mkM 83708 k19_o5) = .ret k19_v (mkM 83708 k19_o5) := by kernel_rfl
theorem variantKnown_call19 (hm : Tryz.prog.follows .mixedOrders = true) (B : Bas) : (∀ aa w, (callFunc 34 aa).run Tryz.prog w = .ok (.enter 34 aa) w) ∧ ∀ e aa w, denL e k19_a = some aa → Rel B e (mkM 74511 k19_o0) w → Calls Tryz.prog 34 aa.toArray w (Back B e k19_v (mkM 83708 k19_o5)) :=
  unit_call Tryz.func34 variantKnown_b19 variantKnown_g19 (by kernel_rfl) (by kernel_rfl) (variantKnown_code19 hm B) variantKnown_l19
theorem variantKnown_code18 (hm : Tryz.prog.follows .mixedOrders = true) (B : Bas) : CodeOk Tryz.prog B k18_c0 ⟨Tryz.f20.ntmps, ofList 0 k18_a .nil⟩ [] none (mkM 70553 k18_o0) (.ex .ret (mkT 73 k18_t6) [] (mkM 83708 k18_o6)) := by
  have ih : ∀ B k, TaskOk Tryz.prog B k (runF Tryz.prog (fun _ => none) 1000000 k) := fun B k => by
    rw [runF_eq]; exact runC_ok noExt hm _ B k
  have h6 := runR_ok (ih B) variantKnown_p18_6
  have h5 : CodeOk Tryz.prog B k18_c5 (mkT 73 k18_t4) [] none (mkM 83708 k18_o4) (.ex .ret (mkT 73 k18_t6) [] (mkM 83708 k18_o6)) := runS_ok (ih B) _ _ _ _ variantKnown_p18_5 h6
  have h4 : CodeOk Tryz.prog B k18_c4 (mkT 73 k18_t3) [] none (mkM 83708 k18_o3) (.ex .normal (mkT 73 k18_t4) [] (mkM 83708 k18_o4)) := runN_ok (ih B) variantKnown_p18_4
  have h3 : CodeOk Tryz.prog B k18_c3 (mkT 73 k18_t2) [] none (mkM 83708 k18_o2) (.ex .normal (mkT 73 k18_t4) [] (mkM 83708 k18_o4)) := runS_ok (ih B) _ _ _ _ variantKnown_p18_3 h4
  have h2 : CodeOk Tryz.prog B k18_c2 (mkT 73 k18_t1) [] none (mkM 74492 k18_o1) (.ex .normal (mkT 73 k18_t4) [] (mkM 83708 k18_o4)) := runS_ok (ihL_ok (fun B => ihS_ok (ih B) (variantKnown_call19 hm B)) hm B) _ _ _ _ variantKnown_p18_2 h3
  have hs2 : CodeOk Tryz.prog B k18_c1 (mkT 73 k18_t1) [] none (mkM 74492 k18_o1) (.ex .ret (mkT 73 k18_t6) [] (mkM 83708 k18_o6)) := seq_sub (by kernel_rfl) h2 h5
  have h1 : CodeOk Tryz.prog B k18_c0 ⟨Tryz.f20.ntmps, ofList 0 k18_a .nil⟩ [] none (mkM 70553 k18_o0) (.ex .ret (mkT 73 k18_t6) [] (mkM 83708 k18_o6)) := runS_ok (ih B) _ _ _ _ variantKnown_p18_1 hs2
  exact h1
theorem variantKnown_b18 : Tryz.f20.body = some k18_c0 := by kernel_rfl
theorem variantKnown_g18 : goodName Tryz.f20 = true := by kernel_rfl
theorem variantKnown_l18 : leave Tryz.prog (fun _ => .no "") Tryz.f20.results.toList (mkT 73 k18_t6) [] (mkM 83708 k18_o6) = .ret k18_v (mkM 83708 k18_o6) := by kernel_rfl
theorem variantKnown_call18 (hm : Tryz.prog.follows .mixedOrders = true) (B : Bas) : (∀ aa w, (callFunc 20 aa).run Tryz.prog w = .ok (.enter 20 aa) w) ∧ ∀ e aa w, denL e k18_a = some aa → Rel B e (mkM 70553 k18_o0) w → Calls Tryz.prog 20 aa.toArray w (Back B e k18_v (mkM 83708 k18_o6)) :=
  unit_call Tryz.func20 variantKnown_b18 variantKnown_g18 (by kernel_rfl) (by kernel_rfl) (variantKnown_code18 hm B) variantKnown_l18
theorem variantKnown_code17 (hm : Tryz.prog.follows .mixedOrders = true) (B : Bas) : CodeOk Tryz.prog B k17_c0 ⟨Tryz.f12.ntmps, ofList 0 k17_a .nil⟩ [] none (mkM 66678 k17_o0) (.ex .ret (mkT 31 k17_t5) [] (mkM 83708 k17_o5)) := by
  have ih : ∀ B k, TaskOk Tryz.prog B k (runF Tryz.prog (fun _ => none) 1000000 k) := fun B k => by
    rw [runF_eq]; exact runC_ok noExt hm _ B k
  have h5 := runR_ok (ih B) variantKnown_p17_5
  have h4 : OpsOk Tryz.prog B (opsC k17_c1) (List.drop 1 (List.drop 2 (opsC k17_c1).toList)) (tlC 1 k17_c1) (mkT 31 k17_t3) (mkM 83708 k17_o3) .ret (mkT 31 k17_t5) (mkM 83708 k17_o5) := opsOk_run (ih B) 2 variantKnown_p17_4 (ops_end (by kernel_rfl) h5)
  have h3 : OpsOk Tryz.prog B (opsC k17_c1) (List.drop 2 (opsC k17_c1).toList) (tlC 1 k17_c1) (mkT 31 k17_t2) (mkM 70553 k17_o2) .ret (mkT 31 k17_t5) (mkM 83708 k17_o5) := opsOk_run (ihS_ok (ih B) (variantKnown_call18 hm B)) 1 variantKnown_p17_3 h4
  have g2 : OpsOk Tryz.prog B (opsC k17_c1) (opsC k17_c1).toList (tlC 1 k17_c1) (mkT 31 k17_t1) (mkM 70553 k17_o1) .ret (mkT 31 k17_t5) (mkM 83708 k17_o5) := opsOk_run (ih B) 2 variantKnown_p17_2 h3
  have h2 : CodeOk Tryz.prog B k17_c1 (mkT 31 k17_t1) [] none (mkM 70553 k17_o1) (.ex .ret (mkT 31 k17_t5) [] (mkM 83708 k17_o5)) := ops_code (by kernel_rfl) g2
  have h1 : CodeOk Tryz.prog B k17_c0 ⟨Tryz.f12.ntmps, ofList 0 k17_a .nil⟩ [] none (mkM 66678 k17_o0) (.ex .ret (mkT 31 k17_t5) [] (mkM 83708 k17_o5)) := runS_ok (ih B) _ _ _ _ variantKnown_p17_1 h2
  exact h1
theorem variantKnown_b17 : Tryz.f12.body = some k17_c0 := by kernel_rfl
theorem variantKnown_g17 : goodName Tryz.f12 = true := by kernel_rfl
theorem variantKnown_l17 : leave Tryz.prog (fun _ => .no "") Tryz.f12.results.toList (mkT 31 k17_t5) [] (mkM 83708 k17_o5) = .ret k17_v (mkM 83708 k17_o5) := by kernel_rfl
theorem variantKnown_call17 (hm : Tryz.prog.follows .mixedOrders = true) (B : Bas) : (∀ aa w, (callFunc 12 aa).run Tryz.prog w = .ok (.enter 12 aa) w) ∧ ∀ e aa w, denL e k17_a = some aa → Rel B e (mkM 66678 k17_o0) w → Calls Tryz.prog 12 aa.toArray w (Back B e k17_v (mkM 83708 k17_o5)) :=
  unit_call Tryz.func12 variantKnown_b17 variantKnown_g17 (by kernel_rfl) (by kernel_rfl) (variantKnown_code17 hm B) variantKnown_l17
theorem variantKnown_code16 (hm : Tryz.prog.follows .mixedOrders = true) (B : Bas) : CodeOk Tryz.prog B k16_c0 ⟨Tryz.f10.ntmps, ofList 0 k16_a .nil⟩ [] none (mkM 66673 k16_o0) (.ex .ret (mkT 21 k16_t6) [] (mkM 83753 k16_o6)) := by
  have ih : ∀ B k, TaskOk Tryz.prog B k (runF Tryz.prog (fun _ => none) 1000000 k) := fun B k => by
    rw [runF_eq]; exact runC_ok noExt hm _ B k
  have h6 := runR_ok (ih B) variantKnown_p16_6
  have h5 : CodeOk Tryz.prog B k16_c2 (mkT 21 k16_t4) [] none (mkM 83708 k16_o4) (.ex .ret (mkT 21 k16_t6) [] (mkM 83753 k16_o6)) := runS_ok (ih B) _ _ _ _ variantKnown_p16_5 h6
  have h4 : OpsOk Tryz.prog B (opsC k16_c1) (List.drop 1 (List.drop 3 (opsC k16_c1).toList)) (tlC 1 k16_c1) (mkT 21 k16_t3) (mkM 83708 k16_o3) .ret (mkT 21 k16_t6) (mkM 83753 k16_o6) := opsOk_run (ih B) 5 variantKnown_p16_4 (ops_end (by kernel_rfl) h5)
  have h3 : OpsOk Tryz.prog B (opsC k16_c1) (List.drop 3 (opsC k16_c1).toList) (tlC 1 k16_c1) (mkT 21 k16_t2) (mkM 66678 k16_o2) .ret (mkT 21 k16_t6) (mkM 83753 k16_o6) := opsOk_run (ihS_ok (ih B) (variantKnown_call17 hm B)) 1 variantKnown_p16_3 h4
  have g2 : OpsOk Tryz.prog B (opsC k16_c1) (opsC k16_c1).toList (tlC 1 k16_c1) (mkT 21 k16_t1) (mkM 66673 k16_o1) .ret (mkT 21 k16_t6) (mkM 83753 k16_o6) := opsOk_run (ih B) 3 variantKnown_p16_2 h3
  have h2 : CodeOk Tryz.prog B k16_c1 (mkT 21 k16_t1) [] none (mkM 66673 k16_o1) (.ex .ret (mkT 21 k16_t6) [] (mkM 83753 k16_o6)) := ops_code (by kernel_rfl) g2
  have h1 : CodeOk Tryz.prog B k16_c0 ⟨Tryz.f10.ntmps, ofList 0 k16_a .nil⟩ [] none (mkM 66673 k16_o0) (.ex .ret (mkT 21 k16_t6) [] (mkM 83753 k16_o6)) := runS_ok (ih B) _ _ _ _ variantKnown_p16_1 h2
  exact h1
theorem variantKnown_b16 : Tryz.f10.body = some k16_c0 := by kernel_rfl
theorem variantKnown_g16 : goodName Tryz.f10 = true := by kernel_rfl
theorem variantKnown_l16 : leave Tryz.prog (fun _ => .no "") Tryz.f10.results.toList (mkT 21 k16_t6) [] (mkM 83753 k16_o6) = .ret k16_v (mkM 83753 k16_o6) := by kernel_rfl
theorem variantKnown_call16 (hm : Tryz.prog.follows .mixedOrders = true) (B : Bas) : (∀ aa w, (callFunc 10 aa).run Tryz.prog w = .ok (.enter 10 aa) w) ∧ ∀ e aa w, denL e k16_a = some aa → Rel B e (mkM 66673 k16_o0) w → Calls Tryz.prog 10 aa.toArray w (Back B e k16_v (mkM 83753 k16_o6)) :=
  unit_call Tryz.func10 variantKnown_b16 variantKnown_g16 (by kernel_rfl) (by kernel_rfl) (variantKnown_code16 hm B) variantKnown_l16
theorem variantKnown_code14 (hm : Tryz.prog.follows .mixedOrders = true) (B : Bas) : CodeOk Tryz.prog B k14_c0 ⟨Tryz.f13.ntmps, ofList 0 k14_a .nil⟩ [] none (mkM 58879 k14_o0) (.ex .ret (mkT 29 k14_t8) [] (mkM 87685 k14_o8)) := by
  have ih : ∀ B k, TaskOk Tryz.prog B k (runF Tryz.prog (fun _ => none) 1000000 k) := fun B k => by
    rw [runF_eq]; exact runC_ok noExt hm _ B k
  have h8 := runR_ok (ih B) variantKnown_p14_8
  have h7 : OpsOk Tryz.prog B (opsC k14_c2) (List.drop 1 (List.drop 12 (opsC k14_c2).toList)) (tlC 1 k14_c2) (mkT 29 k14_t6) (mkM 83753 k14_o6) .ret (mkT 29 k14_t8) (mkM 87685 k14_o8) := opsOk_run (ih B) 6 variantKnown_p14_7 (ops_end (by kernel_rfl) h8)
  have h6 : OpsOk Tryz.prog B (opsC k14_c2) (List.drop 12 (opsC k14_c2).toList) (tlC 1 k14_c2) (mkT 29 k14_t5) (mkM 66673 k14_o5) .ret (mkT 29 k14_t8) (mkM 87685 k14_o8) := opsOk_run (ihS_ok (ih B) (variantKnown_call16 hm B)) 1 variantKnown_p14_6 h7
  have g5 : OpsOk Tryz.prog B (opsC k14_c2) (opsC k14_c2).toList (tlC 1 k14_c2) (mkT 29 k14_t4) (mkM 66619 k14_o4) .ret (mkT 29 k14_t8) (mkM 87685 k14_o8) := opsOk_run (ih B) 12 variantKnown_p14_5 h6
  have h5 : CodeOk Tryz.prog B k14_c2 (mkT 29 k14_t4) [] none (mkM 66619 k14_o4) (.ex .ret (mkT 29 k14_t8) [] (mkM 87685 k14_o8)) := ops_code (by kernel_rfl) g5
  have h4 : OpsOk Tryz.prog B (opsC k14_c1) (List.drop 1 (List.drop 2 (opsC k14_c1).toList)) (tlC 1 k14_c1) (mkT 29 k14_t3) (mkM 66619 k14_o3) .ret (mkT 29 k14_t8) (mkM 87685 k14_o8) := opsOk_run (ih B) 7 variantKnown_p14_4 (ops_end (by kernel_rfl) h5)
  have h3 : OpsOk Tryz.prog B (opsC k14_c1) (List.drop 2 (opsC k14_c1).toList) (tlC 1 k14_c1) (mkT 29 k14_t2) (mkM 58884 k14_o2) .ret (mkT 29 k14_t8) (mkM 87685 k14_o8) := opsOk_run (ihS_ok (ih B) (variantKnown_call15 hm B)) 1 variantKnown_p14_3 h4
  have g2 : OpsOk Tryz.prog B (opsC k14_c1) (opsC k14_c1).toList (tlC 1 k14_c1) (mkT 29 k14_t1) (mkM 58879 k14_o1) .ret (mkT 29 k14_t8) (mkM 87685 k14_o8) := opsOk_run (ih B) 2 variantKnown_p14_2 h3
  have h2 : CodeOk Tryz.prog B k14_c1 (mkT 29 k14_t1) [] none (mkM 58879 k14_o1) (.ex .ret (mkT 29 k14_t8) [] (mkM 87685 k14_o8)) := ops_code (by kernel_rfl) g2
  have h1 : CodeOk Tryz.prog B k14_c0 ⟨Tryz.f13.ntmps, ofList 0 k14_a .nil⟩ [] none (mkM 58879 k14_o0) (.ex .ret (mkT 29 k14_t8) [] (mkM 87685 k14_o8)) := runS_ok (ih B) _ _ _ _ variantKnown_p14_1 h2
  exact h1
theorem variantKnown_b14 : Tryz.f13.body = some k14_c0 := by kernel_rfl
theorem variantKnown_g14 : goodName Tryz.f13 = true := by kernel_rfl
theorem variantKnown_l14 : leave Tryz.prog (fun _ => .no "") Tryz.f13.results.toList (mkT 29 k14_t8) [] (mkM 87685 k14_o8) = .ret k14_v (mkM 87685 k14_o8) := by kernel_rfl
theorem variantKnown_call14 (hm : Tryz.prog.follows .mixedOrders = true) (B : Bas) : (∀ aa w, (callFunc 13 aa).run Tryz.prog w = .ok (.enter 13 aa) w) ∧ ∀ e aa w, denL e k14_a = some aa → Rel B e (mkM 58879 k14_o0) w → Calls Tryz.prog 13 aa.toArray w (Back B e k14_v (mkM 87685 k14_o8)) :=
  unit_call Tryz.func13 variantKnown_b14 variantKnown_g14 (by kernel_rfl) (by kernel_rfl) (variantKnown_code14 hm B) variantKnown_l14
theorem variantKnown_code0 (hm : Tryz.prog.follows .mixedOrders = true) (B : Bas) : CodeOk Tryz.prog B k0_c0 ⟨Tryz.f3.ntmps, .nil⟩ [] none (mem0 64 rows0) (.ex .ret (mkT 111 k0_t18) [] (mkM 87685 k0_o18)) := by
  have ih : ∀ B k, TaskOk Tryz.prog B k (runF Tryz.prog (fun _ => none) 1000000 k) := fun B k => by
    rw [runF_eq]; exact runC_ok noExt hm _ B k
  have h18 := runR_ok (ih B) variantKnown_p0_18
  have h17 : OpsOk Tryz.prog B (opsC k0_c9) (List.drop 1 (List.drop 23 (opsC k0_c9).toList)) (tlC 1 k0_c9) (mkT 111 k0_t16) (mkM 87685 k0_o16) .ret (mkT 111 k0_t18) (mkM 87685 k0_o18) := opsOk_run (ih B) 2 variantKnown_p0_17 (ops_end (by kernel_rfl) h18)
  have h16 : OpsOk Tryz.prog B (opsC k0_c9) (List.drop 23 (opsC k0_c9).toList) (tlC 1 k0_c9) (mkT 111 k0_t15) (mkM 58879 k0_o15) .ret (mkT 111 k0_t18) (mkM 87685 k0_o18) := opsOk_run (ihS_ok (ih B) (variantKnown_call14 hm B)) 1 variantKnown_p0_16 h17
  have g15 : OpsOk Tryz.prog B (opsC k0_c9) (opsC k0_c9).toList (tlC 1 k0_c9) (mkT 111 k0_t14) (mkM 58879 k0_o14) .ret (mkT 111 k0_t18) (mkM 87685 k0_o18) := opsOk_run (ih B) 23 variantKnown_p0_15 h16
  have h15 : CodeOk Tryz.prog B k0_c9 (mkT 111 k0_t14) [] none (mkM 58879 k0_o14) (.ex .ret (mkT 111 k0_t18) [] (mkM 87685 k0_o18)) := ops_code (by kernel_rfl) g15
  have h14 : CodeOk Tryz.prog B k0_c8 (mkT 111 k0_t13) [] none (mkM 54924 k0_o13) (.ex .ret (mkT 111 k0_t18) [] (mkM 87685 k0_o18)) := runS_ok (ih B) _ _ _ _ variantKnown_p0_14 h15
  have h13 : CodeOk Tryz.prog B k0_c7 (mkT 111 k0_t12) [] none (mkM 50010 k0_o12) (.ex .ret (mkT 111 k0_t18) [] (mkM 87685 k0_o18)) := runS_ok (ih B) _ _ _ _ variantKnown_p0_13 h14
  have h12 : OpsOk Tryz.prog B (opsC k0_c6) (List.drop 1 (List.drop 4 (opsC k0_c6).toList)) (tlC 1 k0_c6) (mkT 111 k0_t11) (mkM 50010 k0_o11) .ret (mkT 111 k0_t18) (mkM 87685 k0_o18) := opsOk_run (ih B) 5 variantKnown_p0_12 (ops_end (by kernel_rfl) h13)
  have h11 : OpsOk Tryz.prog B (opsC k0_c6) (List.drop 4 (opsC k0_c6).toList) (tlC 1 k0_c6) (mkT 111 k0_t10) (mkM 41736 k0_o10) .ret (mkT 111 k0_t18) (mkM 87685 k0_o18) := opsOk_run (ihS_ok (ih B) (variantKnown_call13 hm B)) 1 variantKnown_p0_11 h12
  have g10 : OpsOk Tryz.prog B (opsC k0_c6) (opsC k0_c6).toList (tlC 1 k0_c6) (mkT 111 k0_t9) (mkM 41677 k0_o9) .ret (mkT 111 k0_t18) (mkM 87685 k0_o18) := opsOk_run (ih B) 4 variantKnown_p0_10 h11
  have h10 : CodeOk Tryz.prog B k0_c6 (mkT 111 k0_t9) [] none (mkM 41677 k0_o9) (.ex .ret (mkT 111 k0_t18) [] (mkM 87685 k0_o18)) := ops_code (by kernel_rfl) g10
  have h9 : CodeOk Tryz.prog B k0_c5 (mkT 111 k0_t8) [] none (mkM 41668 k0_o8) (.ex .ret (mkT 111 k0_t18) [] (mkM 87685 k0_o18)) := runS_ok (ih B) _ _ _ _ variantKnown_p0_9 h10
  have h8 : CodeOk Tryz.prog B k0_c4 (mkT 111 k0_t7) [] none (mkM 41668 k0_o7) (.ex .normal (mkT 111 k0_t8) [] (mkM 41668 k0_o8)) := runN_ok (ih B) variantKnown_p0_8
  have h7 : OpsOk Tryz.prog B (opsC k0_c3) (List.drop 1 (List.drop 5 (List.drop 1 (List.drop 20 (opsC k0_c3).toList)))) (tlC 1 k0_c3) (mkT 111 k0_t6) (mkM 41668 k0_o6) .normal (mkT 111 k0_t8) (mkM 41668 k0_o8) := opsOk_run (ih B) 2 variantKnown_p0_7 (ops_end (by kernel_rfl) h8)
  have h6 : OpsOk Tryz.prog B (opsC k0_c3) (List.drop 5 (List.drop 1 (List.drop 20 (opsC k0_c3).toList))) (tlC 1 k0_c3) (mkT 111 k0_t5) (mkM 21470 k0_o5) .normal (mkT 111 k0_t8) (mkM 41668 k0_o8) := opsOk_run (ihS_ok (ih B) (variantKnown_call6 hm B)) 1 variantKnown_p0_6 h7
  have h5 : OpsOk Tryz.prog B (opsC k0_c3) (List.drop 1 (List.drop 20 (opsC k0_c3).toList)) (tlC 1 k0_c3) (mkT 111 k0_t4) (mkM 21462 k0_o4) .normal (mkT 111 k0_t8) (mkM 41668 k0_o8) := opsOk_run (ih B) 5 variantKnown_p0_5 h6
  have h4 : OpsOk Tryz.prog B (opsC k0_c3) (List.drop 20 (opsC k0_c3).toList) (tlC 1 k0_c3) (mkT 111 k0_t3) (mkM 8872 k0_o3) .normal (mkT 111 k0_t8) (mkM 41668 k0_o8) := opsOk_run (ihS_ok (ih B) (variantKnown_call1 hm B)) 1 variantKnown_p0_4 h5
  have g3 : OpsOk Tryz.prog B (opsC k0_c3) (opsC k0_c3).toList (tlC 1 k0_c3) (mkT 111 k0_t2) (mkM 8854 k0_o2) .normal (mkT 111 k0_t8) (mkM 41668 k0_o8) := opsOk_run (ih B) 20 variantKnown_p0_3 h4
  have h3 : CodeOk Tryz.prog B k0_c3 (mkT 111 k0_t2) [] none (mkM 8854 k0_o2) (.ex .normal (mkT 111 k0_t8) [] (mkM 41668 k0_o8)) := ops_code (by kernel_rfl) g3
  have hs3 : CodeOk Tryz.prog B k0_c2 (mkT 111 k0_t2) [] none (mkM 8854 k0_o2) (.ex .ret (mkT 111 k0_t18) [] (mkM 87685 k0_o18)) := seq_sub (by kernel_rfl) h3 h9
  have h2 : CodeOk Tryz.prog B k0_c1 (mkT 111 k0_t1) [] none (mkM 3944 k0_o1) (.ex .ret (mkT 111 k0_t18) [] (mkM 87685 k0_o18)) := runS_ok (ih B) _ _ _ _ variantKnown_p0_2 hs3
  have h1 : CodeOk Tryz.prog B k0_c0 ⟨Tryz.f3.ntmps, .nil⟩ [] none (mem0 64 rows0) (.ex .ret (mkT 111 k0_t18) [] (mkM 87685 k0_o18)) := runS_ok (ih B) _ _ _ _ variantKnown_p0_1 h2
  exact h1
theorem variantKnown_b0 : Tryz.f3.body = some k0_c0 := by kernel_rfl
theorem variantKnown_g0 : goodName Tryz.f3 = true := by kernel_rfl
theorem variantKnown_l : isTrue (leave Tryz.prog (fun _ => .no "") Tryz.f3.results.toList (mkT 111 k0_t18) [] (mkM 87685 k0_o18)) = true := by kernel_rfl
theorem variantKnown_calls0 (hm : Tryz.prog.follows .mixedOrders = true) (W : World) (hR : RowsOk W [] rows0) : Calls Tryz.prog 3 #[] W fun en w' => en = .returned (.bool true) ∧ Below W.heap.size W w' :=
  parts_calls (P := Tryz.prog) (f := 3) (fn := Tryz.f3) (c := k0_c0) (l := rows0) (bs := []) (k := 64) (nxt := 87685) (sz := 111) (ts := k0_t18) (os := k0_o18) (W := W) rfl Tryz.func3 variantKnown_b0 variantKnown_g0 (fun B => variantKnown_code0 hm B) variantKnown_l hR
end Go.Proofs.YtelgaffeihgffaaGreatDoor
