import Derived.Test.YtkjdghlefdmjaaaTf
import Derived.Test.YtkjdghlefdmjaaaAw
import Derived.Test.YtkjdghlefdmjaaaGh
import Derived.Test.YtkjdghlefdmjaaaRows
import Derived.ChangeMaps5
set_option linter.unusedSimpArgs false
set_option linter.unusedVariables false
namespace Go.Proofs.Ytkjdghlefdmjaaa
open Go Go.Cx Go.ChangeShapes Go.WideShapes Go.ChangeAt Go.RowKit
open Go.ChangeMaps (open_string shut_string)
theorem Try.own : ownKnob Try.prog.godebug = none := by kernel_rfl
theorem tb_laid : laidOutB Try.prog = true := by kernel_rfl
theorem tb_rows : mapsRowed Try.prog = true := by kernel_rfl
theorem tb_full : ((List.range Try.prog.types.size).all fun t => match Try.prog.underlying t with | some (.slice e) => decide (0 < Try.prog.cellsOf e) | _ => true) = true := by kernel_rfl
set_option maxRecDepth 100000 in
theorem tokenBack_lifted (os : Os) (started : os.Started) (H : Type) (enc : TypeId × Value → H) :
  ReturnsInHanded {} Try.checked os 3 .any (Rows.tokenBackSpec.pre6 enc Try.prog Try.f3 Rows.tokenBackRow.domain false) (Rows.tokenBackSpec.post enc Try.prog Try.f3 false true false false) := by
 refine returnsInHanded_of_change (C := Try.checked) Try.own started (by kernel_rfl) Try.func3
  (ChangeSpec.witness6 (enc := enc) (C := Try.checked) false ⟨#[], #[.string ⟨#[]⟩], []⟩ 8 (by kernel_rfl) (by kernel_rfl) (by kernel_rfl) (by kernel_rfl)) ?_
 intro W base args ds gs before hval0 hW _ _
 have hval : ∀ (j : Nat) t v, Try.f3.params[j]? = some t → args[j]? = some v → Value.okWide Try.prog W .any base t v := hval0
 have hW' := hW
 obtain ⟨p, q, hA0, hV, rfl, hfz, hnd⟩ := hW
 have hA : DataW.TrodAll enc Try.prog W 0 (fun _ => true) true Try.f3.params.toList args.toList ds p := hA0
 rw [Try.params3] at hA hval
 obtain ⟨v0, d0, rfl, rfl, h0⟩ := trodAll_one hA
 obtain ⟨rfl, rfl⟩ := trodVars_none hV
 obtain ⟨s, rfl, rfl, rfl, ws⟩ := open_string Try.underlying9 (hval 0 9 v0 rfl rfl) h0
 clear hA0 hval0
 simp only [List.append_nil] at hW'
 have hs : (⟨((nm s.data.toList).map UInt8.ofNat).toArray⟩ : ByteArray) = s := by rw [of_nm]
 have hcall := d_calls (W := W) (P := Try.prog) (X := axX) (l := []) ax_ok ax_mixed rowsV_nil (f := 3) (args := [.cv (.str (nm s.data.toList))]) (xs := [.str (nm s.data.toList)]) (vs := [.string s]) (L := []) (fun i p hp => by simp at hp)
  (.cons (.cv rfl) .nil) (by simp only [denL, den, hs]; rfl) (tokenBack_law s.data.toList)
 refine hcall.mono fun e W' ⟨he, hw⟩ => ?_
 subst he
 exact ⟨_, rfl, post_law hW' rfl rfl tb_laid tb_rows tb_full (by rw [Try.params3]; decide +kernel) ⟨rfl, rfl, rfl⟩ rfl Try.underlying4 hw⟩
theorem tokenBack_holds : Rows.TokenBackSaid :=
 OpenClaim.holds_of_wide 3 Try.f3 rfl rfl rfl rfl rfl rfl rfl ⟨rfl, rfl, rfl, rfl, rfl⟩ rfl rfl rfl rfl rfl (by kernel_rfl) Try.func3 (by kernel_rfl)
  (of_decide_eq_true (by kernel_rfl)) (by unfold Func.isWrapper; first | (rw [if_pos (by decide +kernel)]; kernel_rfl) | (rw [if_neg (by decide +kernel)]; exact ⟨rfl, rfl⟩))
  (fun os started H enc _ => tokenBack_lifted os started H enc)
#print axioms tokenBack_holds
end Go.Proofs.Ytkjdghlefdmjaaa
