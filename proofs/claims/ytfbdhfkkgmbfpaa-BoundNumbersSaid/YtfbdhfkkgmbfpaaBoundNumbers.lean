import Derived.Test.YtfbdhfkkgmbfpaaNk
import Derived.Test.YtfbdhfkkgmbfpaaRows
/-
  For every configuration and every number the law BoundNumbers answers true. Conditions: none.
-/
set_option linter.unusedSimpArgs false
set_option linter.unusedVariables false
namespace Go.Proofs.Ytfbdhfkkgmbfpaa
open Go Go.Cx Go.ChangeShapes Go.WideShapes Go.ChangeAt Go.RowKit

theorem Try.own : ownKnob Try.prog.godebug = none := by kernel_rfl
theorem bn_orders : Try.prog.follows .mixedOrders = true := by kernel_rfl
theorem bn_laid : laidOutB Try.prog = true := by kernel_rfl
theorem bn_rows : mapsRowed Try.prog = true := by kernel_rfl
theorem bn_full : ((List.range Try.prog.types.size).all fun t => match Try.prog.underlying t with | some (.slice e) => decide (0 < Try.prog.cellsOf e) | _ => true) = true := by kernel_rfl
theorem bn_tys : goodTys Try.prog [29, 22, 25, 26, 75, 24, 111, 3, 27, 2, 4] = true := by kernel_rfl

set_option maxRecDepth 100000 in
theorem boundNumbers_lifted (os : Os) (started : os.Started) (H : Type) (enc : TypeId × Value → H) :
    ReturnsInHanded {} Try.checked os 3 .any (Rows.boundNumbersSpec.pre6 enc Try.prog Try.f3 Rows.boundNumbersRow.domain false) (Rows.boundNumbersSpec.post enc Try.prog Try.f3 false true false false) := by
  refine returnsInHanded_of_change (C := Try.checked) Try.own started (by kernel_rfl) Try.func3
    (ChangeSpec.witness6 (enc := enc) (C := Try.checked) false ⟨#[], #[.agg (#[.slice none 0 0] ++ Array.replicate 30 (.int .i64 0) ++ #[.slice none 0 0, .int .u64 0]), .int .i64 0], []⟩ 8 (by kernel_rfl) (by kernel_rfl) (by kernel_rfl) (by kernel_rfl)) ?_
  intro W base args ds gs before hval0 hW _ _
  have hval : ∀ (j : Nat) t v, Try.f3.params[j]? = some t → args[j]? = some v → Value.okWide Try.prog W .any base t v := hval0
  have hW' := hW
  obtain ⟨p, q, hA0, hV, rfl, hfz, hnd⟩ := hW
  have hA : DataW.TrodAll enc Try.prog W 0 (fun _ => true) true Try.f3.params.toList args.toList ds p := hA0
  rw [Try.params3] at hA hval
  obtain ⟨v0, v1, d0, d1, p0, p1, rfl, rfl, rfl, h0, h1⟩ := trodAll_two hA
  obtain ⟨rfl, rfl⟩ := trodVars_none hV
  obtain ⟨cs, rfl, hsz⟩ := okWide_struct Try.underlying29 (hval 0 29 v0 rfl rfl)
  obtain ⟨x, rfl, rfl, rfl, wx⟩ := open_int Try.underlying3 (hval 1 3 v1 rfl rfl) h1
  clear hA0 hval0
  simp only [List.append_nil] at hW'
  obtain ⟨fuel, h0⟩ := h0
  obtain ⟨hwf, hop⟩ := opens_trod bn_tys fuel 29 _ d0 p0 rfl h0
  obtain ⟨L, xs, hL, hd, hone, hr⟩ := hop [] (fun i p hp => by simp at hp)
  obtain ⟨c, hc, hsame⟩ := open_conf fuel d0 hwf
  have hcall := d_calls (P := Try.prog) (X := noX) (l := []) noExt bn_orders rowsV_nil (f := 3) (args := [.agg (svD Try.prog fuel 29 d0), ci x]) (xs := [.agg xs, .int .i64 x]) (vs := [.agg cs, .int .i64 x]) hL
    (.cons (.agg hr) (.cons (.cv rfl) .nil)) (by simp only [denL, den, hd]; rfl)
    ((law_d c hc x).arg (.cons (.agg hsame) (.cons (.refl _) .nil)))
  refine hcall.mono fun e W' ⟨he, hw⟩ => ?_
  subst he
  exact ⟨_, rfl, post_law hW' rfl rfl bn_laid bn_rows bn_full (by rw [Try.params3]; decide +kernel) ⟨rfl, rfl, rfl⟩ rfl Try.underlying4 hw⟩

theorem boundNumbers_holds : Rows.BoundNumbersSaid :=
  OpenClaim.holds_of_wide 3 Try.f3 rfl rfl rfl rfl rfl rfl rfl ⟨rfl, rfl, rfl, rfl, rfl⟩ rfl rfl rfl rfl rfl (by kernel_rfl) Try.func3 (by kernel_rfl)
    (of_decide_eq_true (by kernel_rfl)) (by unfold Func.isWrapper; first | (rw [if_pos (by decide +kernel)]; kernel_rfl) | (rw [if_neg (by decide +kernel)]; exact ⟨rfl, rfl⟩))
    (fun os started H enc _ => boundNumbers_lifted os started H enc)
end Go.Proofs.Ytfbdhfkkgmbfpaa
