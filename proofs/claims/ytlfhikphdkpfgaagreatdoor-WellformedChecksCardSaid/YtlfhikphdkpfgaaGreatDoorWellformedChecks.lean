/-
  The law WellformedChecks answers true. Conditions: the listed package variables hold what the program's text lays (tied by the card).
-/
import Derived.Test.YtlfhikphdkpfgaaGreatDoorAt
import Derived.Test.YtlfhikphdkpfgaaGreatDoorAu
import Derived.Test.YtlfhikphdkpfgaaGreatDoorCards
import Derived.Test.YtlfhikphdkpfgaaGreatDoorTie
import Derived.ProofKit
import Derived.LaidLaws
import Derived.Handed
import Derived.SevenTiedAt
set_option linter.unusedSimpArgs false
set_option linter.unusedVariables false
namespace Go.Proofs.YtlfhikphdkpfgaaGreatDoor
open Go Go.Cx Go.ChangeShapes Go.WideShapes Go.ChangeAt Go.RowKit
open Go.ChangeMaps (open_string shut_string)
theorem Tryz.own : ownKnob Tryz.prog.godebug = none := by kernel_rfl
theorem law_orders : Tryz.prog.follows .mixedOrders = true := by kernel_rfl
theorem law_laid : laidOutB Tryz.prog = true := by kernel_rfl
theorem law_rows : mapsRowed Tryz.prog = true := by kernel_rfl
theorem law_full : ((List.range Tryz.prog.types.size).all fun t => match Tryz.prog.underlying t with | some (.slice e) => decide (0 < Tryz.prog.cellsOf e) | _ => true) = true := by kernel_rfl
theorem law_tys : zsE Tryz.prog [32, 28, 29, 30, 61, 57, 25, 26, 23, 59, 3, 22, 2, 4, 9] = true := by kernel_rfl
theorem law_rowsV {W : World} (h : laidMet Tryz.prog Rows.wellformedChecksRow.laid W) : zy2 W axG := by
 refine ⟨by decide, fun g cs hm => ?_⟩
 rcases List.mem_cons.1 hm with hm | hm
 ·cases hm
  refine ⟨by decide, by kernel_rfl, ?_⟩
  obtain ⟨vs, ty, fr, h1, h2⟩ := zol (ss := [[99, 111, 117, 110, 116], [115, 117, 109], [109, 105, 110], [109, 97, 120], [102, 105, 114, 115, 116], [108, 97, 115, 116]]) (bs := []) (P := Tryz.prog) (n := "partywall/ast.names") (t := 139) (e := 9) (k := 6) (by kernel_rfl) (by kernel_rfl) (by kernel_rfl) (by kernel_rfl) (by kernel_rfl) (by kernel_rfl) (Lib.laidMet.reads h (.head _))
  exact ⟨vs, ty, fr, fun e => by simp only [denL, den] at h1 ⊢; exact h1, h2⟩
 ·cases hm
noncomputable def laidW (os : Os) : World :=
 let w0 := World.holding Tryz.prog os ⟨#[], #[], []⟩
 let h0 := w0.heap
 let h1 := h0.modify 0 fun
  | .cells _ t frozen => .cells #[.string ⟨#[99, 111, 117, 110, 116]⟩, .string ⟨#[115, 117, 109]⟩, .string ⟨#[109, 105, 110]⟩, .string ⟨#[109, 97, 120]⟩, .string ⟨#[102, 105, 114, 115, 116]⟩, .string ⟨#[108, 97, 115, 116]⟩] t frozen
  | o => o
 { w0 with heap := h1 }
theorem laidW_met (os : Os) (args : Array Value) : laidMet Tryz.prog Rows.wellformedChecksRow.laid ((laidW os).forCall (fun _ _ => 0) ⟨#[], args, []⟩).memory :=
 laidMet_of_run' 8 (by kernel_rfl) (by kernel_rfl)
set_option maxHeartbeats 4000000 in
set_option maxRecDepth 100000 in
theorem wellformedChecks_witness (os : Os) (H : Type) (enc : TypeId × Value -> H) : ∃ (w : World) (tape : Tape) (i : Input), w.os = os /\ (w.forCall tape i).Shaped Tryz.checked.prog /\ i.vars = [] /\ Input.okWide Tryz.checked.prog (w.forCall tape i) .any w.heap.size 3 i /\
   ((Rows.wellformedChecksSpec.pre enc Tryz.checked.prog Tryz.f3 Rows.wellformedChecksRow.domain false (w.forCall tape i).memory i.args /\ laidMet Tryz.prog Rows.wellformedChecksRow.laid (w.forCall tape i).memory) /\ sizedMet enc Tryz.checked.prog Tryz.f3 (OpenSpec.ofChange Rows.wellformedChecksSpec) false (w.forCall tape i).memory i.args) /\ ({ modest := false } : Assume).holds Tryz.checked.prog (lone (Frame.enter Tryz.checked.prog 3 i.args .normal) [] (w.forCall tape i)) :=
 (ChangeSpec.witness_at (s := Rows.wellformedChecksSpec) (conds := Rows.wellformedChecksRow.domain) (fn := Tryz.f3) (f := 3) (enc := enc) (C := Tryz.checked) (os := os) (X := fun w _ => laidMet Tryz.prog Rows.wellformedChecksRow.laid w) false (laidW os) #[.agg #[.int .i64 0, .int .i64 0, .int .i64 0, .int .i64 0, .bool false, .int .u64 0, .slice none 0 0, .string ⟨#[]⟩, .slice none 0 0, .int .u64 0, .slice none 0 0, .slice none 0 0], .string ⟨#[]⟩] 8 rfl (by kernel_rfl) (by kernel_rfl) (by kernel_rfl) (by kernel_rfl) (by kernel_rfl) (laidW_met os _))
set_option maxHeartbeats 4000000 in
set_option maxRecDepth 100000 in
theorem wellformedChecks_lifted (os : Os) (started : os.Started) (H : Type) (enc : TypeId × Value -> H) :
  ReturnsInHanded {} Tryz.checked os 3 .any (fun w args => (Rows.wellformedChecksSpec.pre enc Tryz.prog Tryz.f3 Rows.wellformedChecksRow.domain false w args /\ laidMet Tryz.prog Rows.wellformedChecksRow.laid w) /\ sizedMet enc Tryz.prog Tryz.f3 (OpenSpec.ofChange Rows.wellformedChecksSpec) false w args)
   (Rows.wellformedChecksSpec.post enc Tryz.prog Tryz.f3 false true false false) := by
 refine returnsInHanded_of_change_and (C := Tryz.checked) (X := fun w _ => laidMet Tryz.prog Rows.wellformedChecksRow.laid w) (fun _ _ _ hh h => h.of_heap hh) Tryz.own started (by kernel_rfl) Tryz.func3
  (wellformedChecks_witness os H enc) ?_
 intro W base args ds gs before hval0 hW _ _ hLd _
 have hval : ∀ (j : Nat) t v, Tryz.f3.params[j]? = some t -> args[j]? = some v -> Value.okWide Tryz.prog W .any base t v := hval0
 have hW' := hW
 obtain ⟨p, q, hA0, hV, rfl, hfz, hnd⟩ := hW
 have hA : DataW.TrodAll enc Tryz.prog W 0 (fun _ => true) true Tryz.f3.params.toList args.toList ds p := hA0
 rw [Tryz.params3] at hA hval
 obtain ⟨v0, v1, d0, d1, p0, p1, rfl, rfl, rfl, h0, h1⟩ := trodAll_two hA
 obtain ⟨rfl, rfl⟩ := trodVars_none hV
 obtain ⟨cs0, rfl, hsz0⟩ := okWide_struct Tryz.underlying32 (hval 0 32 v0 rfl rfl)
 obtain ⟨x1, rfl, rfl, rfl, w1⟩ := open_string Tryz.underlying9 (hval 1 9 v1 rfl rfl) h1
 clear hA0 hval0
 simp only [List.append_nil] at hW'
 have hL0 : FwOk W ([] : FWs) := fun i p hp => by simp at hp
 obtain ⟨fuel0, h0⟩ := h0
 obtain ⟨hwf0, hop0⟩ := zqS law_tys fuel0 32 _ d0 p0 rfl h0
 obtain ⟨L0, xs0, hL0a, hd0, hone0, hr0⟩ := hop0 _ hL0
 obtain ⟨c0, hs0⟩ := zrb fuel0 d0 hwf0
 have hb1 : (⟨x1.data.toList.toArray⟩ : ByteArray) = x1 := by cases x1; simp
 have hcall := zxB (P := Tryz.prog) (W := W) (X := axX) (l := axG) zAC law_orders (law_rowsV hLd) (f := 3) (args := [.agg (svD Tryz.prog fuel0 32 d0), zrz x1.data.toList]) (xs := [.agg xs0, .str (nm x1.data.toList)]) (vs := [.agg cs0, .string x1]) hL0a
  (.cons (.agg hr0) (.cons (.cv rfl) (.nil))) (by simp only [denL, den, hd0, nm, List.map_map]; first | rfl | (simp [List.map_map, Function.comp_def, Value.cells, hb1]; done)) ((zgi c0 (nm x1.data.toList)).arg (.cons (.agg hs0) (.cons (.refl _) (.nil))))
 refine hcall.mono fun e W' ⟨he, hw⟩ => ?_
 subst he
 exact ⟨_, rfl, zvT hW' rfl rfl law_laid law_rows law_full (by rw [Tryz.params3]; decide +kernel) ⟨rfl, rfl, rfl⟩ rfl Tryz.underlying4 hw⟩
theorem wellformedChecks_row : Rows.WellformedChecksSaid :=
 OpenClaim.holds_of_wide 3 Tryz.f3 rfl rfl rfl rfl rfl rfl rfl ⟨rfl, rfl, rfl, rfl, rfl⟩ rfl rfl rfl rfl rfl (by kernel_rfl) Tryz.func3 (by kernel_rfl)
  (of_decide_eq_true (by kernel_rfl)) (by unfold Func.isWrapper; first | (rw [if_pos (by decide +kernel)]; kernel_rfl) | (rw [if_neg (by decide +kernel)]; exact ⟨rfl, rfl⟩))
  (fun os started H enc _ => wellformedChecks_lifted os started H enc)
theorem law_noStand_q : Tryz.pinned.checked.prog.wantsStandIn 32 = false := by kernel_rfl
theorem law_noStand_s : Tryz.pinned.checked.prog.wantsStandIn 9 = false := by kernel_rfl
theorem wellformedChecks_card : Rows.WellformedChecksCardSaid :=
 Claim7.holds_tied_plain_at .later [] [.widerDeep] true (true, "64ae72e54e9aad23921aa2f101828d75d528092f347ccf741e85854b41aa24ed") false
  wellformedChecks_row (fun _ h => by cases h) (by kernel_rfl) (fun _ h => by cases h) wellformedChecks_row_tie rfl ⟨rfl, rfl⟩ (by kernel_rfl) rfl
  (fun f fn hf hfn => by
   obtain rfl : f = 3 := Option.some.inj ((show Tryz.prog.funcNamed "partywall/partywalllaw10.WellformedChecks" = some 3 by kernel_rfl).symm.trans hf) |>.symm
   obtain rfl : fn = Tryz.f3 := (Option.some.inj (Tryz.func3.symm.trans hfn)).symm
   exact ⟨by kernel_rfl, fun j t ht => by
    rw [Tryz.params3] at ht
    match j, ht with
    | 0, ht =>
     have ht3 : t = 32 := by simpa using ht.symm
     subst ht3
     exact law_noStand_q
    | 1, ht =>
     have ht3 : t = 9 := by simpa using ht.symm
     subst ht3
     exact law_noStand_s
    | n + 2, ht => simp at ht⟩)
  (by kernel_rfl)
#print axioms wellformedChecks_card
end Go.Proofs.YtlfhikphdkpfgaaGreatDoor
