import Derived.Test.YtkjdghlefdmjaaaDoorTs
import Derived.Test.YtkjdghlefdmjaaaDoorTt
import Derived.Test.YtkjdghlefdmjaaaDoorAw
import Derived.Test.YtkjdghlefdmjaaaDoorGh
import Derived.Test.YtkjdghlefdmjaaaDoorCards
import Derived.Test.YtkjdghlefdmjaaaDoorTie
import Derived.ProofKit
import Derived.LaidLaws
import Derived.Handed
import Derived.SevenTiedAt
set_option linter.unusedSimpArgs false
set_option linter.unusedVariables false
namespace Go.Proofs.YtkjdghlefdmjaaaDoor
open Go Go.Cx Go.ChangeShapes Go.WideShapes Go.ChangeAt Go.RowKit
open Go.ChangeMaps (open_string shut_string)
theorem Tryd.own : ownKnob Tryd.prog.godebug = none := by kernel_rfl
theorem law_orders : Tryd.prog.follows .mixedOrders = true := by kernel_rfl
theorem law_laid : laidOutB Tryd.prog = true := by kernel_rfl
theorem law_rows : mapsRowed Tryd.prog = true := by kernel_rfl
theorem law_full : ((List.range Tryd.prog.types.size).all fun t => match Tryd.prog.underlying t with | some (.slice e) => decide (0 < Tryd.prog.cellsOf e) | _ => true) = true := by kernel_rfl
theorem law_tys : goodTys Tryd.prog [22, 32, 3, 4, 9, 2] = true := by kernel_rfl
theorem rowE (u : TypeId) (h : Tryd.prog.typeName? 3 u = some "*errors.errorString") : u = 99 :=
 typeName_ptr_named (nm := "errors.errorString") (by rw [starE]; kernel_rfl) (by kernel_rfl) (by decide) u (by rw [starE]; exact h)
theorem law_rowsL {W : World} (h : laidMet Tryd.prog Rows.tokenChecksRow.laid W) : ∃ L0 : FWs, FwOk W L0 ∧ RowsL W L0 axG := by
 obtain ⟨b0, hF, tyE, frE, hE⟩ := row_sentinelL (P := Tryd.prog) (n := "strconv.ErrRange") (g := 1) (tp := 99) (te := 101) (ts := 9) (nm := "*errors.errorString") (text := [118, 97, 108, 117, 101, 32, 111, 117, 116, 32, 111, 102, 32, 114, 97, 110, 103, 101]) (by kernel_rfl) (by kernel_rfl) Tryd.underlying44 rowE Tryd.underlying99 Tryd.underlying101 rfl rfl Tryd.underlying9 (by kernel_rfl) (by kernel_rfl) (reads2 h (.tail _ (.tail _ (.tail _ (.head _)))))
 exact ⟨[(b0, [])], hF, rowsL_cons (by decide) (by kernel_rfl) (by decide) ⟨[.iface 99 (.pointer (some ⟨b0.blk, b0.off, none⟩))], tyE, frE, rfl, hE⟩ (rowsL_nil)⟩
noncomputable def laidW (os : Os) : World :=
 let w0 := World.holding Tryd.prog os ⟨#[], #[], []⟩
 let n0 := w0.heap.size
 let h0 := w0.heap
 let h1 := h0.modify 4 fun
  | .cells _ t frozen => .cells #[.int .u8 0, .int .u8 1, .int .u8 28, .int .u8 2, .int .u8 29, .int .u8 14, .int .u8 24, .int .u8 3, .int .u8 30, .int .u8 22, .int .u8 20, .int .u8 15, .int .u8 25, .int .u8 17, .int .u8 4, .int .u8 8, .int .u8 31, .int .u8 27, .int .u8 13, .int .u8 23, .int .u8 21, .int .u8 19, .int .u8 16, .int .u8 7, .int .u8 26, .int .u8 12, .int .u8 18, .int .u8 6, .int .u8 11, .int .u8 5, .int .u8 10, .int .u8 9] t frozen
  | o => o
 let h2 := h1.modify 5 fun
  | .cells _ t frozen => .cells #[.int .u8 0, .int .u8 1, .int .u8 56, .int .u8 2, .int .u8 57, .int .u8 49, .int .u8 28, .int .u8 3, .int .u8 61, .int .u8 58, .int .u8 42, .int .u8 50, .int .u8 38, .int .u8 29, .int .u8 17, .int .u8 4, .int .u8 62, .int .u8 47, .int .u8 59, .int .u8 36, .int .u8 45, .int .u8 43, .int .u8 51, .int .u8 22, .int .u8 53, .int .u8 39, .int .u8 33, .int .u8 30, .int .u8 24, .int .u8 18, .int .u8 12, .int .u8 5, .int .u8 63, .int .u8 55, .int .u8 48, .int .u8 27, .int .u8 60, .int .u8 41, .int .u8 37, .int .u8 16, .int .u8 46, .int .u8 35, .int .u8 44, .int .u8 21, .int .u8 52, .int .u8 32, .int .u8 23, .int .u8 11, .int .u8 54, .int .u8 26, .int .u8 40, .int .u8 15, .int .u8 34, .int .u8 20, .int .u8 31, .int .u8 10, .int .u8 25, .int .u8 14, .int .u8 19, .int .u8 9, .int .u8 13, .int .u8 8, .int .u8 7, .int .u8 6] t frozen
  | o => o
 let h3 := h2.modify 3 fun
  | .cells _ t frozen => .cells #[.int .u64 1, .int .u64 10, .int .u64 100, .int .u64 1000, .int .u64 10000, .int .u64 100000, .int .u64 1000000, .int .u64 10000000, .int .u64 100000000, .int .u64 1000000000, .int .u64 10000000000, .int .u64 100000000000, .int .u64 1000000000000, .int .u64 10000000000000, .int .u64 100000000000000, .int .u64 1000000000000000, .int .u64 10000000000000000, .int .u64 100000000000000000, .int .u64 1000000000000000000, .int .u64 10000000000000000000] t frozen
  | o => o
 let h4 := h3.modify 1 fun
  | .cells _ t frozen => .cells #[.iface 99 (.pointer (some ⟨n0 + 0, 0, none⟩))] t frozen
  | o => o
 let h5 := h4.modify 0 fun
  | .cells _ t frozen => .cells #[.iface 99 (.pointer (some ⟨n0 + 1, 0, none⟩))] t frozen
  | o => o
 let h6 := h5.push (.cells #[.string ⟨#[118, 97, 108, 117, 101, 32, 111, 117, 116, 32, 111, 102, 32, 114, 97, 110, 103, 101]⟩] 101 (0, 0))
 let h7 := h6.push (.cells #[.string ⟨#[105, 110, 118, 97, 108, 105, 100, 32, 115, 121, 110, 116, 97, 120]⟩] 101 (0, 0))
 { w0 with heap := h7 }
theorem laidW_met (os : Os) (args : Array Value) : laidMet Tryd.prog Rows.tokenChecksRow.laid ((laidW os).forCall (fun _ _ => 0) ⟨#[], args, []⟩).memory :=
 laidMet_of_run' 8 (by kernel_rfl) (by kernel_rfl)
set_option maxHeartbeats 4000000 in
set_option maxRecDepth 100000 in
theorem tokenChecks_witness (os : Os) (H : Type) (enc : TypeId × Value → H) : ∃ (w : World) (tape : Tape) (i : Input), w.os = os ∧ (w.forCall tape i).Shaped Tryd.checked.prog ∧ i.vars = [] ∧ Input.okWide Tryd.checked.prog (w.forCall tape i) .any w.heap.size 3 i ∧
   ((Rows.tokenChecksSpec.pre enc Tryd.checked.prog Tryd.f3 Rows.tokenChecksRow.domain false (w.forCall tape i).memory i.args ∧ laidMet Tryd.prog Rows.tokenChecksRow.laid (w.forCall tape i).memory) ∧ sizedMet enc Tryd.checked.prog Tryd.f3 (OpenSpec.ofChange Rows.tokenChecksSpec) false (w.forCall tape i).memory i.args) ∧ ({ modest := false } : Assume).holds Tryd.checked.prog (lone (Frame.enter Tryd.checked.prog 3 i.args .normal) [] (w.forCall tape i)) :=
 (ChangeSpec.witness_at (s := Rows.tokenChecksSpec) (conds := Rows.tokenChecksRow.domain) (fn := Tryd.f3) (f := 3) (enc := enc) (C := Tryd.checked) (os := os) (X := fun w _ => laidMet Tryd.prog Rows.tokenChecksRow.laid w) false (laidW os) #[.slice none 0 0, .slice none 0 0, .int .i64 0, .int .i64 0] 8 rfl (by kernel_rfl) (by kernel_rfl) (by kernel_rfl) (by kernel_rfl) (by kernel_rfl) (laidW_met os _))
set_option maxHeartbeats 4000000 in
set_option maxRecDepth 100000 in
theorem tokenChecks_lifted (os : Os) (started : os.Started) (H : Type) (enc : TypeId × Value → H) :
  ReturnsInHanded {} Tryd.checked os 3 .any (fun w args => (Rows.tokenChecksSpec.pre enc Tryd.prog Tryd.f3 Rows.tokenChecksRow.domain false w args ∧ laidMet Tryd.prog Rows.tokenChecksRow.laid w) ∧ sizedMet enc Tryd.prog Tryd.f3 (OpenSpec.ofChange Rows.tokenChecksSpec) false w args)
   (Rows.tokenChecksSpec.post enc Tryd.prog Tryd.f3 false true false false) := by
 refine returnsInHanded_of_change_and (C := Tryd.checked) (X := fun w _ => laidMet Tryd.prog Rows.tokenChecksRow.laid w) (fun _ _ _ hh h => h.of_heap hh) Tryd.own started (by kernel_rfl) Tryd.func3
  (tokenChecks_witness os H enc) ?_
 intro W base args ds gs before hval0 hW _ _ hLd _
 have hval : ∀ (j : Nat) t v, Tryd.f3.params[j]? = some t → args[j]? = some v → Value.okWide Tryd.prog W .any base t v := hval0
 have hW' := hW
 obtain ⟨p, q, hA0, hV, rfl, hfz, hnd⟩ := hW
 have hA : DataW.TrodAll enc Tryd.prog W 0 (fun _ => true) true Tryd.f3.params.toList args.toList ds p := hA0
 rw [Tryd.params3] at hA hval
 obtain ⟨v0, v1, v2, v3, d0, d1, d2, d3, p0, p1, p2, p3, rfl, rfl, rfl, h0, h1, h2, h3⟩ := trodAll_four hA
 obtain ⟨rfl, rfl⟩ := trodVars_none hV
 obtain ⟨sa0, sl0, sc0, rfl⟩ := okWide_slice Tryd.underlying22 (hval 0 22 v0 rfl rfl)
 obtain ⟨sa1, sl1, sc1, rfl⟩ := okWide_slice Tryd.underlying22 (hval 1 22 v1 rfl rfl)
 obtain ⟨x2, rfl, rfl, rfl, w2⟩ := open_int Tryd.underlying2 (hval 2 2 v2 rfl rfl) h2
 obtain ⟨x3, rfl, rfl, rfl, w3⟩ := open_int Tryd.underlying2 (hval 3 2 v3 rfl rfl) h3
 clear hA0 hval0
 simp only [List.append_nil] at hW'
 obtain ⟨L0, hF0, hR0⟩ := law_rowsL hLd
 obtain ⟨fuel0, h0⟩ := h0
 obtain ⟨hwf0, hop0⟩ := opens_trod law_tys fuel0 22 _ d0 p0 rfl h0
 obtain ⟨K0, xs0, hK0, hd0, hone0, hr0⟩ := hop0 _ hF0
 have hR0 := rowsL_mono (L' := K0) hR0
 obtain ⟨c0, w0, l0, hs0, he0⟩ := open_toks fuel0 d0 hwf0
 obtain ⟨fuel1, h1⟩ := h1
 obtain ⟨hwf1, hop1⟩ := opens_trod law_tys fuel1 22 _ d1 p1 rfl h1
 obtain ⟨K1, xs1, hK1, hd1, hone1, hr1⟩ := hop1 _ hK0
 have hd0 := denL_mono (envW_le _ K1) _ _ hd0
 have hr0 := hr0.mono (roW_le _ K1) (DEnv.le.refl _)
 have hR0 := rowsL_mono (L' := K1) hR0
 obtain ⟨c1, w1, l1, hs1, he1⟩ := open_toks fuel1 d1 hwf1
 rw [hs0] at hr0
 obtain ⟨y0, rfl, hv0⟩ := repL_one hr0
 rw [hs1] at hr1
 obtain ⟨y1, rfl, hv1⟩ := repL_one hr1
 have hcall := d_callsL (P := Tryd.prog) (W := W) (X := axX) (l := axG) ax_ok law_orders hR0 (f := 3) (args := [w0, w1, ai x2, ai x3]) (xs := [y0, y1, .int .i64 x2, .int .i64 x3]) (vs := [.slice sa0 sl0 sc0, .slice sa1 sl1 sc1, .int .i64 x2, .int .i64 x3]) hK1
  (.cons hv0 (.cons hv1 (.cons (.cv rfl) (.cons (.cv rfl) (.nil))))) (denL_one hd0 (denL_one hd1 (denL_int (denL_int (rfl))))) ((TokenChecks_d c0 c1 x2 x3 l0 l1 (ax_d rfl)).arg (.cons he0 (.cons he1 (.cons (.refl _) (.cons (.refl _) (.nil))))))
 refine hcall.mono fun e W' ⟨he, hw⟩ => ?_
 subst he
 exact ⟨_, rfl, post_law hW' rfl rfl law_laid law_rows law_full (by rw [Tryd.params3]; decide +kernel) ⟨rfl, rfl, rfl⟩ rfl Tryd.underlying4 hw⟩
theorem tokenChecks_row : Rows.TokenChecksSaid :=
 OpenClaim.holds_of_wide 3 Tryd.f3 rfl rfl rfl rfl rfl rfl rfl ⟨rfl, rfl, rfl, rfl, rfl⟩ rfl rfl rfl rfl rfl (by kernel_rfl) Tryd.func3 (by kernel_rfl)
  (of_decide_eq_true (by kernel_rfl)) (by unfold Func.isWrapper; first | (rw [if_pos (by decide +kernel)]; kernel_rfl) | (rw [if_neg (by decide +kernel)]; exact ⟨rfl, rfl⟩))
  (fun os started H enc _ => tokenChecks_lifted os started H enc)
theorem law_noStand_l64 : Tryd.pinned.checked.prog.wantsStandIn 2 = false := by kernel_rfl
theorem law_noStand_toks : Tryd.pinned.checked.prog.wantsStandIn 22 = false := by kernel_rfl
theorem tokenChecks_card : Rows.TokenChecksCardSaid :=
 Claim7.holds_tied_plain_at .later [] [.data, .data, .data, .sentinel, .sentinel] true (true, "a88313f990c520ab6da0e43eceb1a1b17958f4f4beef684bd6eaf3abab3d951a") true
  tokenChecks_row (fun _ h => by cases h) (by kernel_rfl) (fun _ h => by cases h) tokenChecks_row_tie rfl ⟨rfl, rfl⟩ (by kernel_rfl) rfl
  (fun f fn hf hfn => by
   obtain rfl : f = 3 := Option.some.inj ((show Tryd.prog.funcNamed "partywall/partywalllaw07.TokenChecks" = some 3 by kernel_rfl).symm.trans hf) |>.symm
   obtain rfl : fn = Tryd.f3 := (Option.some.inj (Tryd.func3.symm.trans hfn)).symm
   exact ⟨by kernel_rfl, fun j t ht => by
    rw [Tryd.params3] at ht
    match j, ht with
    | 0, ht =>
     have ht3 : t = 22 := by simpa using ht.symm
     subst ht3
     exact law_noStand_toks
    | 1, ht =>
     have ht3 : t = 22 := by simpa using ht.symm
     subst ht3
     exact law_noStand_toks
    | 2, ht =>
     have ht3 : t = 2 := by simpa using ht.symm
     subst ht3
     exact law_noStand_l64
    | 3, ht =>
     have ht3 : t = 2 := by simpa using ht.symm
     subst ht3
     exact law_noStand_l64
    | n + 4, ht => simp at ht⟩)
  (by kernel_rfl)
#print axioms tokenChecks_card
end Go.Proofs.YtkjdghlefdmjaaaDoor
