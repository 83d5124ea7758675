/-
  The law BoundGrows answers true. Conditions: the listed package variables hold what the program's text lays (tied by the card).
-/
import Derived.Test.YtnbpkbjhekgfoaaGreatDoorNr
import Derived.Test.YtnbpkbjhekgfoaaGreatDoorNy
import Derived.Test.YtnbpkbjhekgfoaaGreatDoorBoundGrowsFd
import Derived.Test.YtnbpkbjhekgfoaaGreatDoorBoundGrowsFe
import Derived.Test.YtnbpkbjhekgfoaaGreatDoorBoundGrowsFf
import Derived.Test.YtnbpkbjhekgfoaaGreatDoorCards
import Derived.Test.YtnbpkbjhekgfoaaGreatDoorTie
import Derived.ProofKit
import Derived.LaidLaws
import Derived.Handed
import Derived.SevenTiedAt
set_option linter.unusedSimpArgs false
set_option linter.unusedVariables false
namespace Go.Proofs.YtnbpkbjhekgfoaaGreatDoor
open Go Go.Cx Go.ChangeShapes Go.WideShapes Go.ChangeAt Go.RowKit
theorem Tryz.own : ownKnob Tryz.prog.godebug = none := by kernel_rfl
theorem Tryz.mixed : Tryz.prog.follows .mixedOrders = true := by kernel_rfl
noncomputable def laidW (os : Os) : World :=
 let w0 := World.holding Tryz.prog os ⟨#[], #[], []⟩
 let n0 := w0.heap.size
 let h0 := w0.heap
 let h1 := h0.modify 4 fun
  | .cells _ t frozen => .cells #[.int .u8 0, .int .u8 1, .int .u8 28, .int .u8 2, .int .u8 29, .int .u8 14, .int .u8 24, .int .u8 3, .int .u8 30, .int .u8 22, .int .u8 20, .int .u8 15, .int .u8 25, .int .u8 17, .int .u8 4, .int .u8 8, .int .u8 31, .int .u8 27, .int .u8 13, .int .u8 23, .int .u8 21, .int .u8 19, .int .u8 16, .int .u8 7, .int .u8 26, .int .u8 12, .int .u8 18, .int .u8 6, .int .u8 11, .int .u8 5, .int .u8 10, .int .u8 9] t frozen
  | o => o
 let h2 := h1.modify 5 fun
  | .cells _ t frozen => .cells #[.int .u8 0, .int .u8 1, .int .u8 56, .int .u8 2, .int .u8 57, .int .u8 49, .int .u8 28, .int .u8 3, .int .u8 61, .int .u8 58, .int .u8 42, .int .u8 50, .int .u8 38, .int .u8 29, .int .u8 17, .int .u8 4, .int .u8 62, .int .u8 47, .int .u8 59, .int .u8 36, .int .u8 45, .int .u8 43, .int .u8 51, .int .u8 22, .int .u8 53, .int .u8 39, .int .u8 33, .int .u8 30, .int .u8 24, .int .u8 18, .int .u8 12, .int .u8 5, .int .u8 63, .int .u8 55, .int .u8 48, .int .u8 27, .int .u8 60, .int .u8 41, .int .u8 37, .int .u8 16, .int .u8 46, .int .u8 35, .int .u8 44, .int .u8 21, .int .u8 52, .int .u8 32, .int .u8 23, .int .u8 11, .int .u8 54, .int .u8 26, .int .u8 40, .int .u8 15, .int .u8 34, .int .u8 20, .int .u8 31, .int .u8 10, .int .u8 25, .int .u8 14, .int .u8 19, .int .u8 9, .int .u8 13, .int .u8 8, .int .u8 7, .int .u8 6] t frozen
  | o => o
 let h3 := h2.modify 3 fun
  | .cells _ t frozen => .cells #[.int .u64 1, .int .u64 10, .int .u64 100, .int .u64 1000, .int .u64 10000, .int .u64 100000, .int .u64 1000000, .int .u64 10000000, .int .u64 100000000, .int .u64 1000000000, .int .u64 10000000000, .int .u64 100000000000, .int .u64 1000000000000, .int .u64 10000000000000, .int .u64 100000000000000, .int .u64 1000000000000000, .int .u64 10000000000000000, .int .u64 100000000000000000, .int .u64 1000000000000000000, .int .u64 10000000000000000000] t frozen
  | o => o
 let h4 := h3.modify 2 fun
  | .cells _ t frozen => .cells #[.iface 563 (.pointer (some ⟨n0 + 0, 0, none⟩))] t frozen
  | o => o
 let h5 := h4.modify 1 fun
  | .cells _ t frozen => .cells #[.iface 563 (.pointer (some ⟨n0 + 1, 0, none⟩))] t frozen
  | o => o
 let h6 := h5.modify 0 fun
  | .cells _ t frozen => .cells #[.string ⟨#[99, 111, 117, 110, 116]⟩, .string ⟨#[115, 117, 109]⟩, .string ⟨#[109, 105, 110]⟩, .string ⟨#[109, 97, 120]⟩, .string ⟨#[102, 105, 114, 115, 116]⟩, .string ⟨#[108, 97, 115, 116]⟩] t frozen
  | o => o
 let h7 := h6.push (.cells #[.string ⟨#[118, 97, 108, 117, 101, 32, 111, 117, 116, 32, 111, 102, 32, 114, 97, 110, 103, 101]⟩] 565 (0, 0))
 let h8 := h7.push (.cells #[.string ⟨#[105, 110, 118, 97, 108, 105, 100, 32, 115, 121, 110, 116, 97, 120]⟩] 565 (0, 0))
 { w0 with heap := h8 }
theorem laidW_met (os : Os) (args : Array Value) : laidMet Tryz.prog Rows.boundGrowsRow.laid ((laidW os).forCall (fun _ _ => 0) ⟨#[], args, []⟩).memory :=
 laidMet_of_run' 8 (by kernel_rfl) (by kernel_rfl)
set_option maxHeartbeats 4000000 in
set_option maxRecDepth 100000 in
theorem boundGrows_witness (os : Os) (H : Type) (enc : TypeId × Value → H) : ∃ (w : World) (tape : Tape) (i : Input), w.os = os ∧ (w.forCall tape i).Shaped Tryz.checked.prog ∧ i.vars = [] ∧ Input.okWide Tryz.checked.prog (w.forCall tape i) .any w.heap.size 3 i ∧
   ((Rows.boundGrowsSpec.pre enc Tryz.checked.prog Tryz.f3 Rows.boundGrowsRow.domain false (w.forCall tape i).memory i.args ∧ laidMet Tryz.prog Rows.boundGrowsRow.laid (w.forCall tape i).memory) ∧ sizedMet enc Tryz.checked.prog Tryz.f3 (OpenSpec.ofChange Rows.boundGrowsSpec) false (w.forCall tape i).memory i.args) ∧ ({ modest := false } : Assume).holds Tryz.checked.prog (lone (Frame.enter Tryz.checked.prog 3 i.args .normal) [] (w.forCall tape i)) :=
 (ChangeSpec.witness_at (s := Rows.boundGrowsSpec) (conds := Rows.boundGrowsRow.domain) (fn := Tryz.f3) (f := 3) (enc := enc) (C := Tryz.checked) (os := os) (X := fun w _ => laidMet Tryz.prog Rows.boundGrowsRow.laid w) false (laidW os) #[.int .i64 0, .int .i64 0, .int .i64 0] 8 rfl (by kernel_rfl) (by kernel_rfl) (by kernel_rfl) (by kernel_rfl) (by kernel_rfl) (laidW_met os _))
theorem law_orders : Tryz.prog.follows .mixedOrders = true := Tryz.mixed
theorem law_laid : laidOutB Tryz.prog = true := boundGrows_k0
theorem law_rows : mapsRowed Tryz.prog = true := boundGrows_k1
theorem law_full : ((List.range Tryz.prog.types.size).all fun t => match Tryz.prog.underlying t with | some (.slice e) => decide (0 < Tryz.prog.cellsOf e) | _ => true) = true := by kernel_rfl
set_option maxHeartbeats 4000000 in
set_option maxRecDepth 100000 in
theorem boundGrows_lifted (os : Os) (started : os.Started) (H : Type) (enc : TypeId × Value → H) :
  ReturnsInHanded {} Tryz.checked os 3 .any (fun w args => (Rows.boundGrowsSpec.pre enc Tryz.prog Tryz.f3 Rows.boundGrowsRow.domain false w args ∧ laidMet Tryz.prog Rows.boundGrowsRow.laid w) ∧ sizedMet enc Tryz.prog Tryz.f3 (OpenSpec.ofChange Rows.boundGrowsSpec) false w args)
   (Rows.boundGrowsSpec.post enc Tryz.prog Tryz.f3 false true false false) := by
 refine returnsInHanded_of_change_and (C := Tryz.checked) (X := fun w _ => laidMet Tryz.prog Rows.boundGrowsRow.laid w) (fun _ _ _ hh h => h.of_heap hh) Tryz.own started (by kernel_rfl) Tryz.func3
  (boundGrows_witness os H enc) ?_
 intro W base args ds gs before hval0 hW _ _ hL _
 have hval : ∀ (j : Nat) t v, Tryz.f3.params[j]? = some t → args[j]? = some v → Value.okWide Tryz.prog W .any base t v := hval0
 have hW' := hW
 obtain ⟨p, q, hA0, hV, rfl, hfz, hnd⟩ := hW
 have hA : DataW.TrodAll enc Tryz.prog W 0 (fun _ => true) true Tryz.f3.params.toList args.toList ds p := hA0
 rw [Tryz.params3] at hA hval
 obtain ⟨v0, v1, v2, d0, d1, d2, p0, p1, p2, rfl, rfl, rfl, h0, h1, h2⟩ := trodAll_three hA
 obtain ⟨rfl, rfl⟩ := trodVars_none hV
 obtain ⟨x0, rfl, rfl, rfl, w0⟩ := open_int Tryz.underlying3 (hval 0 3 v0 rfl rfl) h0
 obtain ⟨x1, rfl, rfl, rfl, w1⟩ := open_int Tryz.underlying3 (hval 1 3 v1 rfl rfl) h1
 obtain ⟨x2, rfl, rfl, rfl, w2⟩ := open_int Tryz.underlying3 (hval 2 3 v2 rfl rfl) h2
 clear hA0 hval0
 simp only [List.append_nil] at hW'
 have hcall := d_calls (P := Tryz.prog) (W := W) (X := bkX) (l := []) bk_ok law_orders rowsV_nil (f := 3) (args := [ci x0, ci x1, ci x2]) (xs := [.int .i64 x0, .int .i64 x1, .int .i64 x2]) (vs := [.int .i64 x0, .int .i64 x1, .int .i64 x2]) (L := []) (fun i p hp => by simp at hp)
  (.cons (.cv rfl) (.cons (.cv rfl) (.cons (.cv rfl) .nil))) (by simp only [denL, den]; rfl) (BoundGrows_d BoundKnown_d x0 x1 x2)
 refine hcall.mono fun e W' ⟨he, hw⟩ => ?_
 subst he
 exact ⟨_, rfl, post_law hW' rfl rfl law_laid law_rows law_full (by rw [Tryz.params3]; decide +kernel) ⟨rfl, rfl, rfl⟩ rfl Tryz.underlying4 hw⟩
theorem boundGrows_row : Rows.BoundGrowsSaid :=
 OpenClaim.holds_of_wide 3 Tryz.f3 rfl rfl rfl rfl rfl rfl rfl ⟨rfl, rfl, rfl, rfl, rfl⟩ rfl rfl rfl rfl rfl (by kernel_rfl) Tryz.func3 boundGrows_closed
  (of_decide_eq_true (by kernel_rfl)) (by unfold Func.isWrapper; first | (rw [if_pos (by decide +kernel)]; kernel_rfl) | (rw [if_neg (by decide +kernel)]; exact ⟨rfl, rfl⟩))
  (fun os started H enc _ => boundGrows_lifted os started H enc)
theorem law_noStand_i64 : Tryz.pinned.checked.prog.wantsStandIn 3 = false := by kernel_rfl
theorem boundGrows_card : Rows.BoundGrowsCardSaid :=
 Claim7.holds_tied_plain_at .later [] [.data, .data, .data, .sentinel, .sentinel, .widerDeep] true (true, "d98c98e01dbb5624f45ecd20c1016afff54df86785343c7c5bdc12420854bb82") true
  boundGrows_row (fun _ h => by cases h) (by kernel_rfl) (fun _ h => by cases h) boundGrows_row_tie rfl ⟨rfl, rfl⟩ boundGrows_main rfl
  (fun f fn hf hfn => by
   obtain rfl : f = 3 := Option.some.inj ((show Tryz.prog.funcNamed "partywall/partywalllaw38.BoundGrows" = some 3 by kernel_rfl).symm.trans hf) |>.symm
   obtain rfl : fn = Tryz.f3 := (Option.some.inj (Tryz.func3.symm.trans hfn)).symm
   exact ⟨boundGrows_looks, fun j t ht => by
    rw [Tryz.params3] at ht
    match j, ht with
    | 0, ht =>
     have ht3 : t = 3 := by simpa using ht.symm
     subst ht3
     exact law_noStand_i64
    | 1, ht =>
     have ht3 : t = 3 := by simpa using ht.symm
     subst ht3
     exact law_noStand_i64
    | 2, ht =>
     have ht3 : t = 3 := by simpa using ht.symm
     subst ht3
     exact law_noStand_i64
    | n + 3, ht => simp at ht⟩)
  boundGrows_goes
#print axioms boundGrows_card
end Go.Proofs.YtnbpkbjhekgfoaaGreatDoor
