/-
  The law VariantKnown answers true. Conditions: the listed package variables hold what the program's text lays (tied by the card).
-/
import Derived.Test.YtelgaffeihgffaaGreatDoorVariantKnownRun
import Derived.Test.YtelgaffeihgffaaGreatDoorVariantKnownFd
import Derived.Test.YtelgaffeihgffaaGreatDoorVariantKnownFe
import Derived.Test.YtelgaffeihgffaaGreatDoorVariantKnownFf
import Derived.Test.YtelgaffeihgffaaGreatDoorCards
import Derived.Test.YtelgaffeihgffaaGreatDoorTie
import Derived.ProofKit
import Derived.LaidLaws
import Derived.Handed
import Derived.SevenTiedAt
set_option linter.unusedSimpArgs false
set_option linter.unusedVariables false
namespace Go.Proofs.YtelgaffeihgffaaGreatDoor
open Go Go.Cx Go.ChangeShapes Go.WideShapes Go.ChangeAt Go.RowKit

theorem Tryz.own : ownKnob Tryz.prog.godebug = none := by kernel_rfl
theorem Tryz.mixed : Tryz.prog.follows .mixedOrders = true := by kernel_rfl

noncomputable def laidW (os : Os) : World :=
  let w0 := World.holding Tryz.prog os ⟨#[], #[], []⟩
  let n0 := w0.heap.size
  let h0 := w0.heap
  let h1 := h0.modify 5 fun
    | .cells _ t frozen => .cells #[.int .u8 0, .int .u8 1, .int .u8 28, .int .u8 2, .int .u8 29, .int .u8 14, .int .u8 24, .int .u8 3, .int .u8 30, .int .u8 22, .int .u8 20, .int .u8 15, .int .u8 25, .int .u8 17, .int .u8 4, .int .u8 8, .int .u8 31, .int .u8 27, .int .u8 13, .int .u8 23, .int .u8 21, .int .u8 19, .int .u8 16, .int .u8 7, .int .u8 26, .int .u8 12, .int .u8 18, .int .u8 6, .int .u8 11, .int .u8 5, .int .u8 10, .int .u8 9] t frozen
    | o => o
  let h2 := h1.modify 6 fun
    | .cells _ t frozen => .cells #[.int .u8 0, .int .u8 1, .int .u8 56, .int .u8 2, .int .u8 57, .int .u8 49, .int .u8 28, .int .u8 3, .int .u8 61, .int .u8 58, .int .u8 42, .int .u8 50, .int .u8 38, .int .u8 29, .int .u8 17, .int .u8 4, .int .u8 62, .int .u8 47, .int .u8 59, .int .u8 36, .int .u8 45, .int .u8 43, .int .u8 51, .int .u8 22, .int .u8 53, .int .u8 39, .int .u8 33, .int .u8 30, .int .u8 24, .int .u8 18, .int .u8 12, .int .u8 5, .int .u8 63, .int .u8 55, .int .u8 48, .int .u8 27, .int .u8 60, .int .u8 41, .int .u8 37, .int .u8 16, .int .u8 46, .int .u8 35, .int .u8 44, .int .u8 21, .int .u8 52, .int .u8 32, .int .u8 23, .int .u8 11, .int .u8 54, .int .u8 26, .int .u8 40, .int .u8 15, .int .u8 34, .int .u8 20, .int .u8 31, .int .u8 10, .int .u8 25, .int .u8 14, .int .u8 19, .int .u8 9, .int .u8 13, .int .u8 8, .int .u8 7, .int .u8 6] t frozen
    | o => o
  let h3 := h2.modify 4 fun
    | .cells _ t frozen => .cells #[.int .u64 1, .int .u64 10, .int .u64 100, .int .u64 1000, .int .u64 10000, .int .u64 100000, .int .u64 1000000, .int .u64 10000000, .int .u64 100000000, .int .u64 1000000000, .int .u64 10000000000, .int .u64 100000000000, .int .u64 1000000000000, .int .u64 10000000000000, .int .u64 100000000000000, .int .u64 1000000000000000, .int .u64 10000000000000000, .int .u64 100000000000000000, .int .u64 1000000000000000000, .int .u64 10000000000000000000] t frozen
    | o => o
  let h4 := h3.modify 3 fun
    | .cells _ t frozen => .cells #[.iface 624 (.pointer (some ⟨n0 + 0, 0, none⟩))] t frozen
    | o => o
  let h5 := h4.modify 2 fun
    | .cells _ t frozen => .cells #[.iface 624 (.pointer (some ⟨n0 + 1, 0, none⟩))] t frozen
    | o => o
  let h6 := h5.modify 1 fun
    | .cells _ t frozen => .cells #[.string ⟨#[99, 111, 117, 110, 116]⟩, .string ⟨#[115, 117, 109]⟩, .string ⟨#[109, 105, 110]⟩, .string ⟨#[109, 97, 120]⟩, .string ⟨#[102, 105, 114, 115, 116]⟩, .string ⟨#[108, 97, 115, 116]⟩] t frozen
    | o => o
  let h7 := h6.push (.cells #[.string ⟨#[118, 97, 108, 117, 101, 32, 111, 117, 116, 32, 111, 102, 32, 114, 97, 110, 103, 101]⟩] 626 (0, 0))
  let h8 := h7.push (.cells #[.string ⟨#[105, 110, 118, 97, 108, 105, 100, 32, 115, 121, 110, 116, 97, 120]⟩] 626 (0, 0))
  { w0 with heap := h8 }
theorem laidW_met (os : Os) (args : Array Value) : laidMet Tryz.prog Rows.variantKnownRow.laid ((laidW os).forCall (fun _ _ => 0) ⟨#[], args, []⟩).memory :=
  laidMet_of_run' 8 (by kernel_rfl) (by kernel_rfl)

set_option maxHeartbeats 4000000 in
set_option maxRecDepth 100000 in
theorem variantKnown_witness (os : Os) (H : Type) (enc : TypeId × Value → H) : ∃ (w : World) (tape : Tape) (i : Input), w.os = os ∧ (w.forCall tape i).Shaped Tryz.checked.prog ∧ i.vars = [] ∧ Input.okWide Tryz.checked.prog (w.forCall tape i) .any w.heap.size 3 i ∧
      ((Rows.variantKnownSpec.pre enc Tryz.checked.prog Tryz.f3 Rows.variantKnownRow.domain false (w.forCall tape i).memory i.args ∧ laidMet Tryz.prog Rows.variantKnownRow.laid (w.forCall tape i).memory) ∧ sizedMet enc Tryz.checked.prog Tryz.f3 (OpenSpec.ofChange Rows.variantKnownSpec) false (w.forCall tape i).memory i.args) ∧ ({ modest := false } : Assume).holds Tryz.checked.prog (lone (Frame.enter Tryz.checked.prog 3 i.args .normal) [] (w.forCall tape i)) :=
  (ChangeSpec.witness_at (s := Rows.variantKnownSpec) (conds := Rows.variantKnownRow.domain) (fn := Tryz.f3) (f := 3) (enc := enc) (C := Tryz.checked) (os := os) (X := fun w _ => laidMet Tryz.prog Rows.variantKnownRow.laid w) false (laidW os) #[] 8 rfl (by kernel_rfl) (by kernel_rfl) (by kernel_rfl) (by kernel_rfl) (by kernel_rfl) (laidW_met os _))
theorem variantKnown_calls (W : World) (hL : laidMet Tryz.prog Rows.variantKnownRow.laid W) : Calls Tryz.prog 3 #[] W fun en w' => en = .returned (.bool true) ∧ Below W.heap.size W w' := by
  obtain ⟨vs0, tt0, ft0, ht0, hh0⟩ := row_strings (ss := [[99, 111, 117, 110, 116], [115, 117, 109], [109, 105, 110], [109, 97, 120], [102, 105, 114, 115, 116], [108, 97, 115, 116]]) (bs := []) (P := Tryz.prog) (n := "partywall/ast.names") (t := 493) (e := 9) (k := 6) (by kernel_rfl) (by kernel_rfl) (by kernel_rfl) (by kernel_rfl) (by kernel_rfl) (by kernel_rfl) (Lib.laidMet.reads hL (.tail _ (.tail _ (.tail _ (.tail _ (.tail _ (.head _)))))))
  obtain ⟨vs1, tt1, ft1, ht1, hh1⟩ := row_ints (ik := .u64) (zs := [1, 10, 100, 1000, 10000, 100000, 1000000, 10000000, 100000000, 1000000000, 10000000000, 100000000000, 1000000000000, 10000000000000, 100000000000000, 1000000000000000, 10000000000000000, 100000000000000000, 1000000000000000000, 10000000000000000000]) (bs := []) (P := Tryz.prog) (n := "internal/strconv.uint64pow10") (t := 642) (e := 31) (k := 20) (by kernel_rfl) (by kernel_rfl) (by kernel_rfl) (by kernel_rfl) (by kernel_rfl) (by kernel_rfl) (Lib.laidMet.reads hL (.tail _ (.tail _ (.head _))))
  obtain ⟨vs2, tt2, ft2, ht2, hh2⟩ := row_ints (ik := .u8) (zs := [0, 1, 28, 2, 29, 14, 24, 3, 30, 22, 20, 15, 25, 17, 4, 8, 31, 27, 13, 23, 21, 19, 16, 7, 26, 12, 18, 6, 11, 5, 10, 9]) (bs := []) (P := Tryz.prog) (n := "math/bits.deBruijn32tab") (t := 644) (e := 5) (k := 32) (by kernel_rfl) (by kernel_rfl) (by kernel_rfl) (by kernel_rfl) (by kernel_rfl) (by kernel_rfl) (Lib.laidMet.reads hL (.head _))
  obtain ⟨vs3, tt3, ft3, ht3, hh3⟩ := row_ints (ik := .u8) (zs := [0, 1, 56, 2, 57, 49, 28, 3, 61, 58, 42, 50, 38, 29, 17, 4, 62, 47, 59, 36, 45, 43, 51, 22, 53, 39, 33, 30, 24, 18, 12, 5, 63, 55, 48, 27, 60, 41, 37, 16, 46, 35, 44, 21, 52, 32, 23, 11, 54, 26, 40, 15, 34, 20, 31, 10, 25, 14, 19, 9, 13, 8, 7, 6]) (bs := []) (P := Tryz.prog) (n := "math/bits.deBruijn64tab") (t := 645) (e := 5) (k := 64) (by kernel_rfl) (by kernel_rfl) (by kernel_rfl) (by kernel_rfl) (by kernel_rfl) (by kernel_rfl) (Lib.laidMet.reads hL (.tail _ (.head _)))
  exact variantKnown_calls0 Tryz.mixed W (rowsOk_cons (by decide) (by kernel_rfl) ⟨vs0, tt0, ft0, ht0, hh0⟩ (rowsOk_cons (by decide) (by kernel_rfl) ⟨vs1, tt1, ft1, ht1, hh1⟩ (rowsOk_cons (by decide) (by kernel_rfl) ⟨vs2, tt2, ft2, ht2, hh2⟩ (rowsOk_cons (by decide) (by kernel_rfl) ⟨vs3, tt3, ft3, ht3, hh3⟩ (rowsOk_nil W [])))))

set_option maxHeartbeats 4000000 in
set_option maxRecDepth 100000 in
theorem variantKnown_lifted (os : Os) (started : os.Started) (H : Type) (enc : TypeId × Value → H) :
    ReturnsInHanded {} Tryz.checked os 3 .any (fun w args => (Rows.variantKnownSpec.pre enc Tryz.prog Tryz.f3 Rows.variantKnownRow.domain false w args ∧ laidMet Tryz.prog Rows.variantKnownRow.laid w) ∧ sizedMet enc Tryz.prog Tryz.f3 (OpenSpec.ofChange Rows.variantKnownSpec) false w args)
      (Rows.variantKnownSpec.post enc Tryz.prog Tryz.f3 false true false false) := by
  refine returnsInHanded_of_change_and (C := Tryz.checked) (X := fun w _ => laidMet Tryz.prog Rows.variantKnownRow.laid w) (fun _ _ _ hh h => h.of_heap hh) Tryz.own started (by kernel_rfl) Tryz.func3
    (variantKnown_witness os H enc) ?_
  intro W base args ds gs before hval0 hW _ _ hL _
  have hW' := hW
  obtain ⟨p, q, hA0, hV, rfl, hfz, hnd⟩ := hW
  have hA : DataW.TrodAll enc Tryz.prog W 0 (fun _ => true) true Tryz.f3.params.toList args.toList ds p := hA0
  rw [Tryz.params3] at hA
  obtain ⟨rfl, rfl, rfl⟩ := trodAll_none hA
  obtain ⟨rfl, rfl⟩ := trodVars_none hV
  refine (variantKnown_calls W hL).mono fun e W' ⟨he, hw⟩ => ?_
  subst he
  exact ⟨_, rfl, _, _, _, [], [], [], hW', trodAll_mk1 (shut_bool Tryz.underlying4 true), rfl, rfl, hw.frame _, fun h => by cases h⟩

theorem variantKnown_row : Rows.VariantKnownSaid :=
  OpenClaim.holds_of_wide 3 Tryz.f3 rfl rfl rfl rfl rfl rfl rfl ⟨rfl, rfl, rfl, rfl, rfl⟩ rfl rfl rfl rfl rfl (by kernel_rfl) Tryz.func3 variantKnown_closed
    (of_decide_eq_true (by kernel_rfl)) (by unfold Func.isWrapper; first | (rw [if_pos (by decide +kernel)]; kernel_rfl) | (rw [if_neg (by decide +kernel)]; exact ⟨rfl, rfl⟩))
    (fun os started H enc _ => variantKnown_lifted os started H enc)

theorem variantKnown_card : Rows.VariantKnownCardSaid :=
  Claim7.holds_tied_plain_at .later [] [.data, .data, .data, .sentinel, .sentinel, .widerDeep] true (true, "fd43796a037c0ef6005670fdb937fd5c7032b6ffe0cac8df06775a9310a1eccf") true
    variantKnown_row (fun _ h => by cases h) (by kernel_rfl) (fun _ h => by cases h) variantKnown_row_tie rfl ⟨rfl, rfl⟩ variantKnown_main rfl
    (fun f fn hf hfn => by
      obtain rfl : f = 3 := Option.some.inj ((show Tryz.prog.funcNamed "partywall/partywalllaw43.VariantKnown" = some 3 by kernel_rfl).symm.trans hf) |>.symm
      obtain rfl : fn = Tryz.f3 := (Option.some.inj (Tryz.func3.symm.trans hfn)).symm
      exact ⟨variantKnown_looks, fun j t ht => by
        rw [Tryz.params3] at ht
        simp at ht⟩)
    variantKnown_goes
#print axioms variantKnown_card
end Go.Proofs.YtelgaffeihgffaaGreatDoor
