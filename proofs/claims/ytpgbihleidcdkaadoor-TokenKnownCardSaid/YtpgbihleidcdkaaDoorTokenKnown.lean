/-
  The law TokenKnown answers true. Conditions: the listed package variables hold what the program's text lays (tied by the card).
-/
import Derived.Test.YtpgbihleidcdkaaDoorTokenKnownRun
import Derived.Test.YtpgbihleidcdkaaDoorCards
import Derived.Test.YtpgbihleidcdkaaDoorTie
import Derived.ProofKit
import Derived.LaidLaws
import Derived.Handed
import Derived.SevenTiedAt
set_option linter.unusedSimpArgs false
set_option linter.unusedVariables false
namespace Go.Proofs.YtpgbihleidcdkaaDoor
open Go Go.Cx Go.ChangeShapes Go.WideShapes Go.ChangeAt Go.RowKit

theorem Tryd.own : ownKnob Tryd.prog.godebug = none := by kernel_rfl
theorem Tryd.mixed : Tryd.prog.follows .mixedOrders = true := by kernel_rfl

noncomputable def laidW (os : Os) : World :=
  let w0 := World.holding Tryd.prog os ⟨#[], #[], []⟩
  let n0 := w0.heap.size
  let h0 := w0.heap
  let h1 := h0.modify 5 fun
    | .cells _ t frozen => .cells #[.int .u8 0, .int .u8 1, .int .u8 28, .int .u8 2, .int .u8 29, .int .u8 14, .int .u8 24, .int .u8 3, .int .u8 30, .int .u8 22, .int .u8 20, .int .u8 15, .int .u8 25, .int .u8 17, .int .u8 4, .int .u8 8, .int .u8 31, .int .u8 27, .int .u8 13, .int .u8 23, .int .u8 21, .int .u8 19, .int .u8 16, .int .u8 7, .int .u8 26, .int .u8 12, .int .u8 18, .int .u8 6, .int .u8 11, .int .u8 5, .int .u8 10, .int .u8 9] t frozen
    | o => o
  let h2 := h1.modify 6 fun
    | .cells _ t frozen => .cells #[.int .u8 0, .int .u8 1, .int .u8 56, .int .u8 2, .int .u8 57, .int .u8 49, .int .u8 28, .int .u8 3, .int .u8 61, .int .u8 58, .int .u8 42, .int .u8 50, .int .u8 38, .int .u8 29, .int .u8 17, .int .u8 4, .int .u8 62, .int .u8 47, .int .u8 59, .int .u8 36, .int .u8 45, .int .u8 43, .int .u8 51, .int .u8 22, .int .u8 53, .int .u8 39, .int .u8 33, .int .u8 30, .int .u8 24, .int .u8 18, .int .u8 12, .int .u8 5, .int .u8 63, .int .u8 55, .int .u8 48, .int .u8 27, .int .u8 60, .int .u8 41, .int .u8 37, .int .u8 16, .int .u8 46, .int .u8 35, .int .u8 44, .int .u8 21, .int .u8 52, .int .u8 32, .int .u8 23, .int .u8 11, .int .u8 54, .int .u8 26, .int .u8 40, .int .u8 15, .int .u8 34, .int .u8 20, .int .u8 31, .int .u8 10, .int .u8 25, .int .u8 14, .int .u8 19, .int .u8 9, .int .u8 13, .int .u8 8, .int .u8 7, .int .u8 6] t frozen
    | o => o
  let h3 := h2.modify 4 fun
    | .cells _ t frozen => .cells #[.int .u64 1, .int .u64 10, .int .u64 100, .int .u64 1000, .int .u64 10000, .int .u64 100000, .int .u64 1000000, .int .u64 10000000, .int .u64 100000000, .int .u64 1000000000, .int .u64 10000000000, .int .u64 100000000000, .int .u64 1000000000000, .int .u64 10000000000000, .int .u64 100000000000000, .int .u64 1000000000000000, .int .u64 10000000000000000, .int .u64 100000000000000000, .int .u64 1000000000000000000, .int .u64 10000000000000000000] t frozen
    | o => o
  let h4 := h3.modify 1 fun
    | .cells _ t frozen => .cells #[.iface 168 (.pointer (some ⟨n0 + 0, 0, none⟩))] t frozen
    | o => o
  let h5 := h4.modify 0 fun
    | .cells _ t frozen => .cells #[.iface 168 (.pointer (some ⟨n0 + 1, 0, none⟩))] t frozen
    | o => o
  let h6 := h5.push (.cells #[.string ⟨#[118, 97, 108, 117, 101, 32, 111, 117, 116, 32, 111, 102, 32, 114, 97, 110, 103, 101]⟩] 170 (0, 0))
  let h7 := h6.push (.cells #[.string ⟨#[105, 110, 118, 97, 108, 105, 100, 32, 115, 121, 110, 116, 97, 120]⟩] 170 (0, 0))
  { w0 with heap := h7 }
theorem laidW_met (os : Os) (args : Array Value) : laidMet Tryd.prog Rows.tokenKnownRow.laid ((laidW os).forCall (fun _ _ => 0) ⟨#[], args, []⟩).memory :=
  laidMet_of_run' 8 (by kernel_rfl) (by kernel_rfl)

set_option maxHeartbeats 4000000 in
set_option maxRecDepth 100000 in
theorem tokenKnown_witness (os : Os) (H : Type) (enc : TypeId × Value → H) : ∃ (w : World) (tape : Tape) (i : Input), w.os = os ∧ (w.forCall tape i).Shaped Tryd.checked.prog ∧ i.vars = [] ∧ Input.okWide Tryd.checked.prog (w.forCall tape i) .any w.heap.size 5 i ∧
      ((Rows.tokenKnownSpec.pre enc Tryd.checked.prog Tryd.f5 Rows.tokenKnownRow.domain false (w.forCall tape i).memory i.args ∧ laidMet Tryd.prog Rows.tokenKnownRow.laid (w.forCall tape i).memory) ∧ sizedMet enc Tryd.checked.prog Tryd.f5 (OpenSpec.ofChange Rows.tokenKnownSpec) false (w.forCall tape i).memory i.args) ∧ ({ modest := false } : Assume).holds Tryd.checked.prog (lone (Frame.enter Tryd.checked.prog 5 i.args .normal) [] (w.forCall tape i)) :=
  (ChangeSpec.witness_at (s := Rows.tokenKnownSpec) (conds := Rows.tokenKnownRow.domain) (fn := Tryd.f5) (f := 5) (enc := enc) (C := Tryd.checked) (os := os) (X := fun w _ => laidMet Tryd.prog Rows.tokenKnownRow.laid w) false (laidW os) #[] 8 rfl (by kernel_rfl) (by kernel_rfl) (by kernel_rfl) (by kernel_rfl) (by kernel_rfl) (laidW_met os _))
theorem starE : "*" ++ "errors.errorString" = "*errors.errorString" := by decide
theorem rowE (u : TypeId) (h : Tryd.prog.typeName? 3 u = some "*errors.errorString") : u = 168 :=
  typeName_ptr_named (nm := "errors.errorString") (by rw [starE]; kernel_rfl) (by kernel_rfl) (by decide) u (by rw [starE]; exact h)
theorem tokenKnown_calls (W : World) (hL : laidMet Tryd.prog Rows.tokenKnownRow.laid W) : Calls Tryd.prog 5 #[] W fun en w' => en = .returned (.bool true) ∧ Below W.heap.size W w' := by
  obtain ⟨b0, ty0, fr0, h0⟩ := row_sentinel (P := Tryd.prog) (n := "strconv.ErrRange") (g := 1) (tp := 168) (te := 170) (ts := 9) (nm := "*errors.errorString") (text := [118, 97, 108, 117, 101, 32, 111, 117, 116, 32, 111, 102, 32, 114, 97, 110, 103, 101]) (by kernel_rfl) (by kernel_rfl) Tryd.underlying93 rowE Tryd.underlying168 Tryd.underlying170 rfl rfl Tryd.underlying9 (by kernel_rfl) (by kernel_rfl) (reads2 hL (.tail _ (.tail _ (.tail _ (.head _)))))
  obtain ⟨b1, ty1, fr1, h1⟩ := row_sentinel (P := Tryd.prog) (n := "strconv.ErrSyntax") (g := 0) (tp := 168) (te := 170) (ts := 9) (nm := "*errors.errorString") (text := [105, 110, 118, 97, 108, 105, 100, 32, 115, 121, 110, 116, 97, 120]) (by kernel_rfl) (by kernel_rfl) Tryd.underlying93 rowE Tryd.underlying168 Tryd.underlying170 rfl rfl Tryd.underlying9 (by kernel_rfl) (by kernel_rfl) (reads2 hL (.tail _ (.tail _ (.tail _ (.tail _ (.head _))))))
  exact closed_calls (P := Tryd.prog) (X := strX) (n := 1000000) (f := 5) (l := rows0) (bs := [b0, b1]) (k := 66) (W := W) strX_ok Tryd.mixed rfl tokenKnown_run (rowsOk_cons (by decide) (by kernel_rfl) ⟨_, ty0, fr0, rfl, h0⟩ (rowsOk_cons (by decide) (by kernel_rfl) ⟨_, ty1, fr1, rfl, h1⟩ (rowsOk_nil W [b0, b1])))

set_option maxHeartbeats 4000000 in
set_option maxRecDepth 100000 in
theorem tokenKnown_lifted (os : Os) (started : os.Started) (H : Type) (enc : TypeId × Value → H) :
    ReturnsInHanded {} Tryd.checked os 5 .any (fun w args => (Rows.tokenKnownSpec.pre enc Tryd.prog Tryd.f5 Rows.tokenKnownRow.domain false w args ∧ laidMet Tryd.prog Rows.tokenKnownRow.laid w) ∧ sizedMet enc Tryd.prog Tryd.f5 (OpenSpec.ofChange Rows.tokenKnownSpec) false w args)
      (Rows.tokenKnownSpec.post enc Tryd.prog Tryd.f5 false true false false) := by
  refine returnsInHanded_of_change_and (C := Tryd.checked) (X := fun w _ => laidMet Tryd.prog Rows.tokenKnownRow.laid w) (fun _ _ _ hh h => h.of_heap hh) Tryd.own started (by kernel_rfl) Tryd.func5
    (tokenKnown_witness os H enc) ?_
  intro W base args ds gs before hval0 hW _ _ hL _
  have hW' := hW
  obtain ⟨p, q, hA0, hV, rfl, hfz, hnd⟩ := hW
  have hA : DataW.TrodAll enc Tryd.prog W 0 (fun _ => true) true Tryd.f5.params.toList args.toList ds p := hA0
  rw [Tryd.params5] at hA
  obtain ⟨rfl, rfl, rfl⟩ := trodAll_none hA
  obtain ⟨rfl, rfl⟩ := trodVars_none hV
  refine (tokenKnown_calls W hL).mono fun e W' ⟨he, hw⟩ => ?_
  subst he
  exact ⟨_, rfl, _, _, _, [], [], [], hW', trodAll_mk1 (shut_bool Tryd.underlying4 true), rfl, rfl, hw.frame _, fun h => by cases h⟩

theorem tokenKnown_row : Rows.TokenKnownSaid :=
  OpenClaim.holds_of_wide 5 Tryd.f5 rfl rfl rfl rfl rfl rfl rfl ⟨rfl, rfl, rfl, rfl, rfl⟩ rfl rfl rfl rfl rfl (by kernel_rfl) Tryd.func5 (by kernel_rfl)
    (of_decide_eq_true (by kernel_rfl)) (by unfold Func.isWrapper; first | (rw [if_pos (by decide +kernel)]; kernel_rfl) | (rw [if_neg (by decide +kernel)]; exact ⟨rfl, rfl⟩))
    (fun os started H enc _ => tokenKnown_lifted os started H enc)

theorem tokenKnown_card : Rows.TokenKnownCardSaid :=
  Claim7.holds_tied_plain_at .later [] [.data, .data, .data, .sentinel, .sentinel] true (true, "9b85ce0b14b4e8076a14ee56b20cbdbc2595dc95beec87a9f2d6343fa2059733") true
    tokenKnown_row (fun _ h => by cases h) (by kernel_rfl) (fun _ h => by cases h) tokenKnown_row_tie rfl ⟨rfl, rfl⟩ (by kernel_rfl) rfl
    (fun f fn hf hfn => by
      obtain rfl : f = 5 := Option.some.inj ((show Tryd.prog.funcNamed "partywall/partywalllaw07.TokenKnown" = some 5 by kernel_rfl).symm.trans hf) |>.symm
      obtain rfl : fn = Tryd.f5 := (Option.some.inj (Tryd.func5.symm.trans hfn)).symm
      exact ⟨by kernel_rfl, fun j t ht => by
        rw [Tryd.params5] at ht
        simp at ht⟩)
    (by kernel_rfl)
#print axioms tokenKnown_card
end Go.Proofs.YtpgbihleidcdkaaDoor
