/-
  The law WellformedFew answers true, whatever two numbers come in. Conditions: the listed package variable holds what the program's text lays (tied by the card).
-/
import Derived.Test.YtpgbihleidcdkaaDoorWfn00
import Derived.Test.YtpgbihleidcdkaaDoorWfn01
import Derived.Test.YtpgbihleidcdkaaDoorWfn02
import Derived.Test.YtpgbihleidcdkaaDoorWfn03
import Derived.Test.YtpgbihleidcdkaaDoorWfn04
import Derived.Test.YtpgbihleidcdkaaDoorWfn05
import Derived.Test.YtpgbihleidcdkaaDoorWfn06
import Derived.Test.YtpgbihleidcdkaaDoorWfn07
import Derived.Test.YtpgbihleidcdkaaDoorWfn08
import Derived.Test.YtpgbihleidcdkaaDoorWfn09
import Derived.Test.YtpgbihleidcdkaaDoorWfn10
import Derived.Test.YtpgbihleidcdkaaDoorWfn11
import Derived.Test.YtpgbihleidcdkaaDoorWfn12
import Derived.Test.YtpgbihleidcdkaaDoorWfn13
import Derived.Test.YtpgbihleidcdkaaDoorWfm
import Derived.Test.YtpgbihleidcdkaaDoorCards
import Derived.Test.YtpgbihleidcdkaaDoorTie
import Derived.ProofKit
import Derived.LaidLaws
import Derived.Handed
import Derived.SevenTiedAt
set_option linter.unusedSimpArgs false
set_option linter.unusedVariables false
namespace Go.Proofs.YtpgbihleidcdkaaDoor
open Go Go.Cx Go.ChangeShapes Go.WideShapes Go.ChangeAt Go.RowKit

theorem Tryd.own : ownKnob Tryd.prog.godebug = none := by kernel_rfl
theorem fewX_ok : ExtOk Tryd.prog fewX := by
  intro f g hf m args v hg
  unfold fewX at hf
  split at hf
  · rename_i hq
    obtain rfl := Nat.eq_of_beq_eq_true hq
    cases hf
    refine ⟨fun vs w => callFunc_ok Tryd.func3 rfl (by kernel_rfl) vs w, fun e vs w has hm hglb => ?_⟩
    unfold fewK at hg
    split at hg
    · split at hg
      · rename_i cs hcs
        split at hg
        · rename_i heq
          cases hg
          obtain rfl := cvEqL_eq heq
          simp only [denL, Option.some.injEq] at has
          subst has
          refine ⟨.bool true, rfl, ?_⟩
          obtain ⟨b, l, ty, fr, h1, h2, h3, h4, h5⟩ := hm _ _ hcs
          rw [hglb _ (by decide)] at h1
          cases h1
          refine (closed_calls noExt Tryd.mixed rfl wellformedKnown_run (W := w) (bs := []) (rowsOk_cons (by decide) (by kernel_rfl) ⟨l, ty, fr, ?_, h5⟩ (rowsOk_nil w []))).mono fun en w' h => h
          rw [← h3]; rfl
        · cases hg
      · cases hg
    · cases hg
  · split at hf
    · rename_i hq
      obtain rfl := Nat.eq_of_beq_eq_true hq
      cases hf
      refine ⟨fun vs w => callFunc_ok Tryd.func20 rfl (by kernel_rfl) vs w, fun e vs w has hm hglb => ?_⟩
      unfold fewM at hg
      split at hg
      · rename_i x k r h k'
        split at hg
        · rename_i hc
          cases hg
          simp only [Bool.and_eq_true] at hc
          obtain rfl := Nat.eq_of_beq_eq_true hc.1
          have c1 : 0 < k := by have h9 := Nat.le_of_ble_eq_true hc.2.1; omega
          have c2 : k < 1000000 := by have h9 := Nat.le_of_ble_eq_true hc.2.2; omega
          simp only [denL, den, Option.bind_some, Option.map_some, Option.some.injEq] at has
          subst has
          refine ⟨.int .i64 (.ofNat r), rfl, (few_mod x k c1 c2 w).mono fun en w' hw => ?_⟩
          obtain ⟨h1, rfl⟩ := hw
          exact ⟨by rw [h1, h]; rfl, .refl _ _⟩
        · cases hg
      · cases hg
    · cases hf

theorem rowsWK_ok {W : World} (h : laidMet Tryd.prog Rows.wellformedFewRow.laid W) : RowsOk W [] rowsWK := by
  refine rowsOk_cons (by decide) (by kernel_rfl) ?_ (rowsOk_nil W [])
  refine row_strings (P := Tryd.prog) (n := "partywall/ast.names") (t := 172) (e := 9) (k := 6) (by kernel_rfl) (by kernel_rfl) (by kernel_rfl) (by kernel_rfl) (by kernel_rfl) (by kernel_rfl) ?_
  exact Lib.laidMet.reads h (.head _)

theorem few_all (a b : Int) (i j : Nat) (h : a.emod (14 : Nat) = i) (h' : b.emod (9 : Nat) = j) (hi : i < 14) (hj : j < 9) : fewRun a b i j h h' = true :=
  match i, h, hi with
  | 0, h, _ => few_0 a b h j h' hj
  | 1, h, _ => few_1 a b h j h' hj
  | 2, h, _ => few_2 a b h j h' hj
  | 3, h, _ => few_3 a b h j h' hj
  | 4, h, _ => few_4 a b h j h' hj
  | 5, h, _ => few_5 a b h j h' hj
  | 6, h, _ => few_6 a b h j h' hj
  | 7, h, _ => few_7 a b h j h' hj
  | 8, h, _ => few_8 a b h j h' hj
  | 9, h, _ => few_9 a b h j h' hj
  | 10, h, _ => few_10 a b h j h' hj
  | 11, h, _ => few_11 a b h j h' hj
  | 12, h, _ => few_12 a b h j h' hj
  | 13, h, _ => few_13 a b h j h' hj
  | n + 14, _, hi => absurd hi (by omega)

theorem few_calls (a b : Int) {W : World} (h : RowsOk W [] rowsWK) :
    Calls Tryd.prog 4 #[.int .i64 a, .int .i64 b] W fun en w' => en = .returned (.bool true) ∧ Below W.heap.size W w' := by
  have h1 := Int.emod_nonneg a (b := ((14 : Nat) : Int)) (by omega)
  have h2 := Int.emod_lt_of_pos a (b := ((14 : Nat) : Int)) (by omega)
  have h3 := Int.emod_nonneg b (b := ((9 : Nat) : Int)) (by omega)
  have h4 := Int.emod_lt_of_pos b (b := ((9 : Nat) : Int)) (by omega)
  have g1 : a.emod (14 : Nat) = ((a.emod (14 : Nat)).toNat : Nat) := (Int.toNat_of_nonneg h1).symm
  have g2 : b.emod (9 : Nat) = ((b.emod (9 : Nat)).toNat : Nat) := (Int.toNat_of_nonneg h3).symm
  have hrun := few_all a b _ _ g1 g2 (by have : a % ((14 : Nat) : Int) = a.emod (14 : Nat) := rfl; omega) (by have : b % ((9 : Nat) : Int) = b.emod (9 : Nat) := rfl; omega)
  unfold fewRun at hrun
  rw [runF_eq] at hrun
  obtain ⟨m, hr⟩ := isTrue_spec hrun
  refine (run_calls fewX_ok Tryd.mixed hr (show denL (env0 []) [_, _] = some [.int .i64 a, .int .i64 b] from rfl) (rel0 (bs := []) h)).mono ?_
  rintro en w' ⟨e', V, _, hV, rfl, hrel⟩
  refine ⟨by rw [den_bool hV], hrel.frm.os, hrel.frm.tape, hrel.frm.output, hrel.frm.size, hrel.frm.block⟩
noncomputable def laidWK (os : Os) : World :=
  let w0 := World.holding Tryd.prog os ⟨#[], #[], []⟩
  { w0 with heap := w0.heap.modify 3 fun
      | .cells _ t frozen => .cells ([[99, 111, 117, 110, 116], [115, 117, 109], [109, 105, 110], [109, 97, 120], [102, 105, 114, 115, 116], [108, 97, 115, 116]].map fun (s : List UInt8) => Value.string ⟨s.toArray⟩).toArray t frozen
      | o => o }
theorem laidWK_met (os : Os) (args : Array Value) : laidMet Tryd.prog Rows.wellformedFewRow.laid ((laidWK os).forCall (fun _ _ => 0) ⟨#[], args, []⟩).memory :=
  laidMet_of_run' 8 (by kernel_rfl) (by kernel_rfl)

set_option maxRecDepth 100000 in
theorem wellformedFew_lifted (os : Os) (started : os.Started) (H : Type) (enc : TypeId × Value → H) :
    ReturnsInHanded {} Tryd.checked os 4 .any (fun w args => (Rows.wellformedFewSpec.pre enc Tryd.prog Tryd.f4 Rows.wellformedFewRow.domain false w args ∧ laidMet Tryd.prog Rows.wellformedFewRow.laid w) ∧ sizedMet enc Tryd.prog Tryd.f4 (OpenSpec.ofChange Rows.wellformedFewSpec) false w args)
      (Rows.wellformedFewSpec.post enc Tryd.prog Tryd.f4 false true false false) := by
  refine returnsInHanded_of_change_and (C := Tryd.checked) (X := fun w _ => laidMet Tryd.prog Rows.wellformedFewRow.laid w) (fun _ _ _ hh h => h.of_heap hh) Tryd.own started (by kernel_rfl) Tryd.func4
    (ChangeSpec.witness_at (enc := enc) (C := Tryd.checked) (os := os) (X := fun w _ => laidMet Tryd.prog Rows.wellformedFewRow.laid w) false (laidWK os) #[.int .i64 0, .int .i64 0] 8 rfl (by kernel_rfl) (by kernel_rfl) (by kernel_rfl) (by kernel_rfl) (by kernel_rfl) (laidWK_met os _)) ?_
  intro W base args ds gs before hval0 hW _ _ hL _
  have hval : ∀ (j : Nat) t v, Tryd.f4.params[j]? = some t → args[j]? = some v → Value.okWide Tryd.prog W .any base t v := hval0
  have hW' := hW
  obtain ⟨p, q, hA0, hV, rfl, hfz, hnd⟩ := hW
  have hA : DataW.TrodAll enc Tryd.prog W 0 (fun _ => true) true Tryd.f4.params.toList args.toList ds p := hA0
  rw [Tryd.params4] at hA hval
  obtain ⟨v0, v1, d0, d1, p0, p1, rfl, rfl, rfl, h0, h1⟩ := trodAll_two hA
  obtain ⟨rfl, rfl⟩ := trodVars_none hV
  obtain ⟨x, rfl, rfl, rfl, wx⟩ := open_int Tryd.underlying3 (hval 0 3 v0 rfl rfl) h0
  obtain ⟨y, rfl, rfl, rfl, wy⟩ := open_int Tryd.underlying3 (hval 1 3 v1 rfl rfl) h1
  clear hA0 hval0
  simp only [List.append_nil] at hW'
  refine (few_calls x y (rowsWK_ok hL)).mono fun e W' ⟨he, hw⟩ => ?_
  subst he
  exact ⟨_, rfl, _, _, _, [], [], [], hW', trodAll_mk1 (shut_bool Tryd.underlying4 true), trodAll_mk2 (shut_int Tryd.underlying3 wx) (shut_int Tryd.underlying3 wy), rfl, hw.frame _, fun h => by cases h⟩

theorem wellformedFew_row : Rows.WellformedFewSaid :=
  OpenClaim.holds_of_wide 4 Tryd.f4 rfl rfl rfl rfl rfl rfl rfl ⟨rfl, rfl, rfl, rfl, rfl⟩ rfl rfl rfl rfl rfl (by kernel_rfl) Tryd.func4 (by kernel_rfl)
    (of_decide_eq_true (by kernel_rfl)) (by unfold Func.isWrapper; first | (rw [if_pos (by decide +kernel)]; kernel_rfl) | (rw [if_neg (by decide +kernel)]; exact ⟨rfl, rfl⟩))
    (fun os started H enc _ => wellformedFew_lifted os started H enc)

theorem few_noStand : Tryd.pinned.checked.prog.wantsStandIn 3 = false := by kernel_rfl
theorem wellformedFew_card : Rows.WellformedFewCardSaid :=
  Claim7.holds_tied_plain_at .later [] [.widerDeep] true (true, "9b85ce0b14b4e8076a14ee56b20cbdbc2595dc95beec87a9f2d6343fa2059733") true
    wellformedFew_row (fun _ h => by cases h) (by kernel_rfl) (fun _ h => by cases h) wellformedFew_row_tie rfl ⟨rfl, rfl⟩ (by kernel_rfl) rfl
    (fun f fn hf hfn => by
      obtain rfl : f = 4 := Option.some.inj ((show Tryd.prog.funcNamed "partywall/partywalllaw10.WellformedFew" = some 4 by kernel_rfl).symm.trans hf) |>.symm
      obtain rfl : fn = Tryd.f4 := (Option.some.inj (Tryd.func4.symm.trans hfn)).symm
      exact ⟨by kernel_rfl, fun j t ht => by
        rw [Tryd.params4] at ht
        have ht3 : t = 3 := by
          match j, ht with
          | 0, ht => simpa using ht.symm
          | 1, ht => simpa using ht.symm
          | n + 2, ht => simp at ht
        subst ht3
        exact few_noStand⟩)
    (by kernel_rfl)
#print axioms wellformedFew_card
end Go.Proofs.YtpgbihleidcdkaaDoor
