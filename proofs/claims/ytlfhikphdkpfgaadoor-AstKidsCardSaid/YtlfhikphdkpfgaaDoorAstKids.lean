/-
  The law AstKids answers true. Conditions: the listed package variables hold what the program's text lays (tied by the card).
-/
import Derived.Test.YtlfhikphdkpfgaaDoorBf
import Derived.Test.YtlfhikphdkpfgaaDoorAu
import Derived.Test.YtlfhikphdkpfgaaDoorAy
import Derived.Test.YtlfhikphdkpfgaaDoorCards
import Derived.Test.YtlfhikphdkpfgaaDoorTie
import Derived.ProofKit
import Derived.LaidLaws
import Derived.Handed
import Derived.SevenTiedAt
set_option linter.unusedSimpArgs false
set_option linter.unusedVariables false
namespace Go.Proofs.YtlfhikphdkpfgaaDoor
open Go Go.Cx Go.ChangeShapes Go.WideShapes Go.ChangeAt Go.RowKit
open Go.ChangeMaps (open_string shut_string)
theorem Tryd.own : ownKnob Tryd.prog.godebug = none := by kernel_rfl
theorem law_orders : Tryd.prog.follows .mixedOrders = true := by kernel_rfl
theorem law_laid : laidOutB Tryd.prog = true := by kernel_rfl
theorem law_rows : mapsRowed Tryd.prog = true := by kernel_rfl
theorem law_full : ((List.range Tryd.prog.types.size).all fun t => match Tryd.prog.underlying t with | some (.slice e) => decide (0 < Tryd.prog.cellsOf e) | _ => true) = true := by kernel_rfl
theorem law_tys : zkY Tryd.prog [42, 39, 40, 37, 100, 3, 36, 2, 4, 9] = true := by kernel_rfl
theorem law_rowsV {W : World} (h : laidMet Tryd.prog Rows.astKidsRow.laid W) : zus W axG := by
 refine ⟨by decide, fun g cs hm => ?_⟩
 rcases List.mem_cons.1 hm with hm | hm
 ·cases hm
  refine ⟨by decide, by kernel_rfl, ?_⟩
  obtain ⟨vs, ty, fr, h1, h2⟩ := ze5 (ss := [[99, 111, 117, 110, 116], [115, 117, 109], [109, 105, 110], [109, 97, 120], [102, 105, 114, 115, 116], [108, 97, 115, 116]]) (bs := []) (P := Tryd.prog) (n := "partywall/ast.names") (t := 131) (e := 9) (k := 6) (by kernel_rfl) (by kernel_rfl) (by kernel_rfl) (by kernel_rfl) (by kernel_rfl) (by kernel_rfl) (Lib.laidMet.reads h (.tail _ (.tail _ (.tail _ (.head _)))))
  exact ⟨vs, ty, fr, fun e => by simp only [denL, den] at h1 ⊢; exact h1, h2⟩
 ·cases hm
noncomputable def laidW (os : Os) : World :=
 let w0 := World.holding Tryd.prog os ⟨#[], #[], []⟩
 let h0 := w0.heap
 let h1 := h0.modify 7 fun
  | .cells _ t frozen => .cells #[.int .u8 0, .int .u8 1, .int .u8 28, .int .u8 2, .int .u8 29, .int .u8 14, .int .u8 24, .int .u8 3, .int .u8 30, .int .u8 22, .int .u8 20, .int .u8 15, .int .u8 25, .int .u8 17, .int .u8 4, .int .u8 8, .int .u8 31, .int .u8 27, .int .u8 13, .int .u8 23, .int .u8 21, .int .u8 19, .int .u8 16, .int .u8 7, .int .u8 26, .int .u8 12, .int .u8 18, .int .u8 6, .int .u8 11, .int .u8 5, .int .u8 10, .int .u8 9] t frozen
  | o => o
 let h2 := h1.modify 6 fun
  | .cells _ t frozen => .cells #[.int .u8 0, .int .u8 1, .int .u8 56, .int .u8 2, .int .u8 57, .int .u8 49, .int .u8 28, .int .u8 3, .int .u8 61, .int .u8 58, .int .u8 42, .int .u8 50, .int .u8 38, .int .u8 29, .int .u8 17, .int .u8 4, .int .u8 62, .int .u8 47, .int .u8 59, .int .u8 36, .int .u8 45, .int .u8 43, .int .u8 51, .int .u8 22, .int .u8 53, .int .u8 39, .int .u8 33, .int .u8 30, .int .u8 24, .int .u8 18, .int .u8 12, .int .u8 5, .int .u8 63, .int .u8 55, .int .u8 48, .int .u8 27, .int .u8 60, .int .u8 41, .int .u8 37, .int .u8 16, .int .u8 46, .int .u8 35, .int .u8 44, .int .u8 21, .int .u8 52, .int .u8 32, .int .u8 23, .int .u8 11, .int .u8 54, .int .u8 26, .int .u8 40, .int .u8 15, .int .u8 34, .int .u8 20, .int .u8 31, .int .u8 10, .int .u8 25, .int .u8 14, .int .u8 19, .int .u8 9, .int .u8 13, .int .u8 8, .int .u8 7, .int .u8 6] t frozen
  | o => o
 let h3 := h2.modify 5 fun
  | .cells _ t frozen => .cells #[.int .u64 1, .int .u64 10, .int .u64 100, .int .u64 1000, .int .u64 10000, .int .u64 100000, .int .u64 1000000, .int .u64 10000000, .int .u64 100000000, .int .u64 1000000000, .int .u64 10000000000, .int .u64 100000000000, .int .u64 1000000000000, .int .u64 10000000000000, .int .u64 100000000000000, .int .u64 1000000000000000, .int .u64 10000000000000000, .int .u64 100000000000000000, .int .u64 1000000000000000000, .int .u64 10000000000000000000] t frozen
  | o => o
 let h4 := h3.modify 0 fun
  | .cells _ t frozen => .cells #[.string ⟨#[99, 111, 117, 110, 116]⟩, .string ⟨#[115, 117, 109]⟩, .string ⟨#[109, 105, 110]⟩, .string ⟨#[109, 97, 120]⟩, .string ⟨#[102, 105, 114, 115, 116]⟩, .string ⟨#[108, 97, 115, 116]⟩] t frozen
  | o => o
 let h5 := h4.modify 1 fun
  | .cells _ t frozen => .cells #[.string ⟨#[]⟩, .string ⟨#[61]⟩, .string ⟨#[33, 61]⟩, .string ⟨#[60]⟩, .string ⟨#[60, 61]⟩, .string ⟨#[62]⟩, .string ⟨#[62, 61]⟩] t frozen
  | o => o
 { w0 with heap := h5 }
theorem laidW_met (os : Os) (args : Array Value) : laidMet Tryd.prog Rows.astKidsRow.laid ((laidW os).forCall (fun _ _ => 0) ⟨#[], args, []⟩).memory :=
 laidMet_of_run' 8 (by kernel_rfl) (by kernel_rfl)
set_option maxHeartbeats 4000000 in
set_option maxRecDepth 100000 in
theorem astKids_witness (os : Os) (H : Type) (enc : TypeId × Value -> H) : ∃ (w : World) (tape : Tape) (i : Input), w.os = os /\ (w.forCall tape i).Shaped Tryd.checked.prog /\ i.vars = [] /\ Input.okWide Tryd.checked.prog (w.forCall tape i) .any w.heap.size 7 i /\
   ((Rows.astKidsSpec.pre enc Tryd.checked.prog Tryd.f7 Rows.astKidsRow.domain false (w.forCall tape i).memory i.args /\ laidMet Tryd.prog Rows.astKidsRow.laid (w.forCall tape i).memory) /\ sizedMet enc Tryd.checked.prog Tryd.f7 (OpenSpec.ofChange Rows.astKidsSpec) false (w.forCall tape i).memory i.args) /\ ({ modest := false } : Assume).holds Tryd.checked.prog (lone (Frame.enter Tryd.checked.prog 7 i.args .normal) [] (w.forCall tape i)) :=
 (ChangeSpec.witness_at (s := Rows.astKidsSpec) (conds := Rows.astKidsRow.domain) (fn := Tryd.f7) (f := 7) (enc := enc) (C := Tryd.checked) (os := os) (X := fun w _ => laidMet Tryd.prog Rows.astKidsRow.laid w) false (laidW os) #[.agg #[.int .i64 0, .int .i64 0, .int .i64 0, .int .i64 0, .bool false, .int .u64 0, .slice none 0 0, .string ⟨#[]⟩, .slice none 0 0]] 8 rfl (by kernel_rfl) (by kernel_rfl) (by kernel_rfl) (by kernel_rfl) (by kernel_rfl) (laidW_met os _))
set_option maxHeartbeats 4000000 in
set_option maxRecDepth 100000 in
theorem astKids_lifted (os : Os) (started : os.Started) (H : Type) (enc : TypeId × Value -> H) :
  ReturnsInHanded {} Tryd.checked os 7 .any (fun w args => (Rows.astKidsSpec.pre enc Tryd.prog Tryd.f7 Rows.astKidsRow.domain false w args /\ laidMet Tryd.prog Rows.astKidsRow.laid w) /\ sizedMet enc Tryd.prog Tryd.f7 (OpenSpec.ofChange Rows.astKidsSpec) false w args)
   (Rows.astKidsSpec.post enc Tryd.prog Tryd.f7 false true false false) := by
 refine returnsInHanded_of_change_and (C := Tryd.checked) (X := fun w _ => laidMet Tryd.prog Rows.astKidsRow.laid w) (fun _ _ _ hh h => h.of_heap hh) Tryd.own started (by kernel_rfl) Tryd.func7
  (astKids_witness os H enc) ?_
 intro W base args ds gs before hval0 hW _ _ hLd _
 have hval : ∀ (j : Nat) t v, Tryd.f7.params[j]? = some t -> args[j]? = some v -> Value.okWide Tryd.prog W .any base t v := hval0
 have hW' := hW
 obtain ⟨p, q, hA0, hV, rfl, hfz, hnd⟩ := hW
 have hA : DataW.TrodAll enc Tryd.prog W 0 (fun _ => true) true Tryd.f7.params.toList args.toList ds p := hA0
 rw [Tryd.params7] at hA hval
 obtain ⟨v0, d0, rfl, rfl, h0⟩ := trodAll_one hA
 obtain ⟨rfl, rfl⟩ := trodVars_none hV
 obtain ⟨cs0, rfl, hsz0⟩ := okWide_struct Tryd.underlying42 (hval 0 42 v0 rfl rfl)
 clear hA0 hval0
 simp only [List.append_nil] at hW'
 have hL0 : FwOk W ([] : FWs) := fun i p hp => by simp at hp
 obtain ⟨fuel0, h0⟩ := h0
 obtain ⟨hwf0, hop0⟩ := zez law_tys fuel0 42 _ d0 p rfl h0
 obtain ⟨L0, xs0, hL0a, hd0, hone0, hr0⟩ := hop0 _ hL0
 obtain ⟨c0, hs0⟩ := zhJ fuel0 fuel0 (Nat.le_refl _) d0 hwf0
 have hcall := zn4 (P := Tryd.prog) (W := W) (X := axX) (l := axG) zwc law_orders (law_rowsV hLd) (f := 7) (args := [.agg (svD Tryd.prog fuel0 42 d0)]) (xs := [.agg xs0]) (vs := [.agg cs0]) hL0a
  (.cons (.agg hr0) (.nil)) (by simp only [denL, den, hd0, nm, List.map_map]; first | rfl | (simp [List.map_map, Function.comp_def, Value.cells]; done)) ((zr8 c0).arg (.cons (.agg hs0) (.nil)))
 refine hcall.mono fun e W' ⟨he, hw⟩ => ?_
 subst he
 exact ⟨_, rfl, zkz hW' rfl rfl law_laid law_rows law_full (by rw [Tryd.params7]; decide +kernel) ⟨rfl, rfl, rfl⟩ rfl Tryd.underlying4 hw⟩
theorem astKids_row : Rows.AstKidsSaid :=
 OpenClaim.holds_of_wide 7 Tryd.f7 rfl rfl rfl rfl rfl rfl rfl ⟨rfl, rfl, rfl, rfl, rfl⟩ rfl rfl rfl rfl rfl (by kernel_rfl) Tryd.func7 (by kernel_rfl)
  (of_decide_eq_true (by kernel_rfl)) (by unfold Func.isWrapper; first | (rw [if_pos (by decide +kernel)]; kernel_rfl) | (rw [if_neg (by decide +kernel)]; exact ⟨rfl, rfl⟩))
  (fun os started H enc _ => astKids_lifted os started H enc)
theorem law_noStand_n : Tryd.pinned.checked.prog.wantsStandIn 42 = false := by kernel_rfl
theorem astKids_card : Rows.AstKidsCardSaid :=
 Claim7.holds_tied_plain_at .later [] [.data, .data, .data, .widerDeep, .data] true (true, "68c6ae240927bed11a25891137df7d657c0639ffd5eb721771b63895f8b85a92") true
  astKids_row (fun _ h => by cases h) (by kernel_rfl) (fun _ h => by cases h) astKids_row_tie rfl ⟨rfl, rfl⟩ (by kernel_rfl) rfl
  (fun f fn hf hfn => by
   obtain rfl : f = 7 := Option.some.inj ((show Tryd.prog.funcNamed "partywall/partywalllaw08.AstKids" = some 7 by kernel_rfl).symm.trans hf) |>.symm
   obtain rfl : fn = Tryd.f7 := (Option.some.inj (Tryd.func7.symm.trans hfn)).symm
   exact ⟨by kernel_rfl, fun j t ht => by
    rw [Tryd.params7] at ht
    match j, ht with
    | 0, ht =>
     have ht3 : t = 42 := by simpa using ht.symm
     subst ht3
     exact law_noStand_n
    | n + 1, ht => simp at ht⟩)
  (by kernel_rfl)
#print axioms astKids_card
end Go.Proofs.YtlfhikphdkpfgaaDoor
