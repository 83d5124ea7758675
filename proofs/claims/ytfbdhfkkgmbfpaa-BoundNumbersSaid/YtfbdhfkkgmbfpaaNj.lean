import Derived.Test.YtfbdhfkkgmbfpaaNi
/-
  Numbers of a configuration. Part j: the law's own example.
-/
set_option linter.unusedSimpArgs false
set_option linter.unusedVariables false
namespace Go.Proofs.Ytfbdhfkkgmbfpaa
open Go Go.Cx

def exT : TenM := ⟨2, 3, 5, 6, 7⟩
def exC : ConfM := ⟨[⟨0, 4, 0⟩, ⟨1, 8, 0⟩, ⟨3, 1, 0⟩], exT, exT, exT, exT, exT, exT, [], 30⟩
/-- What the tenant i is after k rounds. -/
def shT (k i : Nat) : List SV := match Nat.blt i k with
  | true => tenS exT
  | false => tenS ten0
def shCells (k : Nat) (w h : SV) : List SV := w :: (shT k 0 ++ (shT k 1 ++ (shT k 2 ++ (shT k 3 ++ (shT k 4 ++ (shT k 5 ++ [.cv .nils, h]))))))
def shEl : Nat → List SV := cutEl 3 [cu 0, ci 4, ci 0, cu 1, ci 8, ci 0, cu 3, ci 1, ci 0]
def shV : SV := .agg (shCells 6 (.isl 3 3 shEl) (cu 30))
set_option maxRecDepth 100000 in
set_option maxHeartbeats 4000000 in
theorem shown_d : DSpec Try.prog noX [] 27 [ci 2, ci 3, cu 30] [] (fun v O => v = shV ∧ O = []) := by
  refine dspec_of { ann := [(3, [8])] } true Try.func27 (by kernel_rfl) rfl ?_
  repeat' (
      (conv => whnf)
      first
        | exact closedB (by kernel_rfl)
        | refine And.intro ?_ ?_
        | refine splitB_intro ?_ ?_
        | ((refine ⟨fun vs O _ => ∃ k : Nat, k ≤ 6 ∧ vs = [ci k] ∧ O = [.cells 29 (shCells 0 (.cv .nils) (cu 0)), .list 75 3 3 shEl, .cells 29 (shCells k (.lst 1) (cu 30))], fun vs O => match vs with | [.cv (.int _ k)] => 6 - k.toNat | _ => 0, ⟨0, by decide, rfl, rfl⟩, ?_⟩; rintro vs O _ ⟨k, hk, rfl, rfl⟩; obtain rfl | rfl | rfl | rfl | rfl | rfl | rfl : k = 0 ∨ k = 1 ∨ k = 2 ∨ k = 3 ∨ k = 4 ∨ k = 5 ∨ k = 6 := by omega))
        | intro _)
  all_goals first
    | rfl
    | omega
    | (simp only [inB, List.getD_eq_getElem?_getD, Bool.and_eq_true, Bool.or_eq_true, Bool.and_eq_false_iff, Bool.or_eq_false_iff, Bool.not_eq_true', Bool.not_eq_false', decide_eq_true_eq, decide_eq_false_iff_not, beq_iff_eq, bne_iff_ne, bne_eq_false_iff_eq, beq_eq_false_iff_ne, Bool.false_eq_true, Bool.true_eq_false, ne_eq, true_iff, iff_true, false_iff, iff_false, Bool.not_eq_true, Bool.not_eq_false] at *; omega)
    | exact ⟨0 + 1, by decide, rfl, rfl⟩
    | exact ⟨1 + 1, by decide, rfl, rfl⟩
    | exact ⟨2 + 1, by decide, rfl, rfl⟩
    | exact ⟨3 + 1, by decide, rfl, rfl⟩
    | exact ⟨4 + 1, by decide, rfl, rfl⟩
    | exact ⟨5 + 1, by decide, rfl, rfl⟩
theorem shArg : SameL [shV] [.agg (confS exC)] :=
  .cons (.agg (.cons (.isl fun i hi => by
    match i with
    | 0 => rfl
    | 1 => rfl
    | 2 => rfl
    | i + 3 => omega) (by
      repeat (first | exact SameL.cons (.refl _) (.cons .nils (.cons (.refl _) .nil)) | refine SameL.cons (.refl _) ?_)))) .nil
theorem exLim : Lim exC := ⟨by decide, by decide⟩
theorem ex_chk : chk exC = (0, 0) := by kernel_rfl
theorem ex_pl : pl exC = 13 := by kernel_rfl
theorem ex_pat : patOf exC 1 = (22, 0) := by kernel_rfl
theorem exPlaces_d : DSpec Try.prog noX [] 7 [shV] [] (fun v O => v = .tup [ci 13, ci 0] ∧ O = []) :=
  ((bPlaces_d exC exLim).arg shArg).mono fun v O h => ⟨h.1.trans (by unfold plR; rw [ex_pl, ex_chk]), h.2⟩
theorem exPatience_d : DSpec Try.prog noX [] 9 [shV, ci 1] [] (fun v O => v = .tup [ci 22, ci 0] ∧ O = []) :=
  ((Patience_d exC exLim 1).arg (match shArg with | .cons h _ => .cons h (.cons (.refl _) .nil))).mono fun v O h => ⟨h.1.trans (by rw [ex_pat]; rfl), h.2⟩
theorem exInTime_d : DSpec Try.prog noX [] 11 [shV, ci 1] [] (fun v O => v = .tup [cb true, ci 0] ∧ O = []) :=
  ((InTime_d exC exLim 1).arg (match shArg with | .cons h _ => .cons h (.cons (.refl _) .nil))).mono fun v O h => ⟨h.1.trans (by rw [ex_pat]; rfl), h.2⟩
set_option maxRecDepth 100000 in
theorem awake_d : DSpec Try.prog noX [] 6 [] [] (fun v O => v = cb true ∧ O = []) := by
  refine dspec_of {} true Try.func6 (by kernel_rfl) rfl ?_
  repeat' (
      (conv => whnf)
      first
        | exact closedB (by kernel_rfl)
        | refine And.intro ?_ ?_
        | refine splitB_intro ?_ ?_
        | (refine ⟨_, shown_d, ?_⟩; rintro v O' ⟨rfl, rfl⟩)
        | (refine ⟨_, exPlaces_d, ?_⟩; rintro v O' ⟨rfl, rfl⟩)
        | (refine ⟨_, exPatience_d, ?_⟩; rintro v O' ⟨rfl, rfl⟩)
        | (refine ⟨_, exInTime_d, ?_⟩; rintro v O' ⟨rfl, rfl⟩)
        | intro _)
  all_goals first
    | rfl
    | (rename_i h; cases h)
set_option maxRecDepth 100000 in
set_option maxHeartbeats 4000000 in
theorem law_d (c : ConfM) (hc : Lim c) (t : Int) : DSpec Try.prog noX [] 3 [.agg (confS c), ci t] [] (fun v O => v = cb true) := by
  refine dspec_of {} true Try.func3 (by kernel_rfl) rfl ?_
  repeat' (
      (conv => whnf)
      first
        | exact closedB (by kernel_rfl)
        | refine And.intro ?_ ?_
        | refine splitB_intro ?_ ?_
        | (refine ⟨_, LightConfig_d c hc, ?_⟩; rintro v O' ⟨rfl, rfl⟩)
        | (refine ⟨_, awake_d, ?_⟩; rintro v O' ⟨rfl, rfl⟩)
        | (refine ⟨_, bPlaces_d c hc, ?_⟩; rintro v O' ⟨rfl, rfl⟩)
        | (refine ⟨_, rbPlaces_d c hc, ?_⟩; rintro v O' ⟨rfl, rfl⟩)
        | (refine ⟨_, Patience_d c hc t, ?_⟩; rintro v O' ⟨rfl, rfl⟩)
        | (refine ⟨_, rPatience_d c hc t, ?_⟩; rintro v O' ⟨rfl, rfl⟩)
        | (refine ⟨_, InTime_d c hc t, ?_⟩; rintro v O' ⟨rfl, rfl⟩)
        | (refine ⟨_, rInTime_d c hc t, ?_⟩; rintro v O' ⟨rfl, rfl⟩)
        | (refine ⟨_, All_d c hc, ?_⟩; rintro v O' ⟨rfl, rfl⟩)
        | (refine ⟨_, rAll_d c hc, ?_⟩; rintro v O' ⟨rfl, rfl⟩)
        | (refine ⟨_, Of_d c hc t, ?_⟩; rintro v O' ⟨rfl, rfl⟩)
        | (refine ⟨_, rOf_d c hc t, ?_⟩; rintro v O' ⟨rfl, rfl⟩)
        | (refine ⟨_, Work_d c hc, ?_⟩; rintro v O' ⟨rfl, rfl⟩)
        | (refine ⟨_, rWork_d c hc, ?_⟩; rintro v O' ⟨rfl, rfl⟩)
        | (refine ⟨_, Horizon_d c hc, ?_⟩; rintro v O' ⟨rfl, rfl⟩)
        | (refine ⟨_, rHorizon_d c hc, ?_⟩; rintro v O' ⟨rfl, rfl⟩)
        | intro _)
  all_goals first
    | rfl
    | (rename_i h; simp at h)
end Go.Proofs.Ytfbdhfkkgmbfpaa
