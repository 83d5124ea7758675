import Derived.Test.YtdhgpmhlnechbaaGreatDoorNo
/-
  The law BoundBelow's contract.
-/
set_option linter.unusedSimpArgs false
set_option linter.unusedVariables false
namespace Go.Proofs.YtdhgpmhlnechbaaGreatDoor
open Go Go.Cx

theorem lim_of {c : ConfM} (h : (chk c).1 = 0) : Lim c := ⟨by have := (chk_ok h).cl; omega, by have := (chk_ok h).rl; omega⟩
theorem patOf_in6 {c : ConfM} {t : Int} (h : (chk c).1 = 0) (ht : inB t 1 6 = true) : patOf c t = (pat (c.ten (t - 1).toNat) (pl c), 0) := by
  have h1 := tenOf_in (c := c) (t := t) (by simpa using h) ht
  unfold patOf; rw [h1]; rfl
set_option maxRecDepth 100000 in
set_option maxHeartbeats 4000000 in
theorem BoundBelow_d (hbk : DSpec Tryz.prog noX [] 4 [] [] (fun v O => v = cb true ∧ O = [])) (n top t : Int) : DSpec Tryz.prog noX [] 3 [ci n, cu top, ci t] [] (fun v O => v = cb true) := by
  have hK := (modI_in (n := n) (m := 1099511627776) (by decide)).1
  have hcfg := Config_d n
  have hchk := cfg_chk hK
  generalize cfgOf (modI n 1099511627776) = c at hcfg hchk
  have hmod := Mod_d t 6 (by decide) (by decide)
  have hm := modI_in (n := t) (m := 6) (by decide)
  generalize modI t 6 = u at hmod hm
  have hc0 : (chk c).1 = 0 := by rw [hchk]
  have hl := low_chk (top := top) hc0
  have hl0 : (chk (belowC c top)).1 = 0 := by rw [hl]
  have ht : inB (1 + u) 1 6 = true := inB_mk (by omega) (by omega)
  have hp1 := patOf_in6 hc0 ht
  have hp2 := patOf_in6 hl0 ht
  have hpl := low_pl (top := top) hc0
  have hten : (belowC c top).ten (1 + u - 1).toNat = c.ten (1 + u - 1).toNat := by unfold ConfM.ten belowC; split <;> rfl
  have hmono := pat_mono (x := c.ten (1 + u - 1).toNat) ((chk_ok hc0).ot _ (by omega)) (pl_bd (belowC c top)).1 hpl.2
  rw [hten] at hp2
  have d1 : DSpec Tryz.prog noX [] 8 [.agg (confS c)] [] (fun v O => v = .tup [ci (pl c), ci 0] ∧ O = []) := (bPlaces_d c (lim_of hc0)).mono fun v O h => ⟨h.1.trans (by unfold plR; rw [hc0]), h.2⟩
  have d2 : DSpec Tryz.prog noX [] 8 [.agg (confS (belowC c top))] [] (fun v O => v = .tup [ci (pl (belowC c top)), ci 0] ∧ O = []) := (bPlaces_d _ (lim_of hl0)).mono fun v O h => ⟨h.1.trans (by unfold plR; rw [hl0]), h.2⟩
  have d3 : DSpec Tryz.prog noX [] 9 [.agg (confS c), ci (1 + u)] [] (fun v O => v = .tup [ci (pat (c.ten (1 + u - 1).toNat) (pl c)), ci 0] ∧ O = []) := (Patience_d c (lim_of hc0) _).mono fun v O h => ⟨h.1.trans (by rw [hp1]; rfl), h.2⟩
  have d4 : DSpec Tryz.prog noX [] 9 [.agg (confS (belowC c top)), ci (1 + u)] [] (fun v O => v = .tup [ci (pat (c.ten (1 + u - 1).toNat) (pl (belowC c top))), ci 0] ∧ O = []) := (Patience_d _ (lim_of hl0) _).mono fun v O h => ⟨h.1.trans (by rw [hp2]; rfl), h.2⟩
  have d5 : DSpec Tryz.prog noX [] 10 [.agg (confS c), cu top] [] (fun v O => v = .tup [ci (placesOf c top), ci 0] ∧ O = []) := (rPlaces_d c (lim_of hc0) top).mono fun v O h => ⟨h.1.trans (by rw [hc0]), h.2⟩
  have d6 := rBelow_d c (chk_ok hc0).cl (chk_ok hc0).rl hc0 top (ok_d c (lim_of hc0))
  refine dspec_of {} true Tryz.func3 (by kernel_rfl) rfl ?_
  repeat' (
      (conv => whnf)
      first
        | exact closedB (by kernel_rfl)
        | refine And.intro ?_ ?_
        | refine splitB_intro ?_ ?_
        | (refine ⟨_, hbk, ?_⟩; rintro v O' ⟨rfl, rfl⟩)
        | (refine ⟨_, hcfg, ?_⟩; rintro v O' ⟨rfl, rfl⟩)
        | (refine ⟨_, d6, ?_⟩; rintro v O' ⟨rfl, rfl⟩)
        | (refine ⟨_, hmod, ?_⟩; rintro v O' ⟨rfl, rfl⟩)
        | (refine ⟨_, d1, ?_⟩; rintro v O' ⟨rfl, rfl⟩)
        | (refine ⟨_, d2, ?_⟩; rintro v O' ⟨rfl, rfl⟩)
        | (refine ⟨_, d3, ?_⟩; rintro v O' ⟨rfl, rfl⟩)
        | (refine ⟨_, d4, ?_⟩; rintro v O' ⟨rfl, rfl⟩)
        | (refine ⟨_, d5, ?_⟩; rintro v O' ⟨rfl, rfl⟩)
        | intro _)
  all_goals first
    | rfl
    | omega
    | (have h1 := hpl.1; have h2 := hpl.2; ((try (refine congrArg (fun b => SV.cv (CV.bool b)) ?_)); (try rw [Bool.eq_iff_iff]); simp only [inB, List.getD_eq_getElem?_getD, Bool.and_eq_true, Bool.or_eq_true, Bool.and_eq_false_iff, Bool.or_eq_false_iff, Bool.not_eq_true', Bool.not_eq_false', decide_eq_true_eq, decide_eq_false_iff_not, beq_iff_eq, bne_iff_ne, bne_eq_false_iff_eq, beq_eq_false_iff_ne, Bool.false_eq_true, Bool.true_eq_false, ne_eq, true_iff, iff_true, false_iff, iff_false, Bool.not_eq_true, Bool.not_eq_false] at *; first | done | omega))
    | (rename_i hz; cases hz; done)
end Go.Proofs.YtdhgpmhlnechbaaGreatDoor
