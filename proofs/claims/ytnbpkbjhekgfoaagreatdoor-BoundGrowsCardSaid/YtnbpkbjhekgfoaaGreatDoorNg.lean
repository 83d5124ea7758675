import Derived.Test.YtnbpkbjhekgfoaaGreatDoorNf
set_option linter.unusedSimpArgs false
set_option linter.unusedVariables false
namespace Go.Proofs.YtnbpkbjhekgfoaaGreatDoor
open Go Go.Cx
noncomputable def pl (c : ConfM) : Int := placesOf c 18446744073709551615
theorem pl_bd (c : ConfM) : 0 ≤ pl c ∧ pl c ≤ 512 := by
 obtain ⟨h1, h2, h3⟩ := sum_bd (c := c) (top := 18446744073709551615) (k := (seesN c 18446744073709551615).length) (Nat.le_refl _)
 rw [List.take_of_length_le (Nat.le_refl _)] at h1 h2
 exact ⟨h1, by unfold pl placesOf; omega⟩
@[reducible] noncomputable def plR (c : ConfM) : SV := .tup [ci (pl c), ci (chk c).1]
set_option maxRecDepth 100000 in
theorem bPlaces_d (c : ConfM) (hc : Lim c) : DSpec Tryz.prog noX [] 20 [.agg (confS c)] [] (fun v O => v = plR c ∧ O = []) := by
 refine dspec_of {} true Tryz.func20 (by kernel_rfl) rfl ?_
 repeat' (
   (conv => whnf)
   first
    | exact closedB (by kernel_rfl)
    | refine And.intro ?_ ?_
    | refine splitB_intro ?_ ?_
    | (refine ⟨_, Places_d c hc 18446744073709551615, ?_⟩; rintro v O' ⟨rfl, rfl⟩)
    | intro _)
 all_goals rfl
def pat (x : TenM) (p : Int) : Int := (x.qs * (p + 1) + x.bud - 1).tdiv x.bud + 1
theorem dv {a b : Int} (ha : 0 ≤ a) (hb : 1 ≤ b) : 0 ≤ a.tdiv b ∧ a.tdiv b ≤ a ∧ a.tdiv b * b ≤ a ∧ a < a.tdiv b * b + b := by
 rw [Int.tdiv_eq_ediv_of_nonneg ha]
 have h1 := Int.ediv_nonneg ha (show 0 ≤ b by omega)
 have h2 := Int.mul_ediv_add_emod a b
 have h3 := Int.emod_nonneg a (show b ≠ 0 by omega)
 have h4 := Int.emod_lt_of_pos a (show 0 < b by omega)
 have h5 := Int.ediv_le_self b ha
 rw [Int.mul_comm] at h2
 exact ⟨h1, h5, by omega, by omega⟩
theorem pat_bd {x : TenM} {p : Int} (hx : okT x = true) (h0 : 0 ≤ p) (h1 : p ≤ 512) : 0 ≤ x.qs * (p + 1) ∧ x.qs * (p + 1) ≤ 2052 := by
 unfold okT at hx
 have hq : 0 ≤ x.qs ∧ x.qs ≤ 4 := by constructor <;> (simp only [inB, List.getD_eq_getElem?_getD, Bool.and_eq_true, Bool.or_eq_true, Bool.and_eq_false_iff, Bool.or_eq_false_iff, Bool.not_eq_true', Bool.not_eq_false', decide_eq_true_eq, decide_eq_false_iff_not, beq_iff_eq, bne_iff_ne, bne_eq_false_iff_eq, beq_eq_false_iff_ne, Bool.false_eq_true, Bool.true_eq_false, ne_eq, true_iff, iff_true, false_iff, iff_false, Bool.not_eq_true, Bool.not_eq_false] at *; omega)
 obtain ⟨q0, q1⟩ := hq
 refine ⟨Int.mul_nonneg q0 (by omega), ?_⟩
 have : x.qs * (p + 1) ≤ 4 * 513 := Int.mul_le_mul q1 (by omega) (by omega) (by omega)
 omega
theorem okT_bud {x : TenM} (hx : okT x = true) : 1 ≤ x.bud ∧ x.bud ≤ 64 := by
 unfold okT at hx
 constructor <;> (simp only [inB, List.getD_eq_getElem?_getD, Bool.and_eq_true, Bool.or_eq_true, Bool.and_eq_false_iff, Bool.or_eq_false_iff, Bool.not_eq_true', Bool.not_eq_false', decide_eq_true_eq, decide_eq_false_iff_not, beq_iff_eq, bne_iff_ne, bne_eq_false_iff_eq, beq_eq_false_iff_ne, Bool.false_eq_true, Bool.true_eq_false, ne_eq, true_iff, iff_true, false_iff, iff_false, Bool.not_eq_true, Bool.not_eq_false] at *; omega)
set_option maxRecDepth 100000 in
theorem patience_d (x : TenM) (p : Int) (hx : okT x = true) (h0 : 0 ≤ p) (h1 : p ≤ 512) : DSpec Tryz.prog noX [] 21 [.agg (tenS x), ci p] [] (fun v O => v = ci (pat x p) ∧ O = []) := by
 refine dspec_of {} true Tryz.func21 (by kernel_rfl) rfl ?_
 repeat' (
   (conv => whnf)
   first
    | exact closedB (by kernel_rfl)
    | refine And.intro ?_ ?_
    | refine splitB_intro ?_ ?_
    | intro _)
 all_goals have hb := okT_bud hx
 all_goals have hp := pat_bd hx h0 h1
 all_goals have hd := dv (a := x.qs * (p + 1) + x.bud - 1) (b := x.bud) (by omega) hb.1
 all_goals first
  | rfl
  | omega
  | (unfold okT at hx; (simp only [inB, List.getD_eq_getElem?_getD, Bool.and_eq_true, Bool.or_eq_true, Bool.and_eq_false_iff, Bool.or_eq_false_iff, Bool.not_eq_true', Bool.not_eq_false', decide_eq_true_eq, decide_eq_false_iff_not, beq_iff_eq, bne_iff_ne, bne_eq_false_iff_eq, beq_eq_false_iff_ne, Bool.false_eq_true, Bool.true_eq_false, ne_eq, true_iff, iff_true, false_iff, iff_false, Bool.not_eq_true, Bool.not_eq_false] at *; omega))
theorem tenOf_ok {c : ConfM} {t : Int} (h : ((tenOf c t).2 != 0) = false) : (chk c).1 = 0 ∧ okT (tenOf c t).1 = true := by
 unfold tenOf at h ⊢
 split at h <;> rename_i hq
 ·split at h <;> rename_i ht
  ·rw [if_pos hq, if_pos ht]
   exact ⟨hq, (chk_ok hq).ot _ (by (simp only [inB, List.getD_eq_getElem?_getD, Bool.and_eq_true, Bool.or_eq_true, Bool.and_eq_false_iff, Bool.or_eq_false_iff, Bool.not_eq_true', Bool.not_eq_false', decide_eq_true_eq, decide_eq_false_iff_not, beq_iff_eq, bne_iff_ne, bne_eq_false_iff_eq, beq_eq_false_iff_ne, Bool.false_eq_true, Bool.true_eq_false, ne_eq, true_iff, iff_true, false_iff, iff_false, Bool.not_eq_true, Bool.not_eq_false] at *; omega))⟩
  ·simp at h
 ·simp only [bne_eq_false_iff_eq] at h; exact absurd h hq
noncomputable def patOf (c : ConfM) (t : Int) : Int × Int := if (tenOf c t).2 = 0 then (pat (tenOf c t).1 (pl c), 0) else (0, (tenOf c t).2)
def twoR (p : Int × Int) : SV := .tup [ci p.1, ci p.2]
theorem patOf_err {c : ConfM} {t : Int} (h : ((tenOf c t).2 != 0) = true) : patOf c t = (0, (tenOf c t).2) := by
 unfold patOf; rw [if_neg (by simpa using h)]
theorem patOf_ok {c : ConfM} {t : Int} (h : ((tenOf c t).2 != 0) = false) : patOf c t = (pat (tenOf c t).1 (pl c), 0) := by
 unfold patOf; rw [if_pos (by simpa using h)]
set_option maxRecDepth 100000 in
theorem Patience_d (c : ConfM) (hc : Lim c) (t : Int) : DSpec Tryz.prog noX [] 7 [.agg (confS c), ci t] [] (fun v O => v = twoR (patOf c t) ∧ O = []) := by
 refine dspec_of {} true Tryz.func7 (by kernel_rfl) rfl ?_
 repeat' (
   (conv => whnf)
   first
    | exact closedB (by kernel_rfl)
    | refine And.intro ?_ ?_
    | refine splitB_intro ?_ ?_
    | (refine ⟨_, Tenant_d c hc t, ?_⟩; rintro v O' ⟨rfl, rfl⟩)
    | (refine ⟨_, bPlaces_d c hc, ?_⟩; rintro v O' ⟨rfl, rfl⟩)
    | (refine ⟨_, patience_d (tenOf c t).1 (pl c) (tenOf_ok (by assumption)).2 (pl_bd c).1 (pl_bd c).2, ?_⟩; rintro v O' ⟨rfl, rfl⟩)
    | intro _)
 all_goals first
  | rfl
  | exact (congrArg twoR (patOf_err (by assumption))).symm
  | exact (congrArg twoR (patOf_ok (by assumption))).symm
end Go.Proofs.YtnbpkbjhekgfoaaGreatDoor
