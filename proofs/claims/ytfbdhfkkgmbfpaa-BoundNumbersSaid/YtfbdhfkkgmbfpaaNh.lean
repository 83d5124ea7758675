import Derived.Test.YtfbdhfkkgmbfpaaNg
/-
  Numbers of a configuration. Part h: in time, the greatest numbers.
-/
set_option linter.unusedSimpArgs false
set_option linter.unusedVariables false
namespace Go.Proofs.Ytfbdhfkkgmbfpaa
open Go Go.Cx

theorem pat_in {x : TenM} {p : Int} (hx : okT x = true) (h0 : 0 ≤ p) (h1 : p ≤ 512) : 0 ≤ pat x p ∧ pat x p ≤ 3000 := by
  have hb := okT_bud hx
  have hp := pat_bd hx h0 h1
  have hd := dv (a := x.qs * (p + 1) + x.bud - 1) (b := x.bud) (by omega) hb.1
  unfold pat
  omega
theorem patOf_in {c : ConfM} {t : Int} (h : ((patOf c t).2 == 0) = true) : 0 ≤ (patOf c t).1 ∧ (patOf c t).1 ≤ 3000 := by
  cases hq : (tenOf c t).2 != 0 with
  | true => rw [patOf_err hq] at h; simp at h; simp [h] at hq
  | false => rw [patOf_ok hq]; exact pat_in (tenOf_ok hq).2 (pl_bd c).1 (pl_bd c).2
@[reducible] noncomputable def inTimeR (c : ConfM) (p : Int × Int) : SV := .tup [cb (p.2 == 0 && decide (c.hz ≥ p.1)), ci p.2]
set_option maxRecDepth 100000 in
theorem InTime_d (c : ConfM) (hc : Lim c) (t : Int) : DSpec Try.prog noX [] 11 [.agg (confS c), ci t] [] (fun v O => v = inTimeR c (patOf c t) ∧ O = []) := by
  refine dspec_of {} true Try.func11 (by kernel_rfl) rfl ?_
  repeat' (
      (conv => whnf)
      first
        | exact closedB (by kernel_rfl)
        | refine And.intro ?_ ?_
        | refine splitB_intro ?_ ?_
        | (refine ⟨_, Patience_d c hc t, ?_⟩; rintro v O' ⟨rfl, rfl⟩)
        | intro _)
  all_goals first
    | rfl
    | (have := patOf_in (c := c) (t := t) (by assumption); omega)
    | (unfold inTimeR; simp only [*]; rfl)
set_option maxRecDepth 100000 in
theorem rInTime_d (c : ConfM) (hc : Lim c) (t : Int) : DSpec Try.prog noX [] 12 [.agg (confS c), ci t] [] (fun v O => v = inTimeR c (patOf c t) ∧ O = []) := by
  refine dspec_of {} true Try.func12 (by kernel_rfl) rfl ?_
  repeat' (
      (conv => whnf)
      first
        | exact closedB (by kernel_rfl)
        | refine And.intro ?_ ?_
        | refine splitB_intro ?_ ?_
        | (refine ⟨_, rPatience_d c hc t, ?_⟩; rintro v O' ⟨rfl, rfl⟩)
        | intro _)
  all_goals first
    | rfl
    | (have := patOf_in (c := c) (t := t) (by assumption); omega)
    | (unfold inTimeR; simp only [*]; rfl)
noncomputable def ofOf (c : ConfM) (t : Int) : List Int × Int := if (tenOf c t).2 = 0 then ([(tenOf c t).1.qs * (tenOf c t).1.cap, (tenOf c t).1.bud, (tenOf c t).1.out, (tenOf c t).1.aud, 12 * ((tenOf c t).1.qs * (tenOf c t).1.cap)], 0) else ([0, 0, 0, 0, 0], (tenOf c t).2)
@[reducible] noncomputable def ofR (c : ConfM) (t : Int) : SV := .tup [.agg [ci ((ofOf c t).1.getD 0 0), ci ((ofOf c t).1.getD 1 0), ci ((ofOf c t).1.getD 2 0), ci ((ofOf c t).1.getD 3 0), ci ((ofOf c t).1.getD 4 0)], ci (ofOf c t).2]
theorem ofOf_err {c : ConfM} {t : Int} (h : ((tenOf c t).2 != 0) = true) : ofOf c t = ([0, 0, 0, 0, 0], (tenOf c t).2) := by
  unfold ofOf; rw [if_neg (by simpa using h)]
theorem ofOf_ok {c : ConfM} {t : Int} (h : ((tenOf c t).2 != 0) = false) : ofOf c t = ([(tenOf c t).1.qs * (tenOf c t).1.cap, (tenOf c t).1.bud, (tenOf c t).1.out, (tenOf c t).1.aud, 12 * ((tenOf c t).1.qs * (tenOf c t).1.cap)], 0) := by
  unfold ofOf; rw [if_pos (by simpa using h)]
theorem runs_bd {x : TenM} (hx : okT x = true) : 0 ≤ x.qs * x.cap ∧ x.qs * x.cap ≤ 256 := by
  unfold okT at hx
  have hq : 0 ≤ x.qs ∧ x.qs ≤ 4 := by constructor <;> (simp only [inB, List.getD_eq_getElem?_getD, Bool.and_eq_true, Bool.or_eq_true, Bool.and_eq_false_iff, Bool.or_eq_false_iff, Bool.not_eq_true', Bool.not_eq_false', decide_eq_true_eq, decide_eq_false_iff_not, beq_iff_eq, bne_iff_ne, bne_eq_false_iff_eq, beq_eq_false_iff_ne, Bool.false_eq_true, Bool.true_eq_false, ne_eq, true_iff, iff_true, false_iff, iff_false, Bool.not_eq_true, Bool.not_eq_false] at *; omega)
  have hc : 0 ≤ x.cap ∧ x.cap ≤ 64 := by constructor <;> (simp only [inB, List.getD_eq_getElem?_getD, Bool.and_eq_true, Bool.or_eq_true, Bool.and_eq_false_iff, Bool.or_eq_false_iff, Bool.not_eq_true', Bool.not_eq_false', decide_eq_true_eq, decide_eq_false_iff_not, beq_iff_eq, bne_iff_ne, bne_eq_false_iff_eq, beq_eq_false_iff_ne, Bool.false_eq_true, Bool.true_eq_false, ne_eq, true_iff, iff_true, false_iff, iff_false, Bool.not_eq_true, Bool.not_eq_false] at *; omega)
  refine ⟨Int.mul_nonneg hq.1 hc.1, ?_⟩
  have : x.qs * x.cap ≤ 4 * 64 := Int.mul_le_mul hq.2 hc.2 hc.1 (by omega)
  omega
set_option maxRecDepth 100000 in
theorem Of_d (c : ConfM) (hc : Lim c) (t : Int) : DSpec Try.prog noX [] 15 [.agg (confS c), ci t] [] (fun v O => v = ofR c t ∧ O = []) := by
  refine dspec_of {} true Try.func15 (by kernel_rfl) rfl ?_
  repeat' (
      (conv => whnf)
      first
        | exact closedB (by kernel_rfl)
        | refine And.intro ?_ ?_
        | refine splitB_intro ?_ ?_
        | (refine ⟨_, Tenant_d c hc t, ?_⟩; rintro v O' ⟨rfl, rfl⟩)
        | intro _)
  all_goals first
    | rfl
    | (have := runs_bd (tenOf_ok (c := c) (t := t) (by assumption)).2; omega)
    | (unfold ofR; rw [ofOf_err (by assumption)]; rfl)
    | (unfold ofR; rw [ofOf_ok (by assumption)]; rfl)
set_option maxRecDepth 100000 in
theorem rOf_d (c : ConfM) (hc : Lim c) (t : Int) : DSpec Try.prog noX [] 16 [.agg (confS c), ci t] [] (fun v O => v = ofR c t ∧ O = []) := by
  refine dspec_of {} true Try.func16 (by kernel_rfl) rfl ?_
  repeat' (
      (conv => whnf)
      first
        | exact closedB (by kernel_rfl)
        | refine And.intro ?_ ?_
        | refine splitB_intro ?_ ?_
        | (refine ⟨_, rTenant_d c hc t, ?_⟩; rintro v O' ⟨rfl, rfl⟩)
        | intro _)
  all_goals first
    | rfl
    | (have := runs_bd (tenOf_ok (c := c) (t := t) (by assumption)).2; omega)
    | (unfold ofR; rw [ofOf_err (by assumption)]; rfl)
    | (unfold ofR; rw [ofOf_ok (by assumption)]; rfl)
theorem ten_ok {c : ConfM} {i : Nat} (h : ((chk c).1 != 0) = false) (hi : i < 6) : okT (c.ten i) = true := (chk_ok (by simpa using h)).ot i hi
def maxF (f : Nat → Int) : Nat → Int
  | 0 => 0
  | k + 1 => max (maxF f k) (f k)
noncomputable def horOf (c : ConfM) : Int × Int := if (chk c).1 = 0 then (maxF (fun i => pat (c.ten i) (pl c)) 6, 0) else (0, (chk c).1)
theorem horOf_err {c : ConfM} (h : ((chk c).1 != 0) = true) : horOf c = (0, (chk c).1) := by
  unfold horOf; rw [if_neg (by simpa using h)]
theorem horOf_ok {c : ConfM} (h : ((chk c).1 != 0) = false) : horOf c = (maxF (fun i => pat (c.ten i) (pl c)) 6, 0) := by
  unfold horOf; rw [if_pos (by simpa using h)]
set_option maxRecDepth 100000 in
set_option maxHeartbeats 4000000 in
theorem Horizon_d (c : ConfM) (hc : Lim c) : DSpec Try.prog noX [] 19 [.agg (confS c)] [] (fun v O => v = twoR (horOf c) ∧ O = []) := by
  refine dspec_of { ann := [(6, [16, 6])] } true Try.func19 (by kernel_rfl) rfl ?_
  repeat' (
      (conv => whnf)
      first
        | exact closedB (by kernel_rfl)
        | refine And.intro ?_ ?_
        | refine splitB_intro ?_ ?_
        | ((refine ⟨fun vs O _ => ∃ k : Nat, k ≤ 6 ∧ vs = [ci k, ci (maxF (fun i => pat (c.ten i) (pl c)) k)] ∧ O = [.cells 29 (confS c)], fun vs O => match vs with | [.cv (.int _ k), _] => 6 - k.toNat | _ => 0, ⟨0, by decide, rfl, rfl⟩, ?_⟩; rintro vs O _ ⟨k, hk, rfl, rfl⟩; obtain rfl | rfl | rfl | rfl | rfl | rfl | rfl : k = 0 ∨ k = 1 ∨ k = 2 ∨ k = 3 ∨ k = 4 ∨ k = 5 ∨ k = 6 := by omega))
        | (refine ⟨_, bPlaces_d c hc, ?_⟩; rintro v O' ⟨rfl, rfl⟩)
        | (refine ⟨_, patience_d c.t0 (pl c) (ten_ok (i := 0) (by assumption) (by decide)) (pl_bd c).1 (pl_bd c).2, ?_⟩; rintro v O' ⟨rfl, rfl⟩)
        | (refine ⟨_, patience_d c.t1 (pl c) (ten_ok (i := 1) (by assumption) (by decide)) (pl_bd c).1 (pl_bd c).2, ?_⟩; rintro v O' ⟨rfl, rfl⟩)
        | (refine ⟨_, patience_d c.t2 (pl c) (ten_ok (i := 2) (by assumption) (by decide)) (pl_bd c).1 (pl_bd c).2, ?_⟩; rintro v O' ⟨rfl, rfl⟩)
        | (refine ⟨_, patience_d c.t3 (pl c) (ten_ok (i := 3) (by assumption) (by decide)) (pl_bd c).1 (pl_bd c).2, ?_⟩; rintro v O' ⟨rfl, rfl⟩)
        | (refine ⟨_, patience_d c.t4 (pl c) (ten_ok (i := 4) (by assumption) (by decide)) (pl_bd c).1 (pl_bd c).2, ?_⟩; rintro v O' ⟨rfl, rfl⟩)
        | (refine ⟨_, patience_d c.t5 (pl c) (ten_ok (i := 5) (by assumption) (by decide)) (pl_bd c).1 (pl_bd c).2, ?_⟩; rintro v O' ⟨rfl, rfl⟩)
        | intro _)
  all_goals first
    | rfl
    | omega
    | (simp only [inB, List.getD_eq_getElem?_getD, Bool.and_eq_true, Bool.or_eq_true, Bool.and_eq_false_iff, Bool.or_eq_false_iff, Bool.not_eq_true', Bool.not_eq_false', decide_eq_true_eq, decide_eq_false_iff_not, beq_iff_eq, bne_iff_ne, bne_eq_false_iff_eq, beq_eq_false_iff_ne, Bool.false_eq_true, Bool.true_eq_false, ne_eq, true_iff, iff_true, false_iff, iff_false, Bool.not_eq_true, Bool.not_eq_false] at *; omega)
    | exact (congrArg twoR (horOf_err (by assumption))).symm
    | exact (congrArg twoR (horOf_ok (by assumption))).symm
    | exact ⟨0 + 1, by decide, rfl, rfl⟩
    | exact ⟨1 + 1, by decide, rfl, rfl⟩
    | exact ⟨2 + 1, by decide, rfl, rfl⟩
    | exact ⟨3 + 1, by decide, rfl, rfl⟩
    | exact ⟨4 + 1, by decide, rfl, rfl⟩
    | exact ⟨5 + 1, by decide, rfl, rfl⟩
theorem ten_at {c : ConfM} (h : (chk c).1 = 0) (i : Nat) (hi : i < 6) : tenOf c (i + 1) = (c.ten i, 0) := by
  rw [tenOf_in (by simpa using h) (by ((try (refine congrArg (fun b => SV.cv (CV.bool b)) ?_)); (try rw [Bool.eq_iff_iff]); simp only [inB, List.getD_eq_getElem?_getD, Bool.and_eq_true, Bool.or_eq_true, Bool.and_eq_false_iff, Bool.or_eq_false_iff, Bool.not_eq_true', Bool.not_eq_false', decide_eq_true_eq, decide_eq_false_iff_not, beq_iff_eq, bne_iff_ne, bne_eq_false_iff_eq, beq_eq_false_iff_ne, Bool.false_eq_true, Bool.true_eq_false, ne_eq, true_iff, iff_true, false_iff, iff_false, Bool.not_eq_true, Bool.not_eq_false] at *; first | done | omega))]
  simp
theorem ten_err {c : ConfM} {t : Int} (h : ((tenOf c t).2 != 0) = true) (ht : inB t 1 6 = true) : ((chk c).1 != 0) = true ∧ (tenOf c t).2 = (chk c).1 := by
  cases hq : (chk c).1 != 0 with
  | true => exact ⟨rfl, by rw [tenOf_err hq]⟩
  | false => rw [tenOf_in hq ht] at h; simp at h
theorem pat_at {c : ConfM} (h : (chk c).1 = 0) (i : Nat) (hi : i < 6) : patOf c (i + 1) = (pat (c.ten i) (pl c), 0) := by
  unfold patOf; rw [ten_at h i hi]; rfl
theorem pat_err {c : ConfM} {t : Int} (h : ((patOf c t).2 != 0) = true) (ht : inB t 1 6 = true) : ((chk c).1 != 0) = true ∧ (patOf c t).2 = (chk c).1 := by
  cases hq : (tenOf c t).2 != 0 with
  | true => rw [patOf_err hq]; exact ten_err hq ht
  | false => rw [patOf_ok hq] at h; simp at h
theorem pat_noerr {c : ConfM} {t : Int} (h : ((patOf c t).2 != 0) = false) : (chk c).1 = 0 := by
  cases hq : (tenOf c t).2 != 0 with
  | true => rw [patOf_err hq] at h; rw [h] at hq; cases hq
  | false => exact (tenOf_ok hq).1
theorem rhor_err {c : ConfM} {k : Nat} (hk : k < 6) (hq : ((patOf c ((k + 1 : Nat) : Int)).2 != 0) = true) : SV.tup [ci 0, ci (patOf c ((k + 1 : Nat) : Int)).2] = twoR (horOf c) := by
  obtain ⟨h1, h2⟩ := pat_err hq (by ((try (refine congrArg (fun b => SV.cv (CV.bool b)) ?_)); (try rw [Bool.eq_iff_iff]); simp only [inB, List.getD_eq_getElem?_getD, Bool.and_eq_true, Bool.or_eq_true, Bool.and_eq_false_iff, Bool.or_eq_false_iff, Bool.not_eq_true', Bool.not_eq_false', decide_eq_true_eq, decide_eq_false_iff_not, beq_iff_eq, bne_iff_ne, bne_eq_false_iff_eq, beq_eq_false_iff_ne, Bool.false_eq_true, Bool.true_eq_false, ne_eq, true_iff, iff_true, false_iff, iff_false, Bool.not_eq_true, Bool.not_eq_false] at *; first | done | omega))
  rw [h2, horOf_err h1]; rfl
theorem rhor_end {c : ConfM} {k : Nat} (hk : k ≤ 6) (he : 0 < k → (chk c).1 = 0) (h : decide (((k + 1 : Nat) : Int) ≤ 6) = false) : horOf c = (maxF (fun i => pat (c.ten i) (pl c)) k, 0) := by
  have : k = 6 := by (simp only [inB, List.getD_eq_getElem?_getD, Bool.and_eq_true, Bool.or_eq_true, Bool.and_eq_false_iff, Bool.or_eq_false_iff, Bool.not_eq_true', Bool.not_eq_false', decide_eq_true_eq, decide_eq_false_iff_not, beq_iff_eq, bne_iff_ne, bne_eq_false_iff_eq, beq_eq_false_iff_ne, Bool.false_eq_true, Bool.true_eq_false, ne_eq, true_iff, iff_true, false_iff, iff_false, Bool.not_eq_true, Bool.not_eq_false] at *; omega)
  subst this
  exact horOf_ok (by simpa using he (by decide))
set_option maxRecDepth 100000 in
set_option maxHeartbeats 4000000 in
theorem rHorizon_d (c : ConfM) (hc : Lim c) : DSpec Try.prog noX [] 20 [.agg (confS c)] [] (fun v O => v = twoR (horOf c) ∧ O = []) := by
  refine dspec_of { ann := [(3, [5, 4])] } true Try.func20 (by kernel_rfl) rfl ?_
  repeat' (
      (conv => whnf)
      first
        | exact closedB (by kernel_rfl)
        | refine And.intro ?_ ?_
        | refine splitB_intro ?_ ?_
        | ((refine ⟨fun vs O _ => ∃ k : Nat, k ≤ 6 ∧ (0 < k → (chk c).1 = 0) ∧ vs = [ci ((k + 1 : Nat) : Int), ci (maxF (fun i => pat (c.ten i) (pl c)) k)] ∧ O = [.cells 29 (confS c)], fun vs O => match vs with | [.cv (.int _ k), _] => 7 - k.toNat | _ => 0, ⟨0, by decide, fun h => absurd h (by decide), rfl, rfl⟩, ?_⟩; rintro vs O _ ⟨k, hk, he, rfl, rfl⟩))
        | (refine ⟨_, rPatience_d c hc ((k + 1 : Nat) : Int), ?_⟩; rintro v O' ⟨rfl, rfl⟩)
        | intro _)
  all_goals first
    | rfl
    | omega
    | (simp only [inB, List.getD_eq_getElem?_getD, Bool.and_eq_true, Bool.or_eq_true, Bool.and_eq_false_iff, Bool.or_eq_false_iff, Bool.not_eq_true', Bool.not_eq_false', decide_eq_true_eq, decide_eq_false_iff_not, beq_iff_eq, bne_iff_ne, bne_eq_false_iff_eq, beq_eq_false_iff_ne, Bool.false_eq_true, Bool.true_eq_false, ne_eq, true_iff, iff_true, false_iff, iff_false, Bool.not_eq_true, Bool.not_eq_false] at *; omega)
    | (rename_i hq; exact rhor_err (by (simp only [inB, List.getD_eq_getElem?_getD, Bool.and_eq_true, Bool.or_eq_true, Bool.and_eq_false_iff, Bool.or_eq_false_iff, Bool.not_eq_true', Bool.not_eq_false', decide_eq_true_eq, decide_eq_false_iff_not, beq_iff_eq, bne_iff_ne, bne_eq_false_iff_eq, beq_eq_false_iff_ne, Bool.false_eq_true, Bool.true_eq_false, ne_eq, true_iff, iff_true, false_iff, iff_false, Bool.not_eq_true, Bool.not_eq_false] at *; omega)) hq)
    | (rename_i hq; have h0 := pat_noerr hq; exact ⟨k + 1, by (simp only [inB, List.getD_eq_getElem?_getD, Bool.and_eq_true, Bool.or_eq_true, Bool.and_eq_false_iff, Bool.or_eq_false_iff, Bool.not_eq_true', Bool.not_eq_false', decide_eq_true_eq, decide_eq_false_iff_not, beq_iff_eq, bne_iff_ne, bne_eq_false_iff_eq, beq_eq_false_iff_ne, Bool.false_eq_true, Bool.true_eq_false, ne_eq, true_iff, iff_true, false_iff, iff_false, Bool.not_eq_true, Bool.not_eq_false] at *; omega), fun _ => h0, by have h1 := pat_at h0 k (by (simp only [inB, List.getD_eq_getElem?_getD, Bool.and_eq_true, Bool.or_eq_true, Bool.and_eq_false_iff, Bool.or_eq_false_iff, Bool.not_eq_true', Bool.not_eq_false', decide_eq_true_eq, decide_eq_false_iff_not, beq_iff_eq, bne_iff_ne, bne_eq_false_iff_eq, beq_eq_false_iff_ne, Bool.false_eq_true, Bool.true_eq_false, ne_eq, true_iff, iff_true, false_iff, iff_false, Bool.not_eq_true, Bool.not_eq_false] at *; omega)); rw [show ((k + 1 : Nat) : Int) = (k : Int) + 1 from rfl, h1]; rfl, rfl⟩)
    | exact (congrArg twoR (rhor_end hk he (by assumption))).symm
end Go.Proofs.Ytfbdhfkkgmbfpaa
