import Derived.Test.YtnbpkbjhekgfoaaGreatDoorNd
import Derived.Test.YtnbpkbjhekgfoaaGreatDoorGh
set_option linter.unusedSimpArgs false
set_option linter.unusedVariables false
namespace Go.Proofs.YtnbpkbjhekgfoaaGreatDoor
open Go Go.Cx
structure Lim (c : ConfM) : Prop where
 cl : c.cl.length ≤ 9223372036854775807
 rl : c.rl.length ≤ 9223372036854775807
theorem firstE_ne {f : Nat → Int} : ∀ {n i : Nat} {p : Int × Nat}, firstE f n i = some p → p.1 ≠ 0
 | 0, _, _, h => by cases h
 | n + 1, i, p, h => by
  unfold firstE at h
  split at h
  ·exact firstE_ne h
  ·cases h; assumption
theorem firstE_all {f : Nat → Int} : ∀ {n i : Nat}, firstE f n i = none → ∀ j, i ≤ j → j < i + n → f j = 0
 | 0, _, _, j, h1, h2 => by omega
 | n + 1, i, h, j, h1, h2 => by
  unfold firstE at h
  split at h
  ·by_cases hq : j = i
   ·subst hq; assumption
   ·exact firstE_all h j (by omega) (by omega)
  ·cases h
theorem pairE_zero {o : Option (Int × Nat)} {q : Int × Int} (h : (pairE o q).1 = 0) (hn : ∀ p, o = some p → p.1 ≠ 0) : o = none ∧ q.1 = 0 := by
 cases o with
 | none => exact ⟨rfl, h⟩
 | some p => exact absurd h (hn p rfl)
structure ChkOk (c : ConfM) : Prop where
 cl : c.cl.length ≤ 8
 rl : c.rl.length ≤ 8
 oc : ∀ i, i < c.cl.length → okC (c.cl.getD i default) = true
 ot : ∀ i, i < 6 → okT (c.ten i) = true
theorem chk_ok {c : ConfM} (h : (chk c).1 = 0) : ChkOk c := by
 unfold chk at h
 split at h
 ·cases h
 rename_i hq
 obtain ⟨h1, h⟩ := pairE_zero h fun p hp => firstE_ne hp
 obtain ⟨h2, h⟩ := pairE_zero h fun p hp => firstE_ne hp
 refine ⟨by omega, by omega, fun i hi => ?_, fun i hi => ?_⟩
 ·have := firstE_all h1 i (Nat.zero_le _) (by omega)
  unfold errC at this
  cases hb : okC (c.cl.getD i default) with
  | true => rfl
  | false => rw [hb] at this; simp at this
 ·have := firstE_all h2 i (Nat.zero_le _) (by omega)
  unfold errT at this
  cases hb : okT (c.ten i) with
  | true => rfl
  | false => rw [hb] at this; simp at this
def ten0 : TenM := ⟨0, 0, 0, 0, 0⟩
noncomputable def tenOf (c : ConfM) (t : Int) : TenM × Int := if (chk c).1 = 0 then (if inB t 1 6 then (c.ten (t - 1).toNat, 0) else (ten0, 2)) else (ten0, (chk c).1)
def tenR (p : TenM × Int) : SV := .tup [.agg (tenS p.1), ci p.2]
theorem tenOf_err {c : ConfM} {t : Int} (h : ((chk c).1 != 0) = true) : tenOf c t = (ten0, (chk c).1) := by
 unfold tenOf; rw [if_neg (by simpa using h)]
theorem tenOf_out {c : ConfM} {t : Int} (h : ((chk c).1 != 0) = false) (ht : inB t 1 6 = false) : tenOf c t = (ten0, 2) := by
 unfold tenOf; rw [if_pos (by simpa using h), if_neg (by simpa using ht)]
theorem tenOf_in {c : ConfM} {t : Int} (h : ((chk c).1 != 0) = false) (ht : inB t 1 6 = true) : tenOf c t = (c.ten (t - 1).toNat, 0) := by
 unfold tenOf; rw [if_pos (by simpa using h), if_pos ht]
set_option maxRecDepth 100000 in
theorem Tenant_d (c : ConfM) (hc : Lim c) (t : Int) : DSpec Tryz.prog noX [] 19 [.agg (confS c), ci t] [] (fun v O => v = tenR (tenOf c t) ∧ O = []) := by
 cases ht : inB t 1 6 with
 | false =>
  refine dspec_of {} true Tryz.func19 (by kernel_rfl) rfl ?_
  repeat' (
    (conv => whnf)
    first
     | exact closedB (by kernel_rfl)
     | refine And.intro ?_ ?_
     | refine splitB_intro ?_ ?_
     | (refine ⟨_, Check_d c hc.cl hc.rl, ?_⟩; rintro v O' ⟨rfl, rfl⟩)
     | intro _)
  all_goals first
   | rfl
   | omega
   | exact (congrArg tenR (tenOf_err (by assumption))).symm
   | exact (congrArg tenR (tenOf_out (by assumption) ht)).symm
   | (exfalso; (simp only [inB, List.getD_eq_getElem?_getD, Bool.and_eq_true, Bool.or_eq_true, Bool.and_eq_false_iff, Bool.or_eq_false_iff, Bool.not_eq_true', Bool.not_eq_false', decide_eq_true_eq, decide_eq_false_iff_not, beq_iff_eq, bne_iff_ne, bne_eq_false_iff_eq, beq_eq_false_iff_ne, Bool.false_eq_true, Bool.true_eq_false, ne_eq, true_iff, iff_true, false_iff, iff_false, Bool.not_eq_true, Bool.not_eq_false] at *; omega))
 | true =>
  obtain rfl | rfl | rfl | rfl | rfl | rfl : t = 1 ∨ t = 2 ∨ t = 3 ∨ t = 4 ∨ t = 5 ∨ t = 6 := by (simp only [inB, List.getD_eq_getElem?_getD, Bool.and_eq_true, Bool.or_eq_true, Bool.and_eq_false_iff, Bool.or_eq_false_iff, Bool.not_eq_true', Bool.not_eq_false', decide_eq_true_eq, decide_eq_false_iff_not, beq_iff_eq, bne_iff_ne, bne_eq_false_iff_eq, beq_eq_false_iff_ne, Bool.false_eq_true, Bool.true_eq_false, ne_eq, true_iff, iff_true, false_iff, iff_false, Bool.not_eq_true, Bool.not_eq_false] at *; omega)
  all_goals
   refine dspec_of {} true Tryz.func19 (by kernel_rfl) rfl ?_
   repeat' (
     (conv => whnf)
     first
      | exact closedB (by kernel_rfl)
      | refine And.intro ?_ ?_
      | refine splitB_intro ?_ ?_
      | (refine ⟨_, Check_d c hc.cl hc.rl, ?_⟩; rintro v O' ⟨rfl, rfl⟩)
      | intro _)
   all_goals first
    | rfl
    | omega
    | exact (congrArg tenR (tenOf_err (by assumption))).symm
    | exact (congrArg tenR (tenOf_in (by assumption) ht)).symm
end Go.Proofs.YtnbpkbjhekgfoaaGreatDoor
