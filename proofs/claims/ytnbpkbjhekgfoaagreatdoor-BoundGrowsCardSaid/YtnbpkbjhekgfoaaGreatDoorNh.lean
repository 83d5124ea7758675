import Derived.Test.YtnbpkbjhekgfoaaGreatDoorNg
set_option linter.unusedSimpArgs false
set_option linter.unusedVariables false
namespace Go.Proofs.YtnbpkbjhekgfoaaGreatDoor
open Go Go.Cx
theorem pat_in {x : TenM} {p : Int} (hx : okT x = true) (h0 : 0 ≤ p) (h1 : p ≤ 512) : 0 ≤ pat x p ∧ pat x p ≤ 3000 := by
 have hb := okT_bud hx
 have hp := pat_bd hx h0 h1
 have hd := dv (a := x.qs * (p + 1) + x.bud - 1) (b := x.bud) (by omega) hb.1
 unfold pat
 omega
theorem ten_ok {c : ConfM} {i : Nat} (h : ((chk c).1 != 0) = false) (hi : i < 6) : okT (c.ten i) = true := (chk_ok (by simpa using h)).ot i hi
def maxF (f : Nat → Int) : Nat → Int
 | 0 => 0
 | k + 1 => max (maxF f k) (f k)
noncomputable def horOf (c : ConfM) : Int × Int := if (chk c).1 = 0 then (maxF (fun i => pat (c.ten i) (pl c)) 6, 0) else (0, (chk c).1)
theorem horOf_err {c : ConfM} (h : ((chk c).1 != 0) = true) : horOf c = (0, (chk c).1) := by
 unfold horOf; rw [if_neg (by simpa using h)]
theorem horOf_ok {c : ConfM} (h : ((chk c).1 != 0) = false) : horOf c = (maxF (fun i => pat (c.ten i) (pl c)) 6, 0) := by
 unfold horOf; rw [if_pos (by simpa using h)]
set_option maxRecDepth 100000 in
set_option maxHeartbeats 4000000 in
theorem Horizon_d (c : ConfM) (hc : Lim c) : DSpec Tryz.prog noX [] 9 [.agg (confS c)] [] (fun v O => v = twoR (horOf c) ∧ O = []) := by
 refine dspec_of { ann := [(6, [16, 6])] } true Tryz.func9 (by kernel_rfl) rfl ?_
 repeat' (
   (conv => whnf)
   first
    | exact closedB (by kernel_rfl)
    | refine And.intro ?_ ?_
    | refine splitB_intro ?_ ?_
    | ((refine ⟨fun vs O _ => ∃ k : Nat, k ≤ 6 ∧ vs = [ci k, ci (maxF (fun i => pat (c.ten i) (pl c)) k)] ∧ O = [.cells 30 (confS c)], fun vs O => match vs with | [.cv (.int _ k), _] => 6 - k.toNat | _ => 0, ⟨0, by decide, rfl, rfl⟩, ?_⟩; rintro vs O _ ⟨k, hk, rfl, rfl⟩; obtain rfl | rfl | rfl | rfl | rfl | rfl | rfl : k = 0 ∨ k = 1 ∨ k = 2 ∨ k = 3 ∨ k = 4 ∨ k = 5 ∨ k = 6 := by omega))
    | (refine ⟨_, bPlaces_d c hc, ?_⟩; rintro v O' ⟨rfl, rfl⟩)
    | (refine ⟨_, patience_d c.t0 (pl c) (ten_ok (i := 0) (by assumption) (by decide)) (pl_bd c).1 (pl_bd c).2, ?_⟩; rintro v O' ⟨rfl, rfl⟩)
    | (refine ⟨_, patience_d c.t1 (pl c) (ten_ok (i := 1) (by assumption) (by decide)) (pl_bd c).1 (pl_bd c).2, ?_⟩; rintro v O' ⟨rfl, rfl⟩)
    | (refine ⟨_, patience_d c.t2 (pl c) (ten_ok (i := 2) (by assumption) (by decide)) (pl_bd c).1 (pl_bd c).2, ?_⟩; rintro v O' ⟨rfl, rfl⟩)
    | (refine ⟨_, patience_d c.t3 (pl c) (ten_ok (i := 3) (by assumption) (by decide)) (pl_bd c).1 (pl_bd c).2, ?_⟩; rintro v O' ⟨rfl, rfl⟩)
    | (refine ⟨_, patience_d c.t4 (pl c) (ten_ok (i := 4) (by assumption) (by decide)) (pl_bd c).1 (pl_bd c).2, ?_⟩; rintro v O' ⟨rfl, rfl⟩)
    | (refine ⟨_, patience_d c.t5 (pl c) (ten_ok (i := 5) (by assumption) (by decide)) (pl_bd c).1 (pl_bd c).2, ?_⟩; rintro v O' ⟨rfl, rfl⟩)
    | intro _)
 all_goals first
  | rfl
  | omega
  | (simp only [inB, List.getD_eq_getElem?_getD, Bool.and_eq_true, Bool.or_eq_true, Bool.and_eq_false_iff, Bool.or_eq_false_iff, Bool.not_eq_true', Bool.not_eq_false', decide_eq_true_eq, decide_eq_false_iff_not, beq_iff_eq, bne_iff_ne, bne_eq_false_iff_eq, beq_eq_false_iff_ne, Bool.false_eq_true, Bool.true_eq_false, ne_eq, true_iff, iff_true, false_iff, iff_false, Bool.not_eq_true, Bool.not_eq_false] at *; omega)
  | exact (congrArg twoR (horOf_err (by assumption))).symm
  | exact (congrArg twoR (horOf_ok (by assumption))).symm
  | exact ⟨0 + 1, by decide, rfl, rfl⟩
  | exact ⟨1 + 1, by decide, rfl, rfl⟩
  | exact ⟨2 + 1, by decide, rfl, rfl⟩
  | exact ⟨3 + 1, by decide, rfl, rfl⟩
  | exact ⟨4 + 1, by decide, rfl, rfl⟩
  | exact ⟨5 + 1, by decide, rfl, rfl⟩
theorem ten_at {c : ConfM} (h : (chk c).1 = 0) (i : Nat) (hi : i < 6) : tenOf c (i + 1) = (c.ten i, 0) := by
 rw [tenOf_in (by simpa using h) (by ((try (refine congrArg (fun b => SV.cv (CV.bool b)) ?_)); (try rw [Bool.eq_iff_iff]); simp only [inB, List.getD_eq_getElem?_getD, Bool.and_eq_true, Bool.or_eq_true, Bool.and_eq_false_iff, Bool.or_eq_false_iff, Bool.not_eq_true', Bool.not_eq_false', decide_eq_true_eq, decide_eq_false_iff_not, beq_iff_eq, bne_iff_ne, bne_eq_false_iff_eq, beq_eq_false_iff_ne, Bool.false_eq_true, Bool.true_eq_false, ne_eq, true_iff, iff_true, false_iff, iff_false, Bool.not_eq_true, Bool.not_eq_false] at *; first | done | omega))]
 simp
theorem pat_at {c : ConfM} (h : (chk c).1 = 0) (i : Nat) (hi : i < 6) : patOf c (i + 1) = (pat (c.ten i) (pl c), 0) := by
 unfold patOf; rw [ten_at h i hi]; rfl
end Go.Proofs.YtnbpkbjhekgfoaaGreatDoor
