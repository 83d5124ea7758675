import Derived.Test.YtkjdghlefdmjaaaDoorTh
set_option linter.unusedSimpArgs false
set_option linter.unusedVariables false
set_option maxRecDepth 100000
namespace Go.Proofs.YtkjdghlefdmjaaaDoor
open Go Go.Cx
theorem subN_0 {s : List Nat} {b : Int} : subN s 0 b = s.take b.toNat := by
 unfold subN; simp
theorem rl_run {s : List Nat} {j : Int} {k : Nat} (hk : k ≤ s.length) (h : ∀ i : Nat, i < k → cls (gbN s i) = j) (he : k < s.length → cls (gbN s k) ≠ j) : rl j s = k := by
 have key : ∀ m, m ≤ k → rl j s = m + rl j (s.drop m) := by
  intro m
  induction m with
  | zero => intro _; simp
  | succ m ih =>
   intro hm
   rw [ih (by omega), rl_drop j s m (by omega), if_pos (h m (by omega))]; omega
 rw [key k (Nat.le_refl _)]
 rcases Nat.lt_or_ge k s.length with h1 | h1
 ·rw [rl_drop j s k h1, if_neg (he h1)]; rfl
 ·rw [rl_end j s k h1]; rfl
theorem stepN {p : Nat → Prop} {k : Nat} (h0 : ∀ i, i < k → p i) (h : p k) : ∀ i, i < k + 1 → p i := fun i hi => by
 rcases Nat.lt_succ_iff_lt_or_eq.1 hi with h1 | rfl
 ·exact h0 _ h1
 ·exact h
theorem isPre_of {x s : List Nat} (h1 : decide ((x.length : Int) ≤ s.length) = true) (h2 : beqL (subN s 0 (x.length : Int)) x = true) : isPre x s = true := by
 unfold isPre
 rw [subN_0, Int.toNat_natCast] at h2
 have := of_decide_eq_true h1
 rw [h2, decide_eq_true (by omega)]; rfl
theorem isPre_no1 {x s : List Nat} (h2 : beqL (subN s 0 (x.length : Int)) x = false) : isPre x s = false := by
 unfold isPre
 rw [subN_0, Int.toNat_natCast] at h2
 rw [h2, Bool.and_false]
theorem isPre_no2 {x s : List Nat} (h1 : decide ((x.length : Int) ≤ s.length) = false) : isPre x s = false := by
 unfold isPre
 have := of_decide_eq_false h1
 rw [decide_eq_false (by omega)]; rfl
theorem rnum_z {s : List Nat} (h : (rnum s != 0) = false) : rnum s = 0 := by simpa using h
theorem rnum_le {s : List Nat} (h : 0 < s.length) : rnum s ≤ s.length := by
 have h1 := rl_le' 3 s 1 h
 have h0 := rl_le' 3 s 0 (Nat.zero_le _)
 by_cases h45 : gbN s 0 = 45
 ·rw [rnum_neg h45 rfl]; split
  ·omega
  ·split <;> omega
 ·rw [rnum_pos h45 rfl]; split
  ·omega
  ·split <;> omega
set_option maxHeartbeats 4000000 in
theorem begins_d (s : List Nat) (h : 0 < s.length) (hs : s.length ≤ 1000000) : DSpec Tryd.prog axX axG 22 [.cv (.str s)] [] (fun v O => ∃ t : Tok, v = .agg (tokS t) ∧ O = [] ∧ RB s t) := by
 refine dspec_of { glb := axG, ann := [(3, [3]), (13, [6])] } true Tryd.func22 (by kernel_rfl) rfl ?_
 repeat' (
   (conv => whnf)
   first
    | exact closedB (by kernel_rfl)
    | refine And.intro ?_ ?_
    | refine splitB_intro ?_ ?_
    | (refine ⟨_, small_d _, ?_⟩; rintro v O' ⟨rfl, rfl⟩)
    | (refine ⟨_, large_d _, ?_⟩; rintro v O' ⟨rfl, rfl⟩)
    | (refine ⟨_, number_d s h hs, ?_⟩; rintro v O' ⟨rfl, rfl⟩)
    | (refine ⟨_, rsigns_d, ?_⟩; rintro v O' ⟨rfl, rfl⟩)
    | ((have hz : rnum s = 0 := rnum_z (by assumption); refine ⟨fun vs O _ => ∃ k : Nat, k ≤ 17 ∧ (∀ i : Nat, i < k → isPre (sgAt i) s = false) ∧ vs = [ai k] ∧ O = [.cells 32 [ai 0, .cv (.str []), ai 0]], fun vs O => match vs with | [.cv (.int _ k)] => 17 - k.toNat | _ => 0, ⟨0, Nat.zero_le _, fun i hi => absurd hi (by omega), rfl, rfl⟩, ?_⟩; rintro vs O _ ⟨k, hk, hi, rfl, rfl⟩; obtain rfl | rfl | rfl | rfl | rfl | rfl | rfl | rfl | rfl | rfl | rfl | rfl | rfl | rfl | rfl | rfl | rfl | rfl : k = 0 ∨ k = 1 ∨ k = 2 ∨ k = 3 ∨ k = 4 ∨ k = 5 ∨ k = 6 ∨ k = 7 ∨ k = 8 ∨ k = 9 ∨ k = 10 ∨ k = 11 ∨ k = 12 ∨ k = 13 ∨ k = 14 ∨ k = 15 ∨ k = 16 ∨ k = 17 := by omega))
    | ((refine ⟨fun vs O _ => ∃ k : Nat, k ≤ s.length ∧ (∀ i : Nat, i < k → cls (gbN s i) = 1) ∧ vs = [ai k] ∧ O = [.cells 32 [ai 0, .cv (.str []), ai 0]], fun vs O => match vs with | [.cv (.int _ k)] => s.length - k.toNat | _ => 0, ⟨0, Nat.zero_le _, fun i hi => absurd hi (by omega), rfl, rfl⟩, ?_⟩; rintro vs O _ ⟨k, hk, hi, rfl, rfl⟩))
    | intro _)
 all_goals first
  | rfl
  | exact ⟨⟨4, _, 0⟩, rfl, rfl, rb_4 h (by (simp only [zz] at *; omega)) (by (simp only [zz] at *; omega)) hz (by decide) hi (isPre_of (by assumption) (by assumption)) rfl rfl⟩
  | exact ⟨_, by decide, stepN hi (isPre_no1 (by assumption)), rfl, rfl⟩
  | exact ⟨_, by decide, stepN hi (isPre_no2 (by assumption)), rfl, rfl⟩
  | omega
  | (simp only [zz] at *; omega)
  | (exfalso; (simp only [zz] at *; omega))
  | (have hl := rnum_le h; show max (rnum s) 0 ≤ (s.length : Int); omega)
  | (rename_i hz; exact ⟨k + 1, by (simp only [zz] at *; omega), stepN hi (of_decide_eq_true hz), rfl, rfl⟩)
  | exact ⟨⟨1, _, 0⟩, rfl, rfl, rb_1 h (by (simp only [zz] at *; omega)) rfl (by rw [rl_run hk hi (fun h => by (simp only [zz] at *; omega))]; exact subN_0)⟩
  | exact ⟨⟨2, _, 0⟩, rfl, rfl, rb_2 h (by (simp only [zz] at *; omega)) rfl subN_0⟩
  | exact ⟨⟨3, _, 0⟩, rfl, rfl, rb_3 h (by (simp only [zz] at *; omega)) (by (simp only [zz] at *; omega)) (by (simp only [zz] at *; omega)) rfl subN_0⟩
  | exact ⟨tok0, rfl, rfl, rb_0 h (by (simp only [zz] at *; omega)) (by (simp only [zz] at *; omega)) hz hi rfl⟩
end Go.Proofs.YtkjdghlefdmjaaaDoor
