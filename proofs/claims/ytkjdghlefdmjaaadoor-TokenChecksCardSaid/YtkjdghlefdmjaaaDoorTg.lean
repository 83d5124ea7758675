import Derived.Test.YtkjdghlefdmjaaaDoorTd
set_option linter.unusedSimpArgs false
set_option linter.unusedVariables false
set_option maxRecDepth 100000
namespace Go.Proofs.YtkjdghlefdmjaaaDoor
open Go Go.Cx
theorem cls1 {c : Int} : cls c = 1 ↔ 97 ≤ c ∧ c ≤ 122 := by unfold cls; repeat' split <;> omega
theorem cls2 {c : Int} : cls c = 2 ↔ 65 ≤ c ∧ c ≤ 90 := by unfold cls; repeat' split <;> omega
theorem cls3 {c : Int} : cls c = 3 ↔ 48 ≤ c ∧ c ≤ 57 := by unfold cls; repeat' split <;> omega
theorem cls4 {c : Int} : cls c = 4 ↔ c = 45 := by unfold cls; repeat' split <;> omega
theorem small_d (c : Int) : DSpec Tryd.prog axX axG 31 [.cv (.int .u8 c)] [] (fun v O => v = ab (decide (cls c = 1)) ∧ O = []) := by
 refine dspec_of { glb := axG } true Tryd.func31 (by kernel_rfl) rfl ?_
 repeat' (
   (conv => whnf)
   first
    | exact closedB (by kernel_rfl)
    | refine And.intro ?_ ?_
    | refine splitB_intro ?_ ?_
    | intro _)
 all_goals first
  | rfl
  | exact congrArg ab (by rw [Bool.eq_iff_iff, decide_eq_true_eq, decide_eq_true_eq, cls1]; (simp only [zz] at *; omega))
  | exact congrArg ab (by symm; rw [decide_eq_false_iff_not, cls1]; (simp only [zz] at *; omega))
theorem large_d (c : Int) : DSpec Tryd.prog axX axG 32 [.cv (.int .u8 c)] [] (fun v O => v = ab (decide (cls c = 2)) ∧ O = []) := by
 refine dspec_of { glb := axG } true Tryd.func32 (by kernel_rfl) rfl ?_
 repeat' (
   (conv => whnf)
   first
    | exact closedB (by kernel_rfl)
    | refine And.intro ?_ ?_
    | refine splitB_intro ?_ ?_
    | intro _)
 all_goals first
  | rfl
  | exact congrArg ab (by rw [Bool.eq_iff_iff, decide_eq_true_eq, decide_eq_true_eq, cls2]; (simp only [zz] at *; omega))
  | exact congrArg ab (by symm; rw [decide_eq_false_iff_not, cls2]; (simp only [zz] at *; omega))
theorem digit_d (c : Int) : DSpec Tryd.prog axX axG 46 [.cv (.int .u8 c)] [] (fun v O => v = ab (decide (cls c = 3)) ∧ O = []) := by
 refine dspec_of { glb := axG } true Tryd.func46 (by kernel_rfl) rfl ?_
 repeat' (
   (conv => whnf)
   first
    | exact closedB (by kernel_rfl)
    | refine And.intro ?_ ?_
    | refine splitB_intro ?_ ?_
    | intro _)
 all_goals first
  | rfl
  | exact congrArg ab (by rw [Bool.eq_iff_iff, decide_eq_true_eq, decide_eq_true_eq, cls3]; (simp only [zz] at *; omega))
  | exact congrArg ab (by symm; rw [decide_eq_false_iff_not, cls3]; (simp only [zz] at *; omega))
noncomputable def rnum (s : List Nat) : Int :=
 let a := if gbN s 0 = 45 then 1 else 0
 let n := a + rl 3 (s.drop a)
 if n = a then 0 else if gbN s a = 48 ∧ (a + 1 < n ∨ a = 1) then -1 else n
theorem rnum_neg {s : List Nat} {k : Nat} (h : gbN s 0 = 45) (hr : 1 + rl 3 (s.drop 1) = k) : rnum s = if k = 1 then 0 else if gbN s 1 = 48 then -1 else (k : Int) := by
 unfold rnum
 simp only [if_pos h]
 rw [hr]
 show (if k = 1 then (0 : Int) else if gbN s 1 = 48 ∧ (1 + 1 < k ∨ True) then -1 else (k : Int)) = _
 congr 2
 simp
theorem rnum_pos {s : List Nat} {k : Nat} (h : gbN s 0 ≠ 45) (hr : rl 3 (s.drop 0) = k) : rnum s = if k = 0 then 0 else if gbN s 0 = 48 ∧ 1 < k then -1 else (k : Int) := by
 unfold rnum
 simp only [if_neg h]
 rw [hr, Nat.zero_add]
 show (if k = 0 then (0 : Int) else if gbN s 0 = 48 ∧ (1 < k ∨ 0 = 1) then -1 else (k : Int)) = _
 congr 2
 simp
theorem number_d (s : List Nat) (h0 : 0 < s.length) (hs : s.length ≤ 1000000) : DSpec Tryd.prog axX axG 33 [.cv (.str s)] [] (fun v O => v = ai (rnum s) ∧ O = []) := by
 have key : ∀ (a : Nat) (k : Nat), a ≤ k → k ≤ s.length → (∀ i : Nat, a ≤ i → i < k → cls (gbN s i) = 3) → rl 3 (s.drop a) = (k - a) + rl 3 (s.drop k) := by
  intro a k
  induction k with
  | zero => intro h1 h2 _; obtain rfl : a = 0 := by omega
            simp
  | succ k ih =>
   intro h1 h2 h3
   rcases Nat.lt_or_ge k a with h | h
   ·obtain rfl : a = k + 1 := by omega
    simp
   ·rw [ih h (by omega) fun i hi hk => h3 i hi (by omega), rl_drop 3 s k (by omega), if_pos (h3 k h (by omega))]
    omega
 have hend : ∀ k : Nat, k ≤ s.length → (k < s.length → cls (gbN s k) ≠ 3) → rl 3 (s.drop k) = 0 := fun k hk h => by
  rcases Nat.lt_or_ge k s.length with h1 | h1
  ·rw [rl_drop 3 s k h1, if_neg (h h1)]
  ·exact rl_end 3 s k h1
 have hrl : ∀ a k : Nat, a ≤ k → k ≤ s.length → (∀ i : Nat, a ≤ i → i < k → cls (gbN s i) = 3) → (k < s.length → cls (gbN s k) ≠ 3) → a + rl 3 (s.drop a) = k := fun a k h1 h2 h3 h4 => by
  rw [key a k h1 h2 h3, hend k h2 h4]; omega
 have hbd := gbN_bd s
 by_cases h45 : gbN s 0 = 45
 all_goals
  refine dspec_of { glb := axG, ann := [(5, [3])] } true Tryd.func33 (by kernel_rfl) rfl ?_
  repeat' (
    (conv => whnf)
    first
     | exact closedB (by kernel_rfl)
     | refine And.intro ?_ ?_
     | refine splitB_intro ?_ ?_
     | ((refine ⟨fun vs O _ => ∃ k : Nat, (if gbN s 0 = 45 then 1 else 0) ≤ k ∧ k ≤ s.length ∧ (∀ i : Nat, (if gbN s 0 = 45 then 1 else 0) ≤ i → i < k → cls (gbN s i) = 3) ∧ vs = [ai k] ∧ O = [], fun vs O => match vs with | [.cv (.int _ k)] => s.length - k.toNat | _ => 0, ⟨if gbN s 0 = 45 then 1 else 0, Nat.le_refl _, by split <;> omega, fun i h1 h2 => absurd h2 (by omega), by (first | rw [if_pos h45] | rw [if_neg h45]); rfl, rfl⟩, ?_⟩; rintro vs O _ ⟨k, hk1, hk, hi, rfl, rfl⟩; first | rw [if_pos h45] at hk1 hi | rw [if_neg h45] at hk1 hi))
     | (refine ⟨_, digit_d _, ?_⟩; rintro v O' ⟨rfl, rfl⟩)
     | intro _)
  all_goals first
   | rfl
   | omega
   | (simp only [zz] at *; omega)
   | (exfalso; (simp only [zz] at *; omega))
   | (rename_i hz; exact ⟨k + 1, by (first | rw [if_pos h45] | rw [if_neg h45]); omega, by (simp only [zz] at *; omega), fun i h1 h2 => by
     first | rw [if_pos h45] at h1 | rw [if_neg h45] at h1
     rcases Nat.lt_succ_iff_lt_or_eq.1 h2 with h | rfl
     ·exact hi i h1 h
     ·exact of_decide_eq_true hz, rfl, rfl⟩)
   | (refine congrArg ai ?_
      rw [rnum_neg h45 (hrl 1 k hk1 hk hi (fun h => by (simp only [zz] at *; omega)))]
      first
      | rw [if_pos (by (simp only [zz] at *; omega))]
      | rw [if_neg (by (simp only [zz] at *; omega)), if_pos (by (simp only [zz] at *; omega))]
      | rw [if_neg (by (simp only [zz] at *; omega)), if_neg (by (simp only [zz] at *; omega))])
   | (refine congrArg ai ?_
      rw [rnum_pos h45 ((Nat.zero_add _).symm.trans (hrl 0 k hk1 hk hi (fun h => by (simp only [zz] at *; omega))))]
      first
      | rw [if_pos (by (simp only [zz] at *; omega))]
      | rw [if_neg (by (simp only [zz] at *; omega)), if_pos (by (simp only [zz] at *; omega))]
      | rw [if_neg (by (simp only [zz] at *; omega)), if_neg (by (simp only [zz] at *; omega))])
end Go.Proofs.YtkjdghlefdmjaaaDoor
