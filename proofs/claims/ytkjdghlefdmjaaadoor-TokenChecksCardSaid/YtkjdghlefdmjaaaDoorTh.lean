import Derived.Test.YtkjdghlefdmjaaaDoorTg
set_option linter.unusedSimpArgs false
set_option linter.unusedVariables false
set_option maxRecDepth 100000
namespace Go.Proofs.YtkjdghlefdmjaaaDoor
open Go Go.Cx
theorem rl4_0 {s : List Nat} (h : 0 < s.length) : rl 4 s = if gbN s 0 = 45 then rl 4 (s.drop 1) + 1 else 0 := by
 have := rl_drop 4 s 0 h
 rw [List.drop_zero] at this
 rw [this]
 by_cases h1 : gbN s 0 = 45
 ·rw [if_pos (show cls (gbN s (0 : Nat)) = 4 from cls4.2 h1), if_pos h1]
 ·rw [if_neg (show ¬ cls (gbN s (0 : Nat)) = 4 from fun hh => h1 (cls4.1 hh)), if_neg h1]
theorem rnum_yes {s : List Nat} (h : 0 < s.length) (hn : numB s = true) : rnum s = ((nNeg s + nDig s : Nat) : Int) ∧ 0 < nNeg s + nDig s := by
 simp only [numB, Bool.and_eq_true, decide_eq_true_eq, Bool.or_eq_true, Bool.not_eq_true', beq_eq_false_iff_ne, ne_eq, beq_iff_eq] at hn
 obtain ⟨h1, h2, h3⟩ := hn
 have h4 := rl4_0 h
 by_cases h45 : gbN s 0 = 45
 ·rw [if_pos h45] at h4
  have hneg : nNeg s = 1 := by have : nNeg s = rl 4 s := rfl; omega
  have hdig : nDig s = rl 3 (s.drop 1) := by unfold nDig; rw [hneg]
  rw [hneg] at h3 ⊢
  rw [hdig] at h2 h3 ⊢
  have h48 : gbN s 1 ≠ 48 := by rcases h3 with h3 | h3; exact h3; omega
  rw [rnum_neg h45 rfl, if_neg (by omega), if_neg h48]
  exact ⟨rfl, by omega⟩
 ·rw [if_neg h45] at h4
  have hneg : nNeg s = 0 := h4
  have hdig : nDig s = rl 3 (s.drop 0) := by unfold nDig; rw [hneg]
  rw [hneg] at h3 ⊢
  rw [hdig] at h2 h3 ⊢
  have h3 : ¬ gbN s 0 = 48 ∨ rl 3 (s.drop 0) = 1 ∧ True := by simpa using h3
  rw [rnum_pos h45 rfl, if_neg (by omega), if_neg (by omega), Nat.zero_add]
  exact ⟨rfl, h2⟩
theorem rnum_no {s : List Nat} (h : 0 < s.length) (hn : numB s = false) : rnum s ≤ 0 := by
 have h4 := rl4_0 h
 by_cases h45 : gbN s 0 = 45
 ·rw [rnum_neg h45 rfl]
  rw [if_pos h45] at h4
  by_cases hk : 1 + rl 3 (s.drop 1) = 1
  ·rw [if_pos hk]; exact Int.le_refl _
  ·rw [if_neg hk]
   by_cases h48 : gbN s 1 = 48
   ·rw [if_pos h48]; decide
   ·exfalso
    have hz : rl 4 (s.drop 1) = 0 := by
     rcases Nat.lt_or_ge 1 s.length with hl | hl
     ·rw [rl_drop 4 s 1 hl, if_neg]
      intro hh
      rw [rl_drop 3 s 1 hl, if_neg (by rw [hh]; decide)] at hk
      exact hk rfl
     ·exact rl_end 4 s 1 hl
    have hneg : nNeg s = 1 := by have : nNeg s = rl 4 s := rfl; omega
    have hdig : nDig s = rl 3 (s.drop 1) := by unfold nDig; rw [hneg]
    have : numB s = true := by
     unfold numB
     rw [hneg, hdig]
     have e : decide (0 < rl 3 (s.drop 1)) = true := decide_eq_true (by omega)
     have e2 : (gbN s ((1 : Nat) : Int) == 48) = false := by
      rw [beq_eq_false_iff_ne]; exact h48
     rw [e, e2]; rfl
    rw [this] at hn; cases hn
 ·rw [rnum_pos h45 rfl]
  rw [if_neg h45] at h4
  by_cases hk : rl 3 (s.drop 0) = 0
  ·rw [if_pos hk]; exact Int.le_refl _
  ·rw [if_neg hk]
   by_cases h48 : gbN s 0 = 48 ∧ 1 < rl 3 (s.drop 0)
   ·rw [if_pos h48]; decide
   ·exfalso
    have hneg : nNeg s = 0 := h4
    have hdig : nDig s = rl 3 (s.drop 0) := by unfold nDig; rw [hneg]
    have : numB s = true := by
     unfold numB
     rw [hneg, hdig]
     have h1 : 0 < rl 3 (s.drop 0) := by omega
     have h2 : gbN s 0 = 48 → rl 3 (s.drop 0) = 1 := fun hh => by omega
     by_cases h48' : gbN s 0 = 48
     ·have := h2 h48'; rw [List.drop_zero] at this; simp [this, h48']
     ·rw [List.drop_zero] at h1; simp [h1, h48']
    rw [this] at hn; cases hn
theorem rnum_else {s : List Nat} (h : 0 < s.length) (h3 : cls (gbN s 0) ≠ 3) (h4 : cls (gbN s 0) ≠ 4) : rnum s = 0 := by
 have h45 : gbN s 0 ≠ 45 := fun hh => h4 (cls4.2 hh)
 rw [rnum_pos h45 rfl, if_pos (by rw [rl_drop 3 s 0 h, if_neg (show ¬ cls (gbN s (0 : Nat)) = 3 from h3)])]
structure RB (s : List Nat) (t : Tok) : Prop where
 yes : (beg s).1 ≠ 0 → t.kind = (beg s).1 ∧ beqL t.text (s.take (beg s).2) = true
 no : (beg s).1 = 0 → t.text = []
theorem rsigns_d : DSpec Tryd.prog axX axG 34 [] [] (fun v O => v = .isl 1 17 (cutEl 1 (sgs.map fun x => .cv (.str x))) ∧ O = []) := by
 refine dspec_of { glb := axG } true Tryd.func34 (by kernel_rfl) rfl ?_
 repeat' (
   (conv => whnf)
   first
    | exact closedB (by kernel_rfl)
    | refine And.intro ?_ ?_
    | refine splitB_intro ?_ ?_
    | intro _)
 all_goals first
  | rfl
theorem head0 {s : List Nat} (h : 0 < s.length) : clsN (s.headD 0) = cls (gbN s 0) := by
 have := head_cls (s := s) (a := 0) h
 rw [List.drop_zero] at this; exact this
theorem rb_1 {s : List Nat} {t : Tok} (h : 0 < s.length) (hc : cls (gbN s 0) = 1) (hk : t.kind = 1) (ht : t.text = s.take (rl 1 s)) : RB s t := by
 rw [← head0 h] at hc
 have hb := beg_1 hc
 exact ⟨fun _ => ⟨by rw [hb, hk], by rw [hb, ht, beqL_eq]; simp⟩, fun h0 => by rw [hb] at h0; exact absurd h0 (by show ¬ (1 : Int) = 0; decide)⟩
theorem rb_2 {s : List Nat} {t : Tok} (h : 0 < s.length) (hc : cls (gbN s 0) = 2) (hk : t.kind = 2) (ht : t.text = s.take 1) : RB s t := by
 rw [← head0 h] at hc
 have hb := beg_2 hc
 exact ⟨fun _ => ⟨by rw [hb, hk], by rw [hb, ht, beqL_eq]; simp⟩, fun h0 => by rw [hb] at h0; exact absurd h0 (by show ¬ (2 : Int) = 0; decide)⟩
theorem rb_3 {s : List Nat} {t : Tok} (h : 0 < s.length) (hn1 : cls (gbN s 0) ≠ 1) (hn2 : cls (gbN s 0) ≠ 2) (hr : rnum s ≠ 0) (hk : t.kind = 3) (ht : t.text = s.take (max (rnum s) 0).toNat) : RB s t := by
 have hc : cls (gbN s 0) = 3 ∨ cls (gbN s 0) = 4 := by
  rcases Int.decEq (cls (gbN s 0)) 3 with h3 | h3
  ·rcases Int.decEq (cls (gbN s 0)) 4 with h4 | h4
   ·exact absurd (rnum_else h h3 h4) hr
   ·exact .inr h4
  ·exact .inl h3
 rw [← head0 h] at hc
 have hb := beg_3 hc
 cases hn : numB s with
 | true =>
  obtain ⟨h1, h2⟩ := rnum_yes h hn
  rw [hn, if_pos rfl] at hb
  have hm : (max (rnum s) 0).toNat = nNeg s + nDig s := by omega
  exact ⟨fun _ => ⟨by rw [hb, hk], by rw [hb, ht, hm, beqL_eq]; simp⟩, fun h0 => by rw [hb] at h0; exact absurd h0 (by show ¬ (3 : Int) = 0; decide)⟩
 | false =>
  have h1 := rnum_no h hn
  rw [hn] at hb
  have hb : beg s = (0, 0) := hb
  have hm : (max (rnum s) 0).toNat = 0 := by omega
  exact ⟨fun h0 => by rw [hb] at h0; exact absurd rfl h0, fun _ => by rw [ht, hm]; rfl⟩
theorem rb_num {s : List Nat} (h : 0 < s.length) (hr : rnum s = 0) : (cls (gbN s 0) ≠ 3 ∧ cls (gbN s 0) ≠ 4) ∨ numB s = false := by
 cases hn : numB s with
 | true => have := rnum_yes h hn; omega
 | false => exact .inr rfl
theorem rb_4 {s : List Nat} {t : Tok} {k : Nat} (h : 0 < s.length) (hn1 : cls (gbN s 0) ≠ 1) (hn2 : cls (gbN s 0) ≠ 2) (hr : rnum s = 0) (hk17 : k < 17) (h0 : ∀ i, i < k → isPre (sgAt i) s = false) (h1 : isPre (sgAt k) s = true) (hk : t.kind = 4) (ht : t.text = sgAt k) : RB s t := by
 have hs := sgLen_at s k hk17 h0 h1
 have hp := sgAt_pos k hk17
 have h1' := h1
 simp only [isPre, Bool.and_eq_true, decide_eq_true_eq] at h1'
 have hne : cls (gbN s 0) ≠ 3 ∧ cls (gbN s 0) ≠ 4 := by
  have hb := h1'.2
  rw [beqL_eq, beq_iff_eq] at hb
  have hb2 := congrArg List.head? hb
  obtain ⟨c, r, rfl⟩ : ∃ c r, s = c :: r := by cases s with
   | nil => simp at h
   | cons c r => exact ⟨c, r, rfl⟩
  have hg : gbN (c :: r) 0 = ((c % 256 : Nat) : Int) := rfl
  have hmod : ∀ {a b : Nat}, UInt8.ofNat a = UInt8.ofNat b → a % 256 = b % 256 := fun {a b} hh => by
   have := congrArg UInt8.toNat hh
   simpa using this
  clear hs h0 h1 hp hr hn1 hn2 ht
  obtain rfl | rfl | rfl | rfl | rfl | rfl | rfl | rfl | rfl | rfl | rfl | rfl | rfl | rfl | rfl | rfl | rfl : k = 0 ∨ k = 1 ∨ k = 2 ∨ k = 3 ∨ k = 4 ∨ k = 5 ∨ k = 6 ∨ k = 7 ∨ k = 8 ∨ k = 9 ∨ k = 10 ∨ k = 11 ∨ k = 12 ∨ k = 13 ∨ k = 14 ∨ k = 15 ∨ k = 16 := by omega
  all_goals
   have hb3 := hmod (Option.some.inj hb2)
   rw [hg, hb3]
   decide
 rw [← head0 h] at hne hn1 hn2
 have hb := beg_4 ⟨hn1, hn2, hne.1, hne.2⟩
 rw [if_pos (by omega), hs] at hb
 refine ⟨fun _ => ⟨by rw [hb, hk], ?_⟩, fun h0 => by rw [hb] at h0; exact absurd h0 (by show ¬ (4 : Int) = 0; decide)⟩
 rw [hb, ht]
 have := h1'.2
 rw [beqL_eq, beq_iff_eq] at this ⊢
 exact this.symm
theorem rb_0 {s : List Nat} {t : Tok} (h : 0 < s.length) (hn1 : cls (gbN s 0) ≠ 1) (hn2 : cls (gbN s 0) ≠ 2) (hr : rnum s = 0) (h0 : ∀ i, i < 17 → isPre (sgAt i) s = false) (ht : t.text = []) : RB s t := by
 have hs := sgLen_none s h0
 have hb : beg s = (0, 0) := by
  rw [← head0 h] at hn1 hn2
  rcases Int.decEq (cls (gbN s 0)) 3 with h3 | h3
  ·rcases Int.decEq (cls (gbN s 0)) 4 with h4 | h4
   ·rw [← head0 h] at h3 h4
    rw [beg_4 ⟨hn1, hn2, h3, h4⟩, hs]; rfl
   ·rcases rb_num h hr with h5 | h5
    ·exact absurd h4 h5.2
    ·rw [beg_3 (.inr (by rw [head0 h]; exact h4)), h5]; rfl
  ·rcases rb_num h hr with h5 | h5
   ·exact absurd h3 h5.1
   ·rw [beg_3 (.inl (by rw [head0 h]; exact h3)), h5]; rfl
 exact ⟨fun hh => by rw [hb] at hh; exact absurd rfl hh, fun _ => ht⟩
end Go.Proofs.YtkjdghlefdmjaaaDoor
