/-
  Tokens of two texts with a blank between them, in plain Lean.
-/
import Derived.Test.YtdpoebadaomfgaaKa
set_option linter.unusedSimpArgs false
set_option linter.unusedVariables false
namespace Go.Pw
open Go Go.RowKit

theorem cls32 : cls ((32 : UInt8).toNat : Int) = 5 := by decide

theorem rl_app {k : Int} (hk : k ≠ 5) (r : List UInt8) : ∀ l, rl k (l ++ 32 :: r) = rl k l
  | [] => by simp only [List.nil_append, rl, cls32]; rw [if_neg (Ne.symm hk)]
  | c :: l => by simp only [List.cons_append, rl, rl_app hk r l]
theorem rl5_app (r : List UInt8) : ∀ l, rl 5 (l ++ 32 :: r) = if rl 5 l = l.length then l.length + 1 + rl 5 r else rl 5 l
  | [] => by simp only [List.nil_append, rl, cls32, List.length_nil, if_true]; omega
  | c :: l => by
    simp only [List.cons_append, rl, List.length_cons]
    by_cases hc : cls c.toNat = 5
    · simp only [if_pos hc, rl5_app r l]
      by_cases h : rl 5 l = l.length
      · rw [if_pos h, if_pos (by omega)]; omega
      · rw [if_neg h, if_neg (by omega)]
    · simp only [if_neg hc]
      rw [if_neg (by omega)]

theorem isPre_app (r : List UInt8) : ∀ (x l : List UInt8), (32 : UInt8) ∉ x → x.isPrefixOf (l ++ 32 :: r) = x.isPrefixOf l
  | [], l, _ => by simp
  | c :: x, [], h => by
    have hc : c ≠ 32 := fun hc => h (by simp [hc])
    simp [List.isPrefixOf, hc]
  | c :: x, d :: l, h => by
    have := isPre_app r x l (fun hx => h (List.mem_cons_of_mem _ hx))
    simp only [List.cons_append, List.isPrefixOf, this]

theorem sgs_no : ∀ x ∈ sgs, (32 : UInt8) ∉ x := by decide

theorem sgLen_app (l r : List UInt8) : sgLen (l ++ 32 :: r) = sgLen l := by
  have : ∀ q : List (List UInt8), (∀ x ∈ q, (32 : UInt8) ∉ x) → q.find? (fun x => x.isPrefixOf (l ++ 32 :: r)) = q.find? (fun x => x.isPrefixOf l) := by
    intro q
    induction q with
    | nil => intro _; rfl
    | cons x q ih =>
      intro h
      simp only [List.find?_cons, isPre_app r x l (h x (by simp)), ih (fun y hy => h y (List.mem_cons_of_mem _ hy))]
  unfold sgLen
  rw [this sgs sgs_no]

theorem nNeg_app (l r : List UInt8) : nNeg (l ++ 32 :: r) = nNeg l := rl_app (by decide) r l
theorem nDig_app (l r : List UInt8) : nDig (l ++ 32 :: r) = nDig l := by
  have h := nNeg_app l r
  have h1 := rl_le 4 l
  show rl 3 ((l ++ 32 :: r).drop (nNeg (l ++ 32 :: r))) = rl 3 (l.drop (nNeg l))
  rw [h, List.drop_append_of_le_length h1]
  exact rl_app (by decide) r _
theorem numB_app (l r : List UInt8) : numB (l ++ 32 :: r) = numB l := by
  unfold numB
  rw [nNeg_app, nDig_app]
  by_cases h : 0 < nDig l
  · have h1 : nNeg l < l.length := by
      have := rl_le 3 (l.drop (nNeg l))
      simp only [List.length_drop] at this
      have h' : 0 < rl 3 (l.drop (nNeg l)) := h
      omega
    have : gb (l ++ 32 :: r) (nNeg l : Nat) = gb l (nNeg l : Nat) := by
      simp only [gb, Int.toNat_natCast, List.getD_eq_getElem?_getD]
      rw [List.getElem?_append_left h1]
    rw [this]
  · have h0 : decide (0 < nDig l) = false := decide_eq_false h
    rw [h0]; simp
theorem beg_app (l r : List UInt8) (hl : l ≠ []) : beg (l ++ 32 :: r) = beg l := by
  cases l with
  | nil => exact absurd rfl hl
  | cons c l =>
    have h1 := rl_app (k := 1) (by decide) r (c :: l)
    have h2 := numB_app (c :: l) r
    have h3 := nNeg_app (c :: l) r
    have h4 := nDig_app (c :: l) r
    have h5 := sgLen_app (c :: l) r
    simp only [List.cons_append] at *
    simp only [beg, h1, h2, h3, h4, h5]

def shT (d : Int) (t : Tok) : Tok := ⟨t.kind, t.text, t.pos + d⟩
def shF (d : Int) (f : Flt) : Flt := ⟨f.err, f.pos + d⟩
def shN (d : Int) (r : Tok × Int × Flt) : Tok × Int × Flt := if r.2.2.err = 0 then (shT d r.1, r.2.1 + d, flt0) else (tok0, 0, shF d r.2.2)

section
variable {a b : List UInt8}

theorem nxt_end (s : List UInt8) (i p : Nat) (hi : i ≤ s.length) (hp : i + rl 5 (s.drop i) = p) : nxt s i = if p = s.length then (tok0, 0, ⟨5, (p : Int)⟩) else if (beg (s.drop p)).2 = 0 then (tok0, 0, ⟨3, (p : Int)⟩) else (⟨(beg (s.drop p)).1, (s.drop p).take (beg (s.drop p)).2, (p : Int)⟩, (p : Int) + (beg (s.drop p)).2, flt0) := by
  unfold nxt
  rw [if_neg (by omega)]
  simp only [Int.toNat_natCast, hp]

theorem nxt_left (i : Nat) (hi : i ≤ a.length) (h : (nxt a i).2.2.err ≠ 5) : nxt (a ++ 32 :: b) i = nxt a i := by
  have h1 := rl_le' 5 a i hi
  have hne : i + rl 5 (a.drop i) ≠ a.length := fun he => by
    rw [nxt_end a i _ hi rfl, if_pos he] at h
    exact h rfl
  have hd : (a ++ 32 :: b).drop i = a.drop i ++ 32 :: b := List.drop_append_of_le_length hi
  have hr : rl 5 ((a ++ 32 :: b).drop i) = rl 5 (a.drop i) := by
    rw [hd, rl5_app, if_neg (by simp only [List.length_drop]; omega)]
  have hd2 : (a ++ 32 :: b).drop (i + rl 5 (a.drop i)) = a.drop (i + rl 5 (a.drop i)) ++ 32 :: b := List.drop_append_of_le_length h1
  have hn : a.drop (i + rl 5 (a.drop i)) ≠ [] := fun hc => by
    have := congrArg List.length hc
    simp at this; omega
  rw [nxt_end _ i _ (by simp; omega) (by rw [hr]), nxt_end a i _ hi rfl, hd2, beg_app _ _ hn, if_neg (by simp; omega), if_neg hne]
  have hle := beg_le (a.drop (i + rl 5 (a.drop i)))
  rw [List.take_append_of_le_length hle]

theorem nxt_over (i : Nat) (hi : i ≤ a.length) (h : (nxt a i).2.2.err = 5) : nxt (a ++ 32 :: b) i = nxt (a ++ 32 :: b) (a.length + 1 : Nat) := by
  have h1 := rl_le' 5 a i hi
  have he : i + rl 5 (a.drop i) = a.length := by
    rw [nxt_end a i _ hi rfl] at h
    split at h
    · assumption
    · split at h <;> simp [flt0] at h
  have hd : (a ++ 32 :: b).drop i = a.drop i ++ 32 :: b := List.drop_append_of_le_length hi
  have hr : rl 5 ((a ++ 32 :: b).drop i) = a.length - i + 1 + rl 5 b := by
    rw [hd, rl5_app, if_pos (by simp only [List.length_drop]; omega), List.length_drop]
  have hd2 : (a ++ 32 :: b).drop (a.length + 1) = b := by
    rw [List.drop_append, List.drop_eq_nil_of_le (by omega)]
    simp
  rw [nxt_end _ i (a.length + 1 + rl 5 b) (by simp; omega) (by rw [hr]; omega), nxt_end _ (a.length + 1) (a.length + 1 + rl 5 b) (by simp) (by rw [hd2])]

theorem drop_over (j : Nat) : (a ++ 32 :: b).drop (a.length + 1 + j) = b.drop j := by
  rw [List.drop_append, List.drop_eq_nil_of_le (by omega), show a.length + 1 + j - a.length = j + 1 by omega]
  simp

theorem nxt_right (j : Nat) (hj : j ≤ b.length) : nxt (a ++ 32 :: b) (a.length + 1 + j : Nat) = shN (a.length + 1 : Nat) (nxt b j) := by
  have h1 := rl_le' 5 b j hj
  rw [nxt_end _ (a.length + 1 + j) (a.length + 1 + (j + rl 5 (b.drop j))) (by simp; omega) (by rw [drop_over]; omega), nxt_end b j _ hj rfl, drop_over]
  have hl : (a ++ 32 :: b).length = a.length + 1 + b.length := by simp; omega
  rw [hl]
  by_cases h5 : j + rl 5 (b.drop j) = b.length
  · rw [if_pos (by omega), if_pos h5]
    simp only [shN, shF]
    rw [if_neg (by decide)]
    simp only [Prod.mk.injEq, true_and, Flt.mk.injEq]; omega
  · rw [if_neg (by omega), if_neg h5]
    by_cases h3 : (beg (b.drop (j + rl 5 (b.drop j)))).2 = 0
    · rw [if_pos h3, if_pos h3]
      simp only [shN, shF]
      rw [if_neg (by decide)]
      simp only [Prod.mk.injEq, true_and, Flt.mk.injEq]; omega
    · rw [if_neg h3, if_neg h3]
      simp only [shN, shT, flt0, if_true, Prod.mk.injEq, Tok.mk.injEq, true_and, and_true]
      omega

theorem toksAt_right : ∀ (m j : Nat), b.length - j = m → j ≤ b.length → toksAt (a ++ 32 :: b) (a.length + 1 + j : Nat) = ((toksAt b j).1.map (shT (a.length + 1 : Nat)), shF (a.length + 1 : Nat) (toksAt b j).2) := by
  intro m
  induction m using Nat.strongRecOn with
  | _ m ih =>
    intro j hm hj
    rw [toksAt_step (s := a ++ 32 :: b) (i := (a.length + 1 + j : Nat)) (by omega) (by simp; omega), toksAt_step (s := b) (i := j) (by omega) (by omega), nxt_right j hj]
    by_cases h0 : (nxt b j).2.2.err = 0
    · have hn := nxt_next h0
      have hs : shN (a.length + 1 : Nat) (nxt b j) = (shT (a.length + 1 : Nat) (nxt b j).1, (nxt b j).2.1 + (a.length + 1 : Nat), flt0) := by unfold shN; rw [if_pos h0]
      rw [if_pos h0, hs]
      have h3 : ((nxt b j).2.1 + (a.length + 1 : Nat) : Int) = (a.length + 1 + (nxt b j).2.1.toNat : Nat) := by omega
      have h4 : (((nxt b j).2.1.toNat : Nat) : Int) = (nxt b j).2.1 := by omega
      have := ih (b.length - (nxt b j).2.1.toNat) (by omega) (nxt b j).2.1.toNat rfl (by omega)
      simp only [flt0, if_true]
      rw [h3, this, h4]
      simp only [List.map_cons]
    · have hs : shN (a.length + 1 : Nat) (nxt b j) = (tok0, 0, shF (a.length + 1 : Nat) (nxt b j).2.2) := by unfold shN; rw [if_neg h0]
      rw [if_neg h0, hs, if_neg (by simpa [shF] using h0)]
      simp

theorem toksAt_app : ∀ (m i : Nat), a.length - i = m → i ≤ a.length → toksAt (a ++ 32 :: b) i = if (toksAt a i).2.err = 5 then ((toksAt a i).1 ++ (toksAt b 0).1.map (shT (a.length + 1 : Nat)), shF (a.length + 1 : Nat) (toksAt b 0).2) else toksAt a i := by
  intro m
  induction m using Nat.strongRecOn with
  | _ m ih =>
    intro i hm hi
    rw [toksAt_step (s := a) (i := i) (by omega) (by omega)]
    by_cases h5 : (nxt a i).2.2.err = 5
    · have h0 : ¬ (nxt a i).2.2.err = 0 := by omega
      rw [if_neg h0, if_pos h5, toksAt_step (s := a ++ 32 :: b) (i := i) (by omega) (by simp; omega), nxt_over i hi h5, ← toksAt_step (s := a ++ 32 :: b) (i := (a.length + 1 : Nat)) (by omega) (by simp; omega)]
      have := toksAt_right (a := a) (b := b) _ 0 rfl (by omega)
      rw [Nat.add_zero] at this
      rw [this]; simp
    · rw [toksAt_step (s := a ++ 32 :: b) (i := i) (by omega) (by simp; omega), nxt_left i hi h5]
      by_cases h0 : (nxt a i).2.2.err = 0
      · have hn := nxt_next h0
        have h4 : (((nxt a i).2.1.toNat : Nat) : Int) = (nxt a i).2.1 := by omega
        have := ih (a.length - (nxt a i).2.1.toNat) (by omega) (nxt a i).2.1.toNat rfl (by omega)
        rw [h4] at this
        rw [if_pos h0, if_pos h0, this]
        split <;> simp
      · rw [if_neg h0, if_neg h0, if_neg h5]

theorem toks_of {s : List UInt8} (h : s.length ≤ 400) : toks s = if (toksAt s 0).2.err = 5 then ((toksAt s 0).1, flt0) else ([], (toksAt s 0).2) := by
  unfold toks; rw [if_neg (by omega)]

/-- The tokens of two texts with a blank between them. -/
theorem toks_app (ha : a.length ≤ 190) (hb : b.length ≤ 190) : toks (a ++ 32 :: b) =
    if (toks a).2.err ≠ 0 then ([], (toks a).2) else if (toks b).2.err ≠ 0 then ([], shF (a.length + 1 : Nat) (toks b).2) else ((toks a).1 ++ (toks b).1.map (shT (a.length + 1 : Nat)), flt0) := by
  have h := toksAt_app (a := a) (b := b) _ 0 rfl (by omega)
  have hna : (toksAt a 0).2.err ≠ 0 := toksF_nz' a
  have hnb : (toksAt b 0).2.err ≠ 0 := toksF_nz' b
  rw [toks_of (s := a ++ 32 :: b) (by simp; omega), toks_of (s := a) (by omega), toks_of (s := b) (by omega)]
  simp only [Int.natCast_zero] at h
  by_cases h5 : (toksAt a 0).2.err = 5
  · rw [if_pos h5] at h
    rw [h]
    by_cases g5 : (toksAt b 0).2.err = 5
    · simp [h5, g5, shF, flt0]
    · simp [h5, g5, shF, flt0, hnb]
  · rw [if_neg h5] at h
    rw [h]
    simp [h5, hna]
end
end Go.Pw
