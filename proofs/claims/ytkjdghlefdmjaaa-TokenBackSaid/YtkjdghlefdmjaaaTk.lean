import Derived.Lib.Join
set_option linter.unusedSimpArgs false
set_option linter.unusedVariables false
namespace Go.Pw
open Go
def gb (s : List UInt8) (i : Int) : Int := ((s.getD i.toNat 0).toNat : Int)
def sub (s : List UInt8) (a b : Int) : List UInt8 := (s.drop a.toNat).take (b.toNat - a.toNat)
def cls (c : Int) : Int :=
 if 97 ≤ c ∧ c ≤ 122 then 1 else if 65 ≤ c ∧ c ≤ 90 then 2 else if 48 ≤ c ∧ c ≤ 57 then 3 else if c = 45 then 4
 else if c = 32 ∨ c = 9 ∨ c = 10 ∨ c = 13 then 5 else 0
def rl (k : Int) : List UInt8 → Nat
 | [] => 0
 | c :: l => if cls c.toNat = k then rl k l + 1 else 0
theorem rl_drop (k : Int) (s : List UInt8) (i : Nat) (hi : i < s.length) : rl k (s.drop i) = if cls (gb s i) = k then rl k (s.drop (i + 1)) + 1 else 0 := by
 rw [List.drop_eq_getElem_cons hi]
 simp [rl, gb, List.getD, hi]
theorem rl_end (k : Int) (s : List UInt8) (i : Nat) (hi : s.length ≤ i) : rl k (s.drop i) = 0 := by
 rw [List.drop_eq_nil_of_le hi]; rfl
theorem rl_le (k : Int) : ∀ l, rl k l ≤ l.length
 | [] => by simp [rl]
 | c :: l => by simp only [rl]; split <;> simp; exact rl_le k l
theorem rl_le' (k : Int) (s : List UInt8) (a : Nat) (ha : a ≤ s.length) : a + rl k (s.drop a) ≤ s.length := by
 have := rl_le k (s.drop a); simp at this; omega
def sgs : List (List UInt8) := [[33, 61], [60, 61], [62, 61], [59], [124], [123], [125], [44], [40], [41], [91], [93], [64], [58], [61], [60], [62]]
def sgLen (l : List UInt8) : Nat := match sgs.find? (fun x => x.isPrefixOf l) with
 | some x => x.length
 | none => 0
abbrev nNeg (l : List UInt8) : Nat := rl 4 l
abbrev nDig (l : List UInt8) : Nat := rl 3 (l.drop (nNeg l))
def numB (l : List UInt8) : Bool :=
 decide (nNeg l ≤ 1) && (decide (0 < nDig l) && (!(gb l (nNeg l : Nat) == 48) || (nDig l == 1 && nNeg l == 0)))
def beg (l : List UInt8) : Int × Nat :=
 match l with
 | [] => (0, 0)
 | c :: _ =>
  if cls c.toNat = 1 then (1, rl 1 l) else if cls c.toNat = 2 then (2, 1)
  else if cls c.toNat = 3 ∨ cls c.toNat = 4 then (if numB l then (3, nNeg l + nDig l) else (0, 0))
  else if 0 < sgLen l then (4, sgLen l) else (0, 0)
structure Tok where
 kind : Int
 text : List UInt8
 pos : Int
 deriving DecidableEq, Inhabited
structure Flt where
 err : Int
 pos : Int
 deriving DecidableEq, Inhabited
def tok0 : Tok := ⟨0, [], 0⟩
def flt0 : Flt := ⟨0, 0⟩
def nxt (s : List UInt8) (i : Int) : Tok × Int × Flt :=
 if i < 0 ∨ (s.length : Int) < i then (tok0, 0, ⟨2, 0⟩)
 else
  let a := i.toNat + rl 5 (s.drop i.toNat)
  if a = s.length then (tok0, 0, ⟨5, a⟩)
  else
   let b := beg (s.drop a)
   if b.2 = 0 then (tok0, 0, ⟨3, a⟩) else (⟨b.1, (s.drop a).take b.2, a⟩, a + b.2, flt0)
theorem sgLen_le (l : List UInt8) : sgLen l ≤ l.length := by
 unfold sgLen
 split
 ·rename_i x hx
  have := List.find?_some hx
  exact (List.isPrefixOf_iff_prefix.1 this).length_le
 ·omega
theorem beg_le (l : List UInt8) : (beg l).2 ≤ l.length := by
 unfold beg
 split
 ·simp
 ·rename_i c r
  have h1 := rl_le 1 (c :: r)
  have h2 := rl_le 4 (c :: r)
  have h3 := rl_le 3 ((c :: r).drop (nNeg (c :: r)))
  have h4 := sgLen_le (c :: r)
  simp only [List.length_drop] at h3
  split
  ·exact h1
  ·split
   ·simp
   ·split
    ·split
     ·simp only [nNeg, nDig] at *; omega
     ·simp
    ·split
     ·exact h4
     ·simp
theorem rl5_le (s : List UInt8) (a : Nat) (h : a ≤ s.length) : a + rl 5 (s.drop a) ≤ s.length := rl_le' 5 s a h
def toksF (s : List UInt8) : Nat → Int → List Tok × Flt
 | 0, _ => ([], flt0)
 | n + 1, i =>
  if (nxt s i).2.2.err = 0 then ((nxt s i).1 :: (toksF s n (nxt s i).2.1).1, (toksF s n (nxt s i).2.1).2) else ([], (nxt s i).2.2)
def toksAt (s : List UInt8) (i : Int) : List Tok × Flt := toksF s (s.length + 1 - i.toNat) i
theorem nxt_next {s : List UInt8} {i : Int} (h : (nxt s i).2.2.err = 0) : 0 ≤ i ∧ i < (nxt s i).2.1 ∧ (nxt s i).2.1 ≤ s.length := by
 revert h
 unfold nxt
 split
 ·intro h; simp at h
 ·rename_i h0
  simp only
  have h1 := rl5_le s i.toNat (by omega)
  split
  ·intro h; simp at h
  ·rename_i h2
   split
   ·intro h; simp at h
   ·rename_i h3
    intro _
    have h4 := beg_le (s.drop (i.toNat + rl 5 (s.drop i.toNat)))
    simp only [List.length_drop] at h4
    refine ⟨by omega, ?_, ?_⟩ <;> simp only <;> omega
theorem toksF_fuel (s : List UInt8) : ∀ (n m : Nat) (i : Int), 0 ≤ i → i ≤ s.length → s.length + 1 - i.toNat ≤ n → s.length + 1 - i.toNat ≤ m → toksF s n i = toksF s m i
 | 0, _, i, h0, h1, hn, _ => by omega
 | _ + 1, 0, i, h0, h1, _, hm => by omega
 | n + 1, m + 1, i, h0, h1, hn, hm => by
  simp only [toksF]
  split
  ·rename_i h
   have := nxt_next h
   rw [toksF_fuel s n m _ (by omega) (by omega) (by omega) (by omega)]
  ·rfl
theorem toksAt_step {s : List UInt8} {i : Int} (h0 : 0 ≤ i) (h1 : i ≤ s.length) :
  toksAt s i = if (nxt s i).2.2.err = 0 then ((nxt s i).1 :: (toksAt s (nxt s i).2.1).1, (toksAt s (nxt s i).2.1).2) else ([], (nxt s i).2.2) := by
 unfold toksAt
 obtain ⟨n, hn⟩ : ∃ n, s.length + 1 - i.toNat = n + 1 := ⟨s.length - i.toNat, by omega⟩
 rw [hn]
 simp only [toksF]
 split
 ·rename_i h
  have := nxt_next h
  rw [toksF_fuel s n (s.length + 1 - (nxt s i).2.1.toNat) _ (by omega) (by omega) (by omega) (by omega)]
 ·rfl
theorem toksF_nz (s : List UInt8) : ∀ (n : Nat) (i : Int), 0 ≤ i → i ≤ s.length → s.length + 1 - i.toNat ≤ n → (toksF s n i).2.err ≠ 0
 | 0, i, h0, h1, hn => by omega
 | n + 1, i, h0, h1, hn => by
  simp only [toksF]; split
  ·rename_i h
   have := nxt_next h
   exact toksF_nz s n _ (by omega) (by omega) (by omega)
  ·assumption
theorem toksF_nz' (s : List UInt8) : (toksAt s 0).2.err ≠ 0 := toksF_nz s _ 0 (by omega) (by omega) (by omega)
def toks (s : List UInt8) : List Tok × Flt :=
 if 400 < s.length then ([], ⟨4, 400⟩)
 else if (toksAt s 0).2.err = 5 then ((toksAt s 0).1, flt0) else ([], (toksAt s 0).2)
theorem sub_nat (s : List UInt8) (a k : Nat) : sub s (a : Nat) ((a + k : Nat) : Int) = (s.drop a).take k := by
 simp only [sub, Int.toNat_natCast]
 rw [show a + k - a = k by omega]
section
theorem cls32 : cls ((32 : UInt8).toNat : Int) = 5 := by decide
theorem rl_app {k : Int} (hk : k ≠ 5) (r : List UInt8) : ∀ l, rl k (l ++ 32 :: r) = rl k l
 | [] => by simp only [List.nil_append, rl, cls32]; rw [if_neg (Ne.symm hk)]
 | c :: l => by simp only [List.cons_append, rl, rl_app hk r l]
theorem rl5_app (r : List UInt8) : ∀ l, rl 5 (l ++ 32 :: r) = if rl 5 l = l.length then l.length + 1 + rl 5 r else rl 5 l
 | [] => by simp only [List.nil_append, rl, cls32, List.length_nil, if_true]; omega
 | c :: l => by
  simp only [List.cons_append, rl, List.length_cons]
  by_cases hc : cls c.toNat = 5
  ·simp only [if_pos hc, rl5_app r l]
   by_cases h : rl 5 l = l.length
   ·rw [if_pos h, if_pos (by omega)]; omega
   ·rw [if_neg h, if_neg (by omega)]
  ·simp only [if_neg hc]
   rw [if_neg (by omega)]
theorem isPre_app (r : List UInt8) : ∀ (x l : List UInt8), (32 : UInt8) ∉ x → x.isPrefixOf (l ++ 32 :: r) = x.isPrefixOf l
 | [], l, _ => by simp
 | c :: x, [], h => by
  have hc : c ≠ 32 := fun hc => h (by simp [hc])
  simp [List.isPrefixOf, hc]
 | c :: x, d :: l, h => by
  have := isPre_app r x l (fun hx => h (List.mem_cons_of_mem _ hx))
  simp only [List.cons_append, List.isPrefixOf, this]
theorem sgs_no : ∀ x ∈ sgs, (32 : UInt8) ∉ x := by decide
theorem sgLen_app (l r : List UInt8) : sgLen (l ++ 32 :: r) = sgLen l := by
 have : ∀ q : List (List UInt8), (∀ x ∈ q, (32 : UInt8) ∉ x) → q.find? (fun x => x.isPrefixOf (l ++ 32 :: r)) = q.find? (fun x => x.isPrefixOf l) := by
  intro q
  induction q with
  | nil => intro _; rfl
  | cons x q ih =>
   intro h
   simp only [List.find?_cons, isPre_app r x l (h x (by simp)), ih (fun y hy => h y (List.mem_cons_of_mem _ hy))]
 unfold sgLen
 rw [this sgs sgs_no]
theorem nNeg_app (l r : List UInt8) : nNeg (l ++ 32 :: r) = nNeg l := rl_app (by decide) r l
theorem nDig_app (l r : List UInt8) : nDig (l ++ 32 :: r) = nDig l := by
 have h := nNeg_app l r
 have h1 := rl_le 4 l
 show rl 3 ((l ++ 32 :: r).drop (nNeg (l ++ 32 :: r))) = rl 3 (l.drop (nNeg l))
 rw [h, List.drop_append_of_le_length h1]
 exact rl_app (by decide) r _
theorem numB_app (l r : List UInt8) : numB (l ++ 32 :: r) = numB l := by
 unfold numB
 rw [nNeg_app, nDig_app]
 by_cases h : 0 < nDig l
 ·have h1 : nNeg l < l.length := by
   have := rl_le 3 (l.drop (nNeg l))
   simp only [List.length_drop] at this
   have h' : 0 < rl 3 (l.drop (nNeg l)) := h
   omega
  have : gb (l ++ 32 :: r) (nNeg l : Nat) = gb l (nNeg l : Nat) := by
   simp only [gb, Int.toNat_natCast, List.getD_eq_getElem?_getD]
   rw [List.getElem?_append_left h1]
  rw [this]
 ·have h0 : decide (0 < nDig l) = false := decide_eq_false h
  rw [h0]; simp
theorem beg_app (l r : List UInt8) (hl : l ≠ []) : beg (l ++ 32 :: r) = beg l := by
 cases l with
 | nil => exact absurd rfl hl
 | cons c l =>
  have h1 := rl_app (k := 1) (by decide) r (c :: l)
  have h2 := numB_app (c :: l) r
  have h3 := nNeg_app (c :: l) r
  have h4 := nDig_app (c :: l) r
  have h5 := sgLen_app (c :: l) r
  simp only [List.cons_append] at *
  simp only [beg, h1, h2, h3, h4, h5]
def shT (d : Int) (t : Tok) : Tok := ⟨t.kind, t.text, t.pos + d⟩
def shF (d : Int) (f : Flt) : Flt := ⟨f.err, f.pos + d⟩
def shN (d : Int) (r : Tok × Int × Flt) : Tok × Int × Flt := if r.2.2.err = 0 then (shT d r.1, r.2.1 + d, flt0) else (tok0, 0, shF d r.2.2)
section
variable {a b : List UInt8}
theorem nxt_end (s : List UInt8) (i p : Nat) (hi : i ≤ s.length) (hp : i + rl 5 (s.drop i) = p) : nxt s i = if p = s.length then (tok0, 0, ⟨5, (p : Int)⟩) else if (beg (s.drop p)).2 = 0 then (tok0, 0, ⟨3, (p : Int)⟩) else (⟨(beg (s.drop p)).1, (s.drop p).take (beg (s.drop p)).2, (p : Int)⟩, (p : Int) + (beg (s.drop p)).2, flt0) := by
 unfold nxt
 rw [if_neg (by omega)]
 simp only [Int.toNat_natCast, hp]
theorem nxt_left (i : Nat) (hi : i ≤ a.length) (h : (nxt a i).2.2.err ≠ 5) : nxt (a ++ 32 :: b) i = nxt a i := by
 have h1 := rl_le' 5 a i hi
 have hne : i + rl 5 (a.drop i) ≠ a.length := fun he => by
  rw [nxt_end a i _ hi rfl, if_pos he] at h
  exact h rfl
 have hd : (a ++ 32 :: b).drop i = a.drop i ++ 32 :: b := List.drop_append_of_le_length hi
 have hr : rl 5 ((a ++ 32 :: b).drop i) = rl 5 (a.drop i) := by
  rw [hd, rl5_app, if_neg (by simp only [List.length_drop]; omega)]
 have hd2 : (a ++ 32 :: b).drop (i + rl 5 (a.drop i)) = a.drop (i + rl 5 (a.drop i)) ++ 32 :: b := List.drop_append_of_le_length h1
 have hn : a.drop (i + rl 5 (a.drop i)) ≠ [] := fun hc => by
  have := congrArg List.length hc
  simp at this; omega
 rw [nxt_end _ i _ (by simp; omega) (by rw [hr]), nxt_end a i _ hi rfl, hd2, beg_app _ _ hn, if_neg (by simp; omega), if_neg hne]
 have hle := beg_le (a.drop (i + rl 5 (a.drop i)))
 rw [List.take_append_of_le_length hle]
theorem nxt_over (i : Nat) (hi : i ≤ a.length) (h : (nxt a i).2.2.err = 5) : nxt (a ++ 32 :: b) i = nxt (a ++ 32 :: b) (a.length + 1 : Nat) := by
 have h1 := rl_le' 5 a i hi
 have he : i + rl 5 (a.drop i) = a.length := by
  rw [nxt_end a i _ hi rfl] at h
  split at h
  ·assumption
  ·split at h <;> simp [flt0] at h
 have hd : (a ++ 32 :: b).drop i = a.drop i ++ 32 :: b := List.drop_append_of_le_length hi
 have hr : rl 5 ((a ++ 32 :: b).drop i) = a.length - i + 1 + rl 5 b := by
  rw [hd, rl5_app, if_pos (by simp only [List.length_drop]; omega), List.length_drop]
 have hd2 : (a ++ 32 :: b).drop (a.length + 1) = b := by
  rw [List.drop_append, List.drop_eq_nil_of_le (by omega)]
  simp
 rw [nxt_end _ i (a.length + 1 + rl 5 b) (by simp; omega) (by rw [hr]; omega), nxt_end _ (a.length + 1) (a.length + 1 + rl 5 b) (by simp) (by rw [hd2])]
theorem drop_over (j : Nat) : (a ++ 32 :: b).drop (a.length + 1 + j) = b.drop j := by
 rw [List.drop_append, List.drop_eq_nil_of_le (by omega), show a.length + 1 + j - a.length = j + 1 by omega]
 simp
theorem nxt_right (j : Nat) (hj : j ≤ b.length) : nxt (a ++ 32 :: b) (a.length + 1 + j : Nat) = shN (a.length + 1 : Nat) (nxt b j) := by
 have h1 := rl_le' 5 b j hj
 rw [nxt_end _ (a.length + 1 + j) (a.length + 1 + (j + rl 5 (b.drop j))) (by simp; omega) (by rw [drop_over]; omega), nxt_end b j _ hj rfl, drop_over]
 have hl : (a ++ 32 :: b).length = a.length + 1 + b.length := by simp; omega
 rw [hl]
 by_cases h5 : j + rl 5 (b.drop j) = b.length
 ·rw [if_pos (by omega), if_pos h5]
  simp only [shN, shF]
  rw [if_neg (by decide)]
  simp only [Prod.mk.injEq, true_and, Flt.mk.injEq]; omega
 ·rw [if_neg (by omega), if_neg h5]
  by_cases h3 : (beg (b.drop (j + rl 5 (b.drop j)))).2 = 0
  ·rw [if_pos h3, if_pos h3]
   simp only [shN, shF]
   rw [if_neg (by decide)]
   simp only [Prod.mk.injEq, true_and, Flt.mk.injEq]; omega
  ·rw [if_neg h3, if_neg h3]
   simp only [shN, shT, flt0, if_true, Prod.mk.injEq, Tok.mk.injEq, true_and, and_true]
   omega
theorem toksAt_right : ∀ (m j : Nat), b.length - j = m → j ≤ b.length → toksAt (a ++ 32 :: b) (a.length + 1 + j : Nat) = ((toksAt b j).1.map (shT (a.length + 1 : Nat)), shF (a.length + 1 : Nat) (toksAt b j).2) := by
 intro m
 induction m using Nat.strongRecOn with
 | _ m ih =>
  intro j hm hj
  rw [toksAt_step (s := a ++ 32 :: b) (i := (a.length + 1 + j : Nat)) (by omega) (by simp; omega), toksAt_step (s := b) (i := j) (by omega) (by omega), nxt_right j hj]
  by_cases h0 : (nxt b j).2.2.err = 0
  ·have hn := nxt_next h0
   have hs : shN (a.length + 1 : Nat) (nxt b j) = (shT (a.length + 1 : Nat) (nxt b j).1, (nxt b j).2.1 + (a.length + 1 : Nat), flt0) := by unfold shN; rw [if_pos h0]
   rw [if_pos h0, hs]
   have h3 : ((nxt b j).2.1 + (a.length + 1 : Nat) : Int) = (a.length + 1 + (nxt b j).2.1.toNat : Nat) := by omega
   have h4 : (((nxt b j).2.1.toNat : Nat) : Int) = (nxt b j).2.1 := by omega
   have := ih (b.length - (nxt b j).2.1.toNat) (by omega) (nxt b j).2.1.toNat rfl (by omega)
   simp only [flt0, if_true]
   rw [h3, this, h4]
   simp only [List.map_cons]
  ·have hs : shN (a.length + 1 : Nat) (nxt b j) = (tok0, 0, shF (a.length + 1 : Nat) (nxt b j).2.2) := by unfold shN; rw [if_neg h0]
   rw [if_neg h0, hs, if_neg (by simpa [shF] using h0)]
   simp
theorem toksAt_app : ∀ (m i : Nat), a.length - i = m → i ≤ a.length → toksAt (a ++ 32 :: b) i = if (toksAt a i).2.err = 5 then ((toksAt a i).1 ++ (toksAt b 0).1.map (shT (a.length + 1 : Nat)), shF (a.length + 1 : Nat) (toksAt b 0).2) else toksAt a i := by
 intro m
 induction m using Nat.strongRecOn with
 | _ m ih =>
  intro i hm hi
  rw [toksAt_step (s := a) (i := i) (by omega) (by omega)]
  by_cases h5 : (nxt a i).2.2.err = 5
  ·have h0 : ¬ (nxt a i).2.2.err = 0 := by omega
   rw [if_neg h0, if_pos h5, toksAt_step (s := a ++ 32 :: b) (i := i) (by omega) (by simp; omega), nxt_over i hi h5, ← toksAt_step (s := a ++ 32 :: b) (i := (a.length + 1 : Nat)) (by omega) (by simp; omega)]
   have := toksAt_right (a := a) (b := b) _ 0 rfl (by omega)
   rw [Nat.add_zero] at this
   rw [this]; simp
  ·rw [toksAt_step (s := a ++ 32 :: b) (i := i) (by omega) (by simp; omega), nxt_left i hi h5]
   by_cases h0 : (nxt a i).2.2.err = 0
   ·have hn := nxt_next h0
    have h4 : (((nxt a i).2.1.toNat : Nat) : Int) = (nxt a i).2.1 := by omega
    have := ih (a.length - (nxt a i).2.1.toNat) (by omega) (nxt a i).2.1.toNat rfl (by omega)
    rw [h4] at this
    rw [if_pos h0, if_pos h0, this]
    split <;> simp
   ·rw [if_neg h0, if_neg h0, if_neg h5]
theorem toks_of {s : List UInt8} (h : s.length ≤ 400) : toks s = if (toksAt s 0).2.err = 5 then ((toksAt s 0).1, flt0) else ([], (toksAt s 0).2) := by
 unfold toks; rw [if_neg (by omega)]
theorem toks_app (ha : a.length ≤ 190) (hb : b.length ≤ 190) : toks (a ++ 32 :: b) =
  if (toks a).2.err ≠ 0 then ([], (toks a).2) else if (toks b).2.err ≠ 0 then ([], shF (a.length + 1 : Nat) (toks b).2) else ((toks a).1 ++ (toks b).1.map (shT (a.length + 1 : Nat)), flt0) := by
 have h := toksAt_app (a := a) (b := b) _ 0 rfl (by omega)
 have hna : (toksAt a 0).2.err ≠ 0 := toksF_nz' a
 have hnb : (toksAt b 0).2.err ≠ 0 := toksF_nz' b
 rw [toks_of (s := a ++ 32 :: b) (by simp; omega), toks_of (s := a) (by omega), toks_of (s := b) (by omega)]
 simp only [Int.natCast_zero] at h
 by_cases h5 : (toksAt a 0).2.err = 5
 ·rw [if_pos h5] at h
  rw [h]
  by_cases g5 : (toksAt b 0).2.err = 5
  ·simp [h5, g5, shF, flt0]
  ·simp [h5, g5, shF, flt0, hnb]
 ·rw [if_neg h5] at h
  rw [h]
  simp [h5, hna]
end
end
section
def isBl (x : UInt8) : Bool := decide (cls x.toNat = 5)
section
variable {x : UInt8} (hx : cls x.toNat = 5)
include hx
theorem rlx_app {k : Int} (hk : k ≠ 5) (r : List UInt8) : ∀ l, rl k (l ++ x :: r) = rl k l
 | [] => by simp only [List.nil_append, rl, hx]; rw [if_neg (Ne.symm hk)]
 | c :: l => by simp only [List.cons_append, rl, rlx_app hk r l]
omit hx in
theorem isPrex_app (r : List UInt8) : ∀ (y l : List UInt8), x ∉ y → y.isPrefixOf (l ++ x :: r) = y.isPrefixOf l
 | [], l, _ => by simp
 | c :: y, [], h => by
  have hc : c ≠ x := fun hc => h (by simp [hc])
  simp [List.isPrefixOf, hc]
 | c :: y, d :: l, h => by
  have := isPrex_app r y l (fun hx => h (List.mem_cons_of_mem _ hx))
  simp only [List.cons_append, List.isPrefixOf, this]
omit hx in
theorem sgs_nobl : ∀ y ∈ sgs, ∀ c ∈ y, cls (c.toNat : Int) ≠ 5 := by decide
theorem sgLenx_app (l r : List UInt8) : sgLen (l ++ x :: r) = sgLen l := by
 have : ∀ q : List (List UInt8), (∀ y ∈ q, x ∉ y) → q.find? (fun y => y.isPrefixOf (l ++ x :: r)) = q.find? (fun y => y.isPrefixOf l) := by
  intro q
  induction q with
  | nil => intro _; rfl
  | cons y q ih =>
   intro h
   simp only [List.find?_cons, isPrex_app r y l (h y (by simp)), ih (fun z hz => h z (List.mem_cons_of_mem _ hz))]
 unfold sgLen
 rw [this sgs (fun y hy hxy => sgs_nobl y hy x hxy hx)]
theorem nNegx_app (l r : List UInt8) : nNeg (l ++ x :: r) = nNeg l := rlx_app hx (by decide) r l
theorem nDigx_app (l r : List UInt8) : nDig (l ++ x :: r) = nDig l := by
 have h := nNegx_app hx l r
 have h1 := rl_le 4 l
 show rl 3 ((l ++ x :: r).drop (nNeg (l ++ x :: r))) = rl 3 (l.drop (nNeg l))
 rw [h, List.drop_append_of_le_length h1]
 exact rlx_app hx (by decide) r _
theorem numBx_app (l r : List UInt8) : numB (l ++ x :: r) = numB l := by
 unfold numB
 rw [nNegx_app hx, nDigx_app hx]
 by_cases h : 0 < nDig l
 ·have h1 : nNeg l < l.length := by
   have := rl_le 3 (l.drop (nNeg l))
   simp only [List.length_drop] at this
   have h' : 0 < rl 3 (l.drop (nNeg l)) := h
   omega
  have : gb (l ++ x :: r) (nNeg l : Nat) = gb l (nNeg l : Nat) := by
   simp only [gb, Int.toNat_natCast, List.getD_eq_getElem?_getD]
   rw [List.getElem?_append_left h1]
  rw [this]
 ·have h0 : decide (0 < nDig l) = false := decide_eq_false h
  rw [h0]; simp
theorem begx_app (l r : List UInt8) (hl : l ≠ []) : beg (l ++ x :: r) = beg l := by
 cases l with
 | nil => exact absurd rfl hl
 | cons c l =>
  have h1 := rlx_app hx (k := 1) (by decide) r (c :: l)
  have h2 := numBx_app hx (c :: l) r
  have h3 := nNegx_app hx (c :: l) r
  have h4 := nDigx_app hx (c :: l) r
  have h5 := sgLenx_app hx (c :: l) r
  simp only [List.cons_append] at *
  simp only [beg, h1, h2, h3, h4, h5]
end
theorem rl_take (k : Int) : ∀ (l : List UInt8) (n : Nat), rl k l ≤ n → rl k (l.take n) = rl k l
 | [], n, _ => by simp
 | c :: l, 0, h => by
  simp only [rl] at h ⊢
  split at h
  ·omega
  ·rename_i hc; rw [if_neg hc]; rfl
 | c :: l, n + 1, h => by
  simp only [List.take_succ_cons, rl] at h ⊢
  split
  ·rename_i hc
   rw [if_pos hc] at h
   rw [rl_take k l n (by omega)]
  ·rfl
theorem sgs_self : ∀ y ∈ sgs, sgLen y = y.length := by decide
theorem sgLen_self (l : List UInt8) (h : 0 < sgLen l) : sgLen (l.take (sgLen l)) = sgLen l := by
 have hd : sgLen l = match sgs.find? (fun x => x.isPrefixOf l) with | some x => x.length | none => 0 := rfl
 cases hf : sgs.find? (fun x => x.isPrefixOf l) with
 | none => rw [hd, hf] at h; simp at h
 | some y =>
  have hl : sgLen l = y.length := by rw [hd, hf]
  have hp : y <+: l := List.isPrefixOf_iff_prefix.1 (by have := List.find?_some hf; exact this)
  have hy : l.take y.length = y := (List.prefix_iff_eq_take.1 hp).symm
  rw [hl, hy]
  exact sgs_self y (List.mem_of_find?_eq_some hf)
theorem nNeg_take (l : List UInt8) (n : Nat) (h : nNeg l ≤ n) : nNeg (l.take n) = nNeg l := rl_take 4 l n h
theorem nDig_take (l : List UInt8) (n : Nat) (h : nNeg l + nDig l ≤ n) : nDig (l.take n) = nDig l := by
 show rl 3 ((l.take n).drop (nNeg (l.take n))) = rl 3 (l.drop (nNeg l))
 rw [nNeg_take l n (by omega), List.drop_take]
 exact rl_take 3 _ _ (by show nDig l ≤ _; omega)
theorem beg_self (l : List UInt8) (h : 0 < (beg l).2) : beg (l.take (beg l).2) = beg l := by
 cases l with
 | nil => simp [beg] at h
 | cons c l =>
  obtain ⟨m, hm⟩ : ∃ m, (beg (c :: l)).2 = m + 1 := ⟨(beg (c :: l)).2 - 1, by omega⟩
  by_cases c1 : cls c.toNat = 1
  ·have hb : beg (c :: l) = (1, rl 1 (c :: l)) := by simp only [beg, if_pos c1]
   rw [hb] at hm ⊢
   simp only at hm ⊢
   have := rl_take 1 (c :: l) _ (Nat.le_refl _)
   rw [hm, List.take_succ_cons] at this ⊢
   simp only [beg, if_pos c1, this]
  ·by_cases c2 : cls c.toNat = 2
   ·have hb : beg (c :: l) = (2, 1) := by simp only [beg, if_neg c1, if_pos c2]
    rw [hb]
    simp only [List.take_succ_cons, List.take_zero, beg, if_neg c1, if_pos c2]
   ·by_cases c3 : cls c.toNat = 3 ∨ cls c.toNat = 4
    ·have hb : beg (c :: l) = if numB (c :: l) then (3, nNeg (c :: l) + nDig (c :: l)) else (0, 0) := by simp only [beg, if_neg c1, if_neg c2, if_pos c3]
     by_cases hn : numB (c :: l) = true
     ·rw [if_pos hn] at hb
      rw [hb] at hm ⊢
      simp only at hm ⊢
      have e1 := nNeg_take (c :: l) (nNeg (c :: l) + nDig (c :: l)) (by omega)
      have e2 := nDig_take (c :: l) (nNeg (c :: l) + nDig (c :: l)) (by omega)
      have e3 : numB ((c :: l).take (nNeg (c :: l) + nDig (c :: l))) = true := by
       have hn' := hn
       unfold numB at hn ⊢
       rw [e1, e2]
       by_cases h0 : 0 < nDig (c :: l)
       ·have : gb ((c :: l).take (nNeg (c :: l) + nDig (c :: l))) (nNeg (c :: l) : Nat) = gb (c :: l) (nNeg (c :: l) : Nat) := by
         simp only [gb, Int.toNat_natCast, List.getD_eq_getElem?_getD]
         rw [List.getElem?_take_of_lt (by omega)]
        rw [this]; exact hn
       ·rw [decide_eq_false h0] at hn; simp at hn
      rw [hm, List.take_succ_cons] at e1 e2 e3 ⊢
      simp only [beg, if_neg c1, if_neg c2, if_pos c3, e1, e2, e3, if_true, hm]
     ·rw [if_neg hn] at hb
      rw [hb] at hm; simp at hm
    ·have hb : beg (c :: l) = if 0 < sgLen (c :: l) then (4, sgLen (c :: l)) else (0, 0) := by simp only [beg, if_neg c1, if_neg c2, if_neg c3]
     by_cases hn : 0 < sgLen (c :: l)
     ·rw [if_pos hn] at hb
      rw [hb] at hm ⊢
      simp only at hm ⊢
      have e1 := sgLen_self (c :: l) hn
      rw [hm, List.take_succ_cons] at e1 ⊢
      simp only [beg, if_neg c1, if_neg c2, if_neg c3, e1]
      simp
     ·rw [if_neg hn] at hb
      rw [hb] at hm; simp at hm
structure TokOk (t : Tok) : Prop where
 ne : t.text ≠ []
 bg : beg t.text = (t.kind, t.text.length)
 hd : ∀ r, rl 5 (t.text ++ r) = 0
theorem beg_hd (l : List UInt8) (h : 0 < (beg l).2) : rl 5 l = 0 := by
 cases l with
 | nil => rfl
 | cons c l =>
  simp only [rl]
  split
  ·rename_i hc
   exfalso
   have hs : sgLen (c :: l) = 0 := by
    have : ∀ q : List (List UInt8), (∀ y ∈ q, y ≠ [] ∧ ∀ z ∈ y, cls (z.toNat : Int) ≠ 5) → q.find? (fun y => y.isPrefixOf (c :: l)) = none := by
     intro q hq
     rw [List.find?_eq_none]
     intro y hy hp
     obtain ⟨h1, h2⟩ := hq y hy
     cases y with
     | nil => exact h1 rfl
     | cons z y =>
      simp only [List.isPrefixOf, Bool.and_eq_true, beq_iff_eq] at hp
      exact h2 z (by simp) (by rw [hp.1]; exact hc)
    unfold sgLen
    rw [this sgs (fun y hy => ⟨by revert y; decide, sgs_nobl y hy⟩)]
   simp [beg, hc, hs] at h
  ·rfl
theorem tokOk_nxt (s : List UInt8) (i : Int) (h : (nxt s i).2.2.err = 0) : TokOk (nxt s i).1 := by
 revert h
 unfold nxt
 split
 ·intro h; simp at h
 ·simp only
  split
  ·intro h; simp at h
  ·split
   ·intro h; simp at h
   ·rename_i h0 h1 h2
    intro _
    generalize s.drop (i.toNat + rl 5 (s.drop i.toNat)) = l at *
    have hle := beg_le l
    have hself := beg_self l (by omega)
    have hlen : (l.take (beg l).2).length = (beg l).2 := by simp; omega
    refine ⟨?_, ?_, ?_⟩
    ·intro hc
     have := congrArg List.length hc
     rw [hlen] at this; exact h2 (by simpa using this)
    ·show beg (l.take (beg l).2) = ((beg l).1, (l.take (beg l).2).length)
     rw [hself, hlen]
    ·intro r
     have hh := beg_hd (l.take (beg l).2) (by rw [hself]; omega)
     show rl 5 (l.take (beg l).2 ++ r) = 0
     cases hl : l.take (beg l).2 with
     | nil => rw [hl] at hlen; simp at hlen; omega
     | cons c q =>
      rw [hl] at hh
      simp only [rl] at hh
      simp only [List.cons_append, rl]
      split at hh
      ·omega
      ·rename_i hc; rw [if_neg hc]
theorem toksF_ok (s : List UInt8) : ∀ (n : Nat) (i : Int), ∀ t ∈ (toksF s n i).1, TokOk t
 | 0, i, t, h => by simp [toksF] at h
 | n + 1, i, t, h => by
  simp only [toksF] at h
  split at h
  ·rename_i he
   rcases List.mem_cons.1 h with rfl | h
   ·exact tokOk_nxt s i he
   ·exact toksF_ok s n _ t h
  ·simp at h
def txtLen (l : List Tok) : Nat := (l.map (fun t => t.text.length)).sum
theorem toksF_txt (s : List UInt8) : ∀ (n : Nat) (i : Int), 0 ≤ i → i ≤ s.length → txtLen (toksF s n i).1 + i.toNat ≤ s.length
 | 0, i, h0, h1 => by simp [toksF, txtLen]; omega
 | n + 1, i, h0, h1 => by
  simp only [toksF]
  split
  ·rename_i he
   have hn := nxt_next he
   have ih := toksF_txt s n _ (by omega) hn.2.2
   have hl : i.toNat + (nxt s i).1.text.length ≤ (nxt s i).2.1.toNat := by
    revert he
    unfold nxt
    split
    ·intro h; simp at h
    ·simp only
     split
     ·intro h; simp at h
     ·split
      ·intro h; simp at h
      ·intro _; simp only [List.length_take]; omega
   simp only [txtLen, List.map_cons, List.sum_cons] at ih ⊢
   omega
  ·simp [txtLen]; omega
theorem txtLen_count (l : List Tok) (h : ∀ t ∈ l, TokOk t) : l.length ≤ txtLen l := by
 induction l with
 | nil => simp
 | cons t l ih =>
  have h1 := (h t (by simp)).ne
  have h2 : 0 < t.text.length := List.length_pos_iff.2 h1
  have := ih (fun t ht => h t (List.mem_cons_of_mem _ ht))
  simp only [txtLen, List.map_cons, List.sum_cons, List.length_cons] at *; omega
theorem rl5_bl : ∀ (bl r : List UInt8), (∀ c ∈ bl, cls (c.toNat : Int) = 5) → rl 5 (bl ++ r) = bl.length + rl 5 r
 | [], r, _ => by simp
 | c :: bl, r, h => by
  simp only [List.cons_append, rl, if_pos (h c (by simp)), rl5_bl bl r (fun z hz => h z (List.mem_cons_of_mem _ hz)), List.length_cons]; omega
def joinB : List (List UInt8 × Tok) → List UInt8
 | [] => []
 | (b, t) :: l => b ++ t.text ++ joinB l
structure BlOk (b : List UInt8) : Prop where
 ne : b ≠ []
 bl : ∀ c ∈ b, cls (c.toNat : Int) = 5
theorem join_hd (l : List (List UInt8 × Tok)) (tail : List UInt8) (hl : ∀ p ∈ l, BlOk p.1) (ht : BlOk tail) : ∃ x r, joinB l ++ tail = x :: r ∧ cls (x.toNat : Int) = 5 := by
 cases l with
 | nil =>
  cases tail with
  | nil => exact absurd rfl ht.ne
  | cons x r => exact ⟨x, r, rfl, ht.bl x (by simp)⟩
 | cons p l =>
  obtain ⟨b, t⟩ := p
  have hb := hl (b, t) (by simp)
  cases b with
  | nil => exact absurd rfl hb.ne
  | cons x r => exact ⟨x, r ++ t.text ++ joinB l ++ tail, by simp [joinB], hb.bl x (by simp)⟩
theorem toksAt_join (tail : List UInt8) (ht : BlOk tail) : ∀ (l : List (List UInt8 × Tok)) (pre : List UInt8), (∀ p ∈ l, BlOk p.1 ∧ TokOk p.2) →
  (toksAt (pre ++ (joinB l ++ tail)) pre.length).2.err = 5 ∧ (toksAt (pre ++ (joinB l ++ tail)) pre.length).1.map (fun t => (t.kind, t.text)) = l.map (fun p => (p.2.kind, p.2.text))
 | [], pre, _ => by
  have hr : rl 5 ((pre ++ (joinB [] ++ tail)).drop pre.length) = tail.length := by
   rw [List.drop_left]
   have := rl5_bl tail [] ht.bl
   simpa [joinB, rl] using this
  have hn : nxt (pre ++ (joinB [] ++ tail)) pre.length = Prod.mk tok0 (Prod.mk (0 : Int) (Flt.mk 5 (pre.length + tail.length : Nat))) := by
   rw [nxt_end _ pre.length (pre.length + tail.length) (by simp) (by rw [hr]), if_pos (by simp [joinB])]
  rw [toksAt_step (by omega) (by simp; omega), hn]
  simp
 | (b, t) :: l, pre, h => by
  obtain ⟨hb, hk⟩ := h (b, t) (by simp)
  obtain ⟨x, r, hxr, hx⟩ := join_hd l tail (fun p hp => (h p (List.mem_cons_of_mem _ hp)).1) ht
  have hs : pre ++ (joinB ((b, t) :: l) ++ tail) = (pre ++ b ++ t.text) ++ (joinB l ++ tail) := by simp [joinB]
  have ih := toksAt_join tail ht l (pre ++ b ++ t.text) (fun p hp => h p (List.mem_cons_of_mem _ hp))
  rw [hs]
  generalize hful : (pre ++ b ++ t.text) ++ (joinB l ++ tail) = full at *
  have hd1 : full.drop pre.length = b ++ (t.text ++ (joinB l ++ tail)) := by
   rw [← hful]; simp
  have hd2 : full.drop (pre.length + b.length) = t.text ++ (joinB l ++ tail) := by
   rw [← List.drop_drop, hd1, List.drop_left]
  have hr : rl 5 (full.drop pre.length) = b.length := by
   rw [hd1, rl5_bl b _ hb.bl, hk.hd]; rfl
  have hlen : full.length = pre.length + b.length + t.text.length + (joinB l ++ tail).length := by rw [← hful]; simp only [List.length_append]
  have hpos : 0 < t.text.length := List.length_pos_iff.2 hk.ne
  have hbeg : beg (full.drop (pre.length + b.length)) = (t.kind, t.text.length) := by
   rw [hd2, hxr, begx_app hx _ _ hk.ne, hk.bg]
  have hn : nxt full pre.length = Prod.mk (Tok.mk t.kind t.text (pre.length + b.length : Nat)) (Prod.mk (((pre ++ b ++ t.text).length : Nat) : Int) flt0) := by
   rw [nxt_end full pre.length (pre.length + b.length) (by omega) (by rw [hr]), if_neg (by omega), if_neg (by rw [hbeg]; simp only; omega), hbeg, hd2]
   simp [flt0]; omega
  rw [toksAt_step (by omega) (by omega), hn]
  simp only [flt0, if_true, List.map_cons]
  exact ⟨ih.1, by rw [ih.2]⟩
theorem toks_join (tail : List UInt8) (ht : BlOk tail) (l : List (List UInt8 × Tok)) (h : ∀ p ∈ l, BlOk p.1 ∧ TokOk p.2) (hl : (joinB l ++ tail).length ≤ 400) :
  (toks (joinB l ++ tail)).2 = flt0 ∧ (toks (joinB l ++ tail)).1.map (fun t => (t.kind, t.text)) = l.map (fun p => (p.2.kind, p.2.text)) := by
 have := toksAt_join tail ht l [] h
 simp only [List.nil_append, List.length_nil, Int.natCast_zero] at this
 rw [toks_of hl, if_pos this.1]
 exact ⟨rfl, this.2⟩
theorem joinB_len : ∀ (l : List (List UInt8 × Tok)), (∀ p ∈ l, p.1.length ≤ 3) → (joinB l).length ≤ 3 * l.length + txtLen (l.map (·.2))
 | [], _ => by simp [joinB]
 | (b, t) :: l, h => by
  have h1 := h (b, t) (by simp)
  have := joinB_len l (fun p hp => h p (List.mem_cons_of_mem _ hp))
  simp only [joinB, txtLen, List.length_append, List.map_cons, List.sum_cons, List.length_cons] at *; omega
end
def Rst (r : List UInt8) : Prop := r = [] ∨ ∃ x q, r = x :: q ∧ cls (x.toNat : Int) = 5
theorem beg_rst {l r : List UInt8} (hl : l ≠ []) (hr : Rst r) : beg (l ++ r) = beg l := by
 rcases hr with rfl | ⟨x, q, rfl, hx⟩
 ·rw [List.append_nil]
 ·exact begx_app hx l q hl
theorem joinB_rst : ∀ (l : List (List UInt8 × Tok)), (∀ p ∈ l, BlOk p.1) → Rst (joinB l)
 | [], _ => .inl rfl
 | (b, t) :: l, h => by
  have hb := h (b, t) (by simp)
  cases b with
  | nil => exact absurd rfl hb.ne
  | cons x r => exact .inr ⟨x, r ++ t.text ++ joinB l, by simp [joinB], hb.bl x (by simp)⟩
theorem toksAt_join0 : ∀ (l : List (List UInt8 × Tok)) (pre : List UInt8), (∀ p ∈ l, (∀ c ∈ p.1, cls (c.toNat : Int) = 5) ∧ TokOk p.2) → (∀ p ∈ l.tail, p.1 ≠ []) →
  (toksAt (pre ++ joinB l) pre.length).2.err = 5 ∧ (toksAt (pre ++ joinB l) pre.length).1.map (fun t => (t.kind, t.text)) = l.map (fun p => (p.2.kind, p.2.text))
 | [], pre, _, _ => by
  have hr : rl 5 ((pre ++ joinB []).drop pre.length) = 0 := by
   rw [List.drop_left]; rfl
  have hn : nxt (pre ++ joinB []) pre.length = Prod.mk tok0 (Prod.mk (0 : Int) (Flt.mk 5 (pre.length : Nat))) := by
   rw [nxt_end _ pre.length pre.length (by simp) (by rw [hr]; rfl), if_pos (by simp [joinB])]
  rw [toksAt_step (by omega) (by simp [joinB]), hn]
  simp
 | (b, t) :: l, pre, h, hne => by
  obtain ⟨hb, hk⟩ := h (b, t) (by simp)
  simp only [List.tail_cons] at hne
  have hrst : Rst (joinB l) := joinB_rst l (fun p hp => ⟨hne p hp, (h p (List.mem_cons_of_mem _ hp)).1⟩)
  have hs : pre ++ joinB ((b, t) :: l) = (pre ++ b ++ t.text) ++ joinB l := by simp [joinB]
  have ih := toksAt_join0 l (pre ++ b ++ t.text) (fun p hp => h p (List.mem_cons_of_mem _ hp)) (fun p hp => hne p (List.mem_of_mem_tail hp))
  rw [hs]
  generalize hful : (pre ++ b ++ t.text) ++ joinB l = full at *
  have hd1 : full.drop pre.length = b ++ (t.text ++ joinB l) := by
   rw [← hful]; simp
  have hd2 : full.drop (pre.length + b.length) = t.text ++ joinB l := by
   rw [← List.drop_drop, hd1, List.drop_left]
  have hr : rl 5 (full.drop pre.length) = b.length := by
   rw [hd1, rl5_bl b _ hb, hk.hd]; rfl
  have hlen : full.length = pre.length + b.length + t.text.length + (joinB l).length := by rw [← hful]; simp only [List.length_append]
  have hpos : 0 < t.text.length := List.length_pos_iff.2 hk.ne
  have hbeg : beg (full.drop (pre.length + b.length)) = (t.kind, t.text.length) := by
   rw [hd2, beg_rst hk.ne hrst, hk.bg]
  have hn : nxt full pre.length = Prod.mk (Tok.mk t.kind t.text (pre.length + b.length : Nat)) (Prod.mk (((pre ++ b ++ t.text).length : Nat) : Int) flt0) := by
   rw [nxt_end full pre.length (pre.length + b.length) (by omega) (by rw [hr]), if_neg (by omega), if_neg (by rw [hbeg]; simp only; omega), hbeg, hd2]
   simp [flt0]; omega
  rw [toksAt_step (by omega) (by omega), hn]
  simp only [flt0, if_true, List.map_cons]
  exact ⟨ih.1, by rw [ih.2]⟩
def ljoin (l : List Tok) : List UInt8 := Lib.join (l.map Tok.text) [32]
theorem joinB_tail : ∀ (r : List Tok), joinB (r.map fun t => ([32], t)) = Lib.joinTail [32] (r.map Tok.text)
 | [] => rfl
 | t :: r => by
  have := joinB_tail r
  simp only [List.map_cons, joinB, this]
  simp [Lib.joinTail]
theorem ljoin_len (l : List Tok) : (ljoin l).length ≤ txtLen l + l.length := by
 unfold ljoin
 cases l with
 | nil => simp [Lib.join_nil]
 | cons t r =>
  rw [List.map_cons, Lib.join_cons, ← joinB_tail]
  have h1 : ∀ r : List Tok, (joinB (r.map fun t => ([32], t))).length = r.length + txtLen r := by
   intro r
   induction r with
   | nil => rfl
   | cons t r ih => simp only [List.map_cons, joinB, List.length_append, List.length_cons, List.length_nil, txtLen, List.sum_cons] at *; omega
  have h2 := h1 r
  simp only [List.length_append, txtLen, List.map_cons, List.sum_cons, List.length_cons] at *
  omega
theorem toks_ljoin (l : List Tok) (h : ∀ t ∈ l, TokOk t) (hl : (ljoin l).length ≤ 400) :
  (toks (ljoin l)).2 = flt0 ∧ (toks (ljoin l)).1.map (fun t => (t.kind, t.text)) = l.map (fun t => (t.kind, t.text)) := by
 have key : ∀ q : List (List UInt8 × Tok), (∀ p ∈ q, (∀ c ∈ p.1, cls (c.toNat : Int) = 5) ∧ TokOk p.2) → (∀ p ∈ q.tail, p.1 ≠ []) → (joinB q).length ≤ 400 →
   (toks (joinB q)).2 = flt0 ∧ (toks (joinB q)).1.map (fun t => (t.kind, t.text)) = q.map (fun p => (p.2.kind, p.2.text)) := by
  intro q h1 h2 h3
  have := toksAt_join0 q [] h1 h2
  simp only [List.nil_append, List.length_nil, Int.natCast_zero] at this
  rw [toks_of h3, if_pos this.1]
  exact ⟨rfl, this.2⟩
 cases l with
 | nil =>
  have := key [] (by simp) (by simp) (by simp [joinB])
  simpa [ljoin, Lib.join_nil, joinB] using this
 | cons t r =>
  have he : ljoin (t :: r) = joinB (([], t) :: r.map fun t => ([32], t)) := by
   unfold ljoin
   rw [List.map_cons, Lib.join_cons, ← joinB_tail]
   simp [joinB]
  have := key (([], t) :: r.map fun t => ([32], t)) (fun p hp => by
   rcases List.mem_cons.1 hp with rfl | hp
   ·exact ⟨by simp, h t (by simp)⟩
   ·obtain ⟨u, hu, rfl⟩ := List.mem_map.1 hp
    exact ⟨fun c hc => by rw [List.mem_singleton.1 hc]; decide, h u (List.mem_cons_of_mem _ hu)⟩) (fun p hp => by
    simp only [List.tail_cons] at hp
    obtain ⟨u, hu, rfl⟩ := List.mem_map.1 hp
    simp) (by rw [← he]; exact hl)
  rw [he]
  refine ⟨this.1, this.2.trans ?_⟩
  simp
theorem rl5_take : ∀ (l : List UInt8), (l.take (rl 5 l)).all isBl = true
 | [] => rfl
 | c :: l => by
  simp only [rl]
  split
  ·rename_i hc
   rw [List.take_succ_cons, List.all_cons, rl5_take l]
   simp [isBl, hc]
  ·simp
def Chn (s : List UInt8) : Nat → List Tok → Prop
 | a, [] => a ≤ s.length ∧ (s.drop a).all isBl = true
 | a, t :: l => ∃ p : Nat, t.pos = p ∧ a ≤ p ∧ p + t.text.length ≤ s.length ∧ ((s.drop a).take (p - a)).all isBl = true ∧ (s.drop p).take t.text.length = t.text ∧ 1 ≤ t.kind ∧ t.kind ≤ 4 ∧ Chn s (p + t.text.length) l
theorem beg_kind (l : List UInt8) (h : (beg l).2 ≠ 0) : 1 ≤ (beg l).1 ∧ (beg l).1 ≤ 4 := by
 unfold beg at h ⊢
 split
 ·simp at h
 ·rename_i c r
  simp only at h
  repeat' split
  all_goals first
   | (simp; done)
   | (exfalso; revert h; simp [*]; done)
   | omega
theorem chn_toksF (s : List UInt8) : ∀ (n i : Nat), i ≤ s.length → (toksF s n i).2.err = 5 → Chn s i (toksF s n i).1
 | 0, i, hi, h => by simp [toksF, flt0] at h
 | n + 1, i, hi, h => by
  simp only [toksF] at h ⊢
  have hle := rl_le' 5 s i hi
  have hn := nxt_end s i _ hi rfl
  have ht := rl5_take (s.drop i)
  generalize hp : i + rl 5 (s.drop i) = p at *
  by_cases h5 : p = s.length
  ·rw [if_pos h5] at hn
   rw [hn]
   simp only
   rw [if_neg (by decide)]
   refine ⟨hi, ?_⟩
   rw [List.take_of_length_le (by simp; omega)] at ht
   exact ht
  ·rw [if_neg h5] at hn
   by_cases h3 : (beg (s.drop p)).2 = 0
   ·rw [if_pos h3] at hn
    rw [hn] at h
    simp at h
   ·rw [if_neg h3] at hn
    have hb := beg_le (s.drop p)
    have hk := beg_kind _ h3
    have hl : ((s.drop p).take (beg (s.drop p)).2).length = (beg (s.drop p)).2 := by simp at hb ⊢; omega
    rw [hn] at h ⊢
    simp only [flt0, if_true] at h ⊢
    simp only [List.length_drop] at hb
    have ih := chn_toksF s n (p + (beg (s.drop p)).2) (by omega) (by simpa using h)
    refine ⟨p, rfl, by omega, by rw [hl]; omega, ?_, by rw [hl], hk.1, hk.2, ?_⟩
    ·rw [show p - i = rl 5 (s.drop i) by omega]; exact ht
    ·rw [hl]; simpa using ih
theorem chn_toks {s : List UInt8} (h : (toks s).2.err = 0) : Chn s 0 (toks s).1 := by
 unfold toks at h ⊢
 split
 ·rename_i hl
  rw [if_pos hl] at h; exact absurd h (by decide)
 ·rename_i hl
  rw [if_neg hl] at h
  split
  ·rename_i h5
   exact chn_toksF s _ 0 (by omega) h5
  ·rename_i h5
   rw [if_neg h5] at h
   exact absurd h (toksF_nz' s)
theorem toksF_at (s : List UInt8) : ∀ (n i : Nat), i ≤ s.length → (toksF s n i).2.err ≠ 0 → (toksF s n i).2.err ≠ 5 → 0 ≤ (toksF s n i).2.pos ∧ (toksF s n i).2.pos < s.length
 | 0, i, hi, h, _ => by simp [toksF, flt0] at h
 | n + 1, i, hi, h, h' => by
  simp only [toksF] at h h' ⊢
  have hle := rl_le' 5 s i hi
  have hn := nxt_end s i _ hi rfl
  generalize hp : i + rl 5 (s.drop i) = p at *
  by_cases h5 : p = s.length
  ·rw [if_pos h5] at hn
   rw [hn] at h'
   simp at h'
  ·rw [if_neg h5] at hn
   by_cases h3 : (beg (s.drop p)).2 = 0
   ·rw [if_pos h3] at hn
    rw [hn]
    simp only
    rw [if_neg (by decide)]
    simp only
    omega
   ·rw [if_neg h3] at hn
    have hb := beg_le (s.drop p)
    simp only [List.length_drop] at hb
    rw [hn] at h h' ⊢
    simp only [flt0, if_true] at h h' ⊢
    have ih := toksF_at s n (p + (beg (s.drop p)).2) (by omega)
    simp only [Int.natCast_add] at ih
    exact ih h h'
theorem toks_bad {s : List UInt8} (hl : s.length ≤ 190) (h : (toks s).2.err ≠ 0) : (toks s).1 = [] ∧ 0 ≤ (toks s).2.pos ∧ (toks s).2.pos < s.length := by
 rw [toks_of (by omega)] at h ⊢
 split
 ·rename_i h5
  rw [if_pos h5] at h
  exact absurd rfl h
 ·rename_i h5
  exact ⟨rfl, toksF_at s _ 0 (by omega) (toksF_nz' s) h5⟩
theorem tokOk_nxt0 {t : Tok} (h : TokOk t) : nxt t.text 0 = (⟨t.kind, t.text, 0⟩, (t.text.length : Int), flt0) := by
 have hr : rl 5 (t.text.drop 0) = 0 := by
  have := h.hd []
  simpa using this
 have hp : 0 < t.text.length := List.length_pos_iff.2 h.ne
 have := nxt_end t.text 0 0 (by omega) (by rw [hr])
 rw [if_neg (by omega), List.drop_zero, h.bg, if_neg (by simp only; omega)] at this
 simpa using this
end Go.Pw
