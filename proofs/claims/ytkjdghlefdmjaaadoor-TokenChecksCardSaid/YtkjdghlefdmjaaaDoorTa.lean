import Derived.Test.YtkjdghlefdmjaaaDoorAa
set_option linter.unusedSimpArgs false
set_option linter.unusedVariables false
namespace Go.Proofs.YtkjdghlefdmjaaaDoor
open Go Go.Cx
def cls (c : Int) : Int :=
 if 97 ≤ c ∧ c ≤ 122 then 1 else if 65 ≤ c ∧ c ≤ 90 then 2 else if 48 ≤ c ∧ c ≤ 57 then 3 else if c = 45 then 4
 else if c = 32 ∨ c = 9 ∨ c = 10 ∨ c = 13 then 5 else 0
def clsN (c : Nat) : Int := cls ((c % 256 : Nat) : Int)
def rl (k : Int) : List Nat → Nat
 | [] => 0
 | c :: l => if clsN c = k then rl k l + 1 else 0
theorem rl_drop (k : Int) (s : List Nat) (i : Nat) (hi : i < s.length) : rl k (s.drop i) = if cls (gbN s i) = k then rl k (s.drop (i + 1)) + 1 else 0 := by
 rw [List.drop_eq_getElem_cons hi, rl, clsN, gbN, Int.toNat_natCast, List.getD_eq_getElem?_getD, List.getElem?_eq_getElem hi]
 rfl
theorem rl_end (k : Int) (s : List Nat) (i : Nat) (hi : s.length ≤ i) : rl k (s.drop i) = 0 := by
 rw [List.drop_eq_nil_of_le hi]; rfl
theorem rl_le (k : Int) : ∀ l, rl k l ≤ l.length
 | [] => by simp [rl]
 | c :: l => by
  have := rl_le k l
  simp only [rl, List.length_cons]; split <;> omega
theorem rl_le' (k : Int) (s : List Nat) (a : Nat) (ha : a ≤ s.length) : a + rl k (s.drop a) ≤ s.length := by
 have := rl_le k (s.drop a); rw [List.length_drop] at this; omega
noncomputable def isPre (p s : List Nat) : Bool := decide (p.length ≤ s.length) && beqL (s.take p.length) p
def sgs : List (List Nat) := [[33, 61], [60, 61], [62, 61], [59], [124], [123], [125], [44], [40], [41], [91], [93], [64], [58], [61], [60], [62]]
def sgAt (n : Nat) : List Nat := sgs.getD n []
noncomputable def sgLen (l : List Nat) : Nat := match sgs.find? (fun x => isPre x l) with
 | some x => x.length
 | none => 0
theorem sgLen_le (l : List Nat) : sgLen l ≤ l.length := by
 unfold sgLen
 split
 ·rename_i x hx
  have := List.find?_some hx
  simp only [isPre, Bool.and_eq_true, decide_eq_true_eq] at this
  exact this.1
 ·omega
theorem sgAt_pos (n : Nat) (h : n < 17) : 0 < (sgAt n).length ∧ (sgAt n).length ≤ 2 := by
 obtain rfl | rfl | rfl | rfl | rfl | rfl | rfl | rfl | rfl | rfl | rfl | rfl | rfl | rfl | rfl | rfl | rfl : n = 0 ∨ n = 1 ∨ n = 2 ∨ n = 3 ∨ n = 4 ∨ n = 5 ∨ n = 6 ∨ n = 7 ∨ n = 8 ∨ n = 9 ∨ n = 10 ∨ n = 11 ∨ n = 12 ∨ n = 13 ∨ n = 14 ∨ n = 15 ∨ n = 16 := by omega
 all_goals decide
theorem sgLen_at (l : List Nat) (n : Nat) (hn : n < 17) (h0 : ∀ i, i < n → isPre (sgAt i) l = false) (h1 : isPre (sgAt n) l = true) : sgLen l = (sgAt n).length := by
 have hg : ∀ j (hj : j < sgs.length), sgs[j] = sgAt j := fun j hj => by
  unfold sgAt; rw [List.getD_eq_getElem?_getD, List.getElem?_eq_getElem hj]; rfl
 have : sgs.find? (fun x => isPre x l) = some (sgAt n) := by
  rw [List.find?_eq_some_iff_getElem]
  refine ⟨h1, n, hn, hg n hn, fun j hj => ?_⟩
  rw [hg j (Nat.lt_trans hj hn), h0 j hj]; rfl
 unfold sgLen
 rw [this]
theorem sgLen_none (l : List Nat) (h0 : ∀ i, i < 17 → isPre (sgAt i) l = false) : sgLen l = 0 := by
 have : sgs.find? (fun x => isPre x l) = none := by
  rw [List.find?_eq_none]
  intro x hx
  obtain ⟨i, hi, rfl⟩ := List.getElem_of_mem hx
  have := h0 i hi
  unfold sgAt at this
  rw [List.getD_eq_getElem?_getD, List.getElem?_eq_getElem hi] at this
  simpa using this
 unfold sgLen
 rw [this]
abbrev nNeg (l : List Nat) : Nat := rl 4 l
abbrev nDig (l : List Nat) : Nat := rl 3 (l.drop (nNeg l))
noncomputable def numB (l : List Nat) : Bool :=
 decide (nNeg l ≤ 1) && (decide (0 < nDig l) && (!(gbN l (nNeg l : Nat) == 48) || (nDig l == 1 && nNeg l == 0)))
noncomputable def beg (l : List Nat) : Int × Nat :=
 if clsN (l.headD 0) = 1 then (1, rl 1 l) else if clsN (l.headD 0) = 2 then (2, 1)
  else if clsN (l.headD 0) = 3 ∨ clsN (l.headD 0) = 4 then (if numB l then (3, nNeg l + nDig l) else (0, 0))
  else if 0 < sgLen l then (4, sgLen l) else (0, 0)
structure Tok where
 kind : Int
 text : List Nat
 pos : Int
 deriving DecidableEq, Inhabited
structure Flt where
 err : Int
 pos : Int
 deriving DecidableEq, Inhabited
def tok0 : Tok := ⟨0, [], 0⟩
def flt0 : Flt := ⟨0, 0⟩
@[reducible] def tokS (t : Tok) : List SV := [ai t.kind, .cv (.str t.text), ai t.pos]
@[reducible] def fltS (f : Flt) : List SV := [.cv (.int .i64 f.err), ai f.pos]
noncomputable def nxt (s : List Nat) (i : Int) : Tok × Int × Flt :=
 if i < 0 ∨ (s.length : Int) < i then (tok0, 0, ⟨2, 0⟩)
 else
  let a := i.toNat + rl 5 (s.drop i.toNat)
  if a = s.length then (tok0, 0, ⟨5, a⟩)
  else
   let b := beg (s.drop a)
   if b.1 = 0 then (tok0, 0, ⟨3, a⟩) else (⟨b.1, (s.drop a).take b.2, a⟩, a + b.2, flt0)
theorem beg_le (l : List Nat) (h : 0 < l.length) : (beg l).2 ≤ l.length := by
 have h1 := rl_le 1 l
 have h2 := rl_le 4 l
 have h3 := rl_le 3 (l.drop (nNeg l))
 have h4 := sgLen_le l
 rw [List.length_drop] at h3
 unfold beg
 split
 ·exact h1
 ·split
  ·exact h
  ·split
   ·split
    ·show nNeg l + nDig l ≤ _
     simp only [nNeg, nDig] at *; omega
    ·exact Nat.zero_le _
   ·split
    ·exact h4
    ·exact Nat.zero_le _
theorem rl_pos {k : Int} {l : List Nat} (h : 0 < l.length) (hk : clsN (l.headD 0) = k) : 0 < rl k l := by
 cases l with
 | nil => simp at h
 | cons c r =>
  have hk : clsN c = k := hk
  rw [rl, if_pos hk]; omega
theorem beg_pos {l : List Nat} (h : 0 < l.length) (hb : (beg l).1 ≠ 0) : 0 < (beg l).2 := by
 revert hb
 unfold beg
 split
 ·rename_i h1; intro _; exact rl_pos h h1
 ·split
  ·intro _; exact Nat.one_pos
  ·split
   ·split
    ·rename_i hn
     intro _
     simp only [numB, Bool.and_eq_true, decide_eq_true_eq] at hn
     show 0 < nNeg l + nDig l
     have := hn.2.1
     omega
    ·intro hb; exact absurd rfl hb
   ·split
    ·rename_i hs; intro _; exact hs
    ·intro hb; exact absurd rfl hb
noncomputable def toksF (s : List Nat) : Nat → Int → List Tok × Flt
 | 0, _ => ([], flt0)
 | n + 1, i =>
  if (nxt s i).2.2.err = 0 then ((nxt s i).1 :: (toksF s n (nxt s i).2.1).1, (toksF s n (nxt s i).2.1).2) else ([], (nxt s i).2.2)
noncomputable def toksAt (s : List Nat) (i : Int) : List Tok × Flt := toksF s (s.length + 1 - i.toNat) i
theorem nxt_next {s : List Nat} {i : Int} (h : (nxt s i).2.2.err = 0) : 0 ≤ i ∧ i < (nxt s i).2.1 ∧ (nxt s i).2.1 ≤ s.length := by
 revert h
 unfold nxt
 split
 ·intro h; simp at h
 ·rename_i h0
  simp only
  have h1 := rl_le' 5 s i.toNat (by omega)
  split
  ·intro h; simp at h
  ·rename_i h2
   split
   ·intro h; simp at h
   ·rename_i h3
    intro _
    have hl : 0 < (s.drop (i.toNat + rl 5 (s.drop i.toNat))).length := by rw [List.length_drop]; omega
    have h4 := beg_le _ hl
    have h5 := beg_pos hl h3
    rw [List.length_drop] at h4
    refine ⟨by omega, ?_, ?_⟩ <;> simp only <;> omega
theorem toksF_fuel (s : List Nat) : ∀ (n m : Nat) (i : Int), 0 ≤ i → i ≤ s.length → s.length + 1 - i.toNat ≤ n → s.length + 1 - i.toNat ≤ m → toksF s n i = toksF s m i
 | 0, _, i, h0, h1, hn, _ => by omega
 | _ + 1, 0, i, h0, h1, _, hm => by omega
 | n + 1, m + 1, i, h0, h1, hn, hm => by
  simp only [toksF]
  split
  ·rename_i h
   have := nxt_next h
   rw [toksF_fuel s n m _ (by omega) (by omega) (by omega) (by omega)]
  ·rfl
theorem toksAt_step {s : List Nat} {i : Int} (h0 : 0 ≤ i) (h1 : i ≤ s.length) :
  toksAt s i = if (nxt s i).2.2.err = 0 then ((nxt s i).1 :: (toksAt s (nxt s i).2.1).1, (toksAt s (nxt s i).2.1).2) else ([], (nxt s i).2.2) := by
 unfold toksAt
 obtain ⟨n, hn⟩ : ∃ n, s.length + 1 - i.toNat = n + 1 := ⟨s.length - i.toNat, by omega⟩
 rw [hn]
 simp only [toksF]
 split
 ·rename_i h
  have := nxt_next h
  rw [toksF_fuel s n (s.length + 1 - (nxt s i).2.1.toNat) _ (by omega) (by omega) (by omega) (by omega)]
 ·rfl
end Go.Proofs.YtkjdghlefdmjaaaDoor
