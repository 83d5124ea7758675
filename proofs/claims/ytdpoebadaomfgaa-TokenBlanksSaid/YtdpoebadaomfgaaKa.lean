/-
  Tokens, in plain Lean: classes of bytes, the token with which a text begins, the next token, all tokens.
-/
import Derived.Test.YtdpoebadaomfgaaVb
set_option linter.unusedSimpArgs false
set_option linter.unusedVariables false
namespace Go.Pw
open Go Go.RowKit

def cls (c : Int) : Int :=
  if 97 ≤ c ∧ c ≤ 122 then 1 else if 65 ≤ c ∧ c ≤ 90 then 2 else if 48 ≤ c ∧ c ≤ 57 then 3 else if c = 45 then 4
  else if c = 32 ∨ c = 9 ∨ c = 10 ∨ c = 13 then 5 else 0

/-- How many bytes of a class stand at the head. -/
def rl (k : Int) : List UInt8 → Nat
  | [] => 0
  | c :: l => if cls c.toNat = k then rl k l + 1 else 0

theorem rl_drop (k : Int) (s : List UInt8) (i : Nat) (hi : i < s.length) : rl k (s.drop i) = if cls (gb s i) = k then rl k (s.drop (i + 1)) + 1 else 0 := by
  rw [List.drop_eq_getElem_cons hi]
  simp [rl, gb, List.getD, hi]
theorem rl_end (k : Int) (s : List UInt8) (i : Nat) (hi : s.length ≤ i) : rl k (s.drop i) = 0 := by
  rw [List.drop_eq_nil_of_le hi]; rfl
theorem rl_le (k : Int) : ∀ l, rl k l ≤ l.length
  | [] => by simp [rl]
  | c :: l => by simp only [rl]; split <;> simp; exact rl_le k l
theorem rl_le' (k : Int) (s : List UInt8) (a : Nat) (ha : a ≤ s.length) : a + rl k (s.drop a) ≤ s.length := by
  have := rl_le k (s.drop a); simp at this; omega

/-- The signs; a longer one is ahead of its beginning. -/
def sgs : List (List UInt8) := [[33, 61], [60, 61], [62, 61], [59], [124], [123], [125], [44], [40], [41], [91], [93], [64], [58], [61], [60], [62]]

def sgLen (l : List UInt8) : Nat := match sgs.find? (fun x => x.isPrefixOf l) with
  | some x => x.length
  | none => 0

abbrev nNeg (l : List UInt8) : Nat := rl 4 l
abbrev nDig (l : List UInt8) : Nat := rl 3 (l.drop (nNeg l))
/-- Whether the number with which a text begins is written as it has to be. -/
def numB (l : List UInt8) : Bool :=
  decide (nNeg l ≤ 1) && (decide (0 < nDig l) && (!(gb l (nNeg l : Nat) == 48) || (nDig l == 1 && nNeg l == 0)))

/-- The token with which a text begins: its kind and its length; of length 0 if there is none. -/
def beg (l : List UInt8) : Int × Nat :=
  match l with
  | [] => (0, 0)
  | c :: _ =>
    if cls c.toNat = 1 then (1, rl 1 l) else if cls c.toNat = 2 then (2, 1)
    else if cls c.toNat = 3 ∨ cls c.toNat = 4 then (if numB l then (3, nNeg l + nDig l) else (0, 0))
    else if 0 < sgLen l then (4, sgLen l) else (0, 0)

structure Tok where
  kind : Int
  text : List UInt8
  pos : Int
  deriving DecidableEq, Inhabited

structure Flt where
  err : Int
  pos : Int
  deriving DecidableEq, Inhabited

def tok0 : Tok := ⟨0, [], 0⟩
def flt0 : Flt := ⟨0, 0⟩

/-- The next token from a place on. -/
def nxt (s : List UInt8) (i : Int) : Tok × Int × Flt :=
  if i < 0 ∨ (s.length : Int) < i then (tok0, 0, ⟨2, 0⟩)
  else
    let a := i.toNat + rl 5 (s.drop i.toNat)
    if a = s.length then (tok0, 0, ⟨5, a⟩)
    else
      let b := beg (s.drop a)
      if b.2 = 0 then (tok0, 0, ⟨3, a⟩) else (⟨b.1, (s.drop a).take b.2, a⟩, a + b.2, flt0)

theorem sgLen_le (l : List UInt8) : sgLen l ≤ l.length := by
  unfold sgLen
  split
  · rename_i x hx
    have := List.find?_some hx
    exact (List.isPrefixOf_iff_prefix.1 this).length_le
  · omega

theorem beg_le (l : List UInt8) : (beg l).2 ≤ l.length := by
  unfold beg
  split
  · simp
  · rename_i c r
    have h1 := rl_le 1 (c :: r)
    have h2 := rl_le 4 (c :: r)
    have h3 := rl_le 3 ((c :: r).drop (nNeg (c :: r)))
    have h4 := sgLen_le (c :: r)
    simp only [List.length_drop] at h3
    split
    · exact h1
    · split
      · simp
      · split
        · split
          · simp only [nNeg, nDig] at *; omega
          · simp
        · split
          · exact h4
          · simp

theorem rl5_le (s : List UInt8) (a : Nat) (h : a ≤ s.length) : a + rl 5 (s.drop a) ≤ s.length := rl_le' 5 s a h

/-- All tokens from a place on, till the end or the first fault. -/
def toksF (s : List UInt8) : Nat → Int → List Tok × Flt
  | 0, _ => ([], flt0)
  | n + 1, i =>
    if (nxt s i).2.2.err = 0 then ((nxt s i).1 :: (toksF s n (nxt s i).2.1).1, (toksF s n (nxt s i).2.1).2) else ([], (nxt s i).2.2)
def toksAt (s : List UInt8) (i : Int) : List Tok × Flt := toksF s (s.length + 1 - i.toNat) i

theorem nxt_next {s : List UInt8} {i : Int} (h : (nxt s i).2.2.err = 0) : 0 ≤ i ∧ i < (nxt s i).2.1 ∧ (nxt s i).2.1 ≤ s.length := by
  revert h
  unfold nxt
  split
  · intro h; simp at h
  · rename_i h0
    simp only
    have h1 := rl5_le s i.toNat (by omega)
    split
    · intro h; simp at h
    · rename_i h2
      split
      · intro h; simp at h
      · rename_i h3
        intro _
        have h4 := beg_le (s.drop (i.toNat + rl 5 (s.drop i.toNat)))
        simp only [List.length_drop] at h4
        refine ⟨by omega, ?_, ?_⟩ <;> simp only <;> omega

theorem toksF_fuel (s : List UInt8) : ∀ (n m : Nat) (i : Int), 0 ≤ i → i ≤ s.length → s.length + 1 - i.toNat ≤ n → s.length + 1 - i.toNat ≤ m → toksF s n i = toksF s m i
  | 0, _, i, h0, h1, hn, _ => by omega
  | _ + 1, 0, i, h0, h1, _, hm => by omega
  | n + 1, m + 1, i, h0, h1, hn, hm => by
    simp only [toksF]
    split
    · rename_i h
      have := nxt_next h
      rw [toksF_fuel s n m _ (by omega) (by omega) (by omega) (by omega)]
    · rfl

theorem toksAt_step {s : List UInt8} {i : Int} (h0 : 0 ≤ i) (h1 : i ≤ s.length) :
    toksAt s i = if (nxt s i).2.2.err = 0 then ((nxt s i).1 :: (toksAt s (nxt s i).2.1).1, (toksAt s (nxt s i).2.1).2) else ([], (nxt s i).2.2) := by
  unfold toksAt
  obtain ⟨n, hn⟩ : ∃ n, s.length + 1 - i.toNat = n + 1 := ⟨s.length - i.toNat, by omega⟩
  rw [hn]
  simp only [toksF]
  split
  · rename_i h
    have := nxt_next h
    rw [toksF_fuel s n (s.length + 1 - (nxt s i).2.1.toNat) _ (by omega) (by omega) (by omega) (by omega)]
  · rfl

theorem toksF_nz (s : List UInt8) : ∀ (n : Nat) (i : Int), 0 ≤ i → i ≤ s.length → s.length + 1 - i.toNat ≤ n → (toksF s n i).2.err ≠ 0
  | 0, i, h0, h1, hn => by omega
  | n + 1, i, h0, h1, hn => by
    simp only [toksF]; split
    · rename_i h
      have := nxt_next h
      exact toksF_nz s n _ (by omega) (by omega) (by omega)
    · assumption
theorem toksF_nz' (s : List UInt8) : (toksAt s 0).2.err ≠ 0 := toksF_nz s _ 0 (by omega) (by omega) (by omega)

/-- All tokens of a text. -/
def toks (s : List UInt8) : List Tok × Flt :=
  if 400 < s.length then ([], ⟨4, 400⟩)
  else if (toksAt s 0).2.err = 5 then ((toksAt s 0).1, flt0) else ([], (toksAt s 0).2)

def Tok.cells (t : Tok) : List Value := [.int .i64 t.kind, .string ⟨t.text.toArray⟩, .int .i64 t.pos]
def Tok.sv (t : Tok) : SV := .agg [.int .i64 t.kind, .str t.text, .int .i64 t.pos]
def Flt.sv (t : Flt) : SV := .agg [.int .i64 t.err, .int .i64 t.pos]
def toksCells (l : List Tok) : List Value := (l.map Tok.cells).flatten
theorem toksCells_length (l : List Tok) : (toksCells l).length = l.length * 3 := by
  induction l with
  | nil => rfl
  | cons x xs ih => simp only [toksCells, List.map_cons, List.flatten_cons, List.length_append, List.length_cons] at *; rw [ih]; simp [Tok.cells]; omega
theorem sub_nat (s : List UInt8) (a k : Nat) : sub s (a : Nat) ((a + k : Nat) : Int) = (s.drop a).take k := by
  simp only [sub, Int.toNat_natCast]
  rw [show a + k - a = k by omega]
end Go.Pw
