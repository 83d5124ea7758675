/-
  The reference's tokens: contracts of its functions up to Next.
-/
import Derived.Test.YtdpoebadaomfgaaKe
set_option linter.unusedSimpArgs false
set_option linter.unusedVariables false
namespace Go.Proofs.Ytdpoebadaomfgaa
open Go Go.Pw

theorem cls1 (c : Int) : cls c = 1 ↔ 97 ≤ c ∧ c ≤ 122 := by unfold cls; (repeat' split) <;> omega
theorem cls2 (c : Int) : cls c = 2 ↔ 65 ≤ c ∧ c ≤ 90 := by unfold cls; (repeat' split) <;> omega
theorem cls3 (c : Int) : cls c = 3 ↔ 48 ≤ c ∧ c ≤ 57 := by unfold cls; (repeat' split) <;> omega
theorem cls4 (c : Int) : cls c = 4 ↔ c = 45 := by unfold cls; (repeat' split) <;> omega
theorem cls5 (c : Int) : cls c = 5 ↔ c = 9 ∨ c = 10 ∨ c = 13 ∨ c = 32 := by unfold cls; (repeat' split) <;> omega

set_option maxRecDepth 10000 in
theorem small_r (c : Int) (h : Hp) : CSpec Try.prog 57 [.int .u8 c] [] h (fun sv o h' => sv = .bexp (cls c == 1) ∧ o = [] ∧ h' = h) := by
  refine spec_of_swpF {} Try.func57 (enters_of Try.func57 (by kernel_rfl) rfl) rfl ?_
  repeat' (
      (conv => whnf)
      first
        | exact closedB (by kernel_rfl)
        | refine And.intro ?_ ?_
        | intro _)
  all_goals (try simp only [Bool.and_eq_true, Bool.or_eq_true, Bool.not_eq_true', Bool.not_eq_false', decide_eq_true_eq, decide_eq_false_iff_not, beq_iff_eq, bne_iff_ne, bne_eq_false_iff_eq, beq_eq_false_iff_ne, Bool.false_eq_true, Bool.true_eq_false, ne_eq] at *)
  all_goals first | rfl | (refine congrArg SV.bexp ?_; rw [Bool.eq_iff_iff]; simp only [cls1, Bool.and_eq_true, Bool.or_eq_true, Bool.not_eq_true', Bool.not_eq_false', decide_eq_true_eq, decide_eq_false_iff_not, beq_iff_eq, bne_iff_ne, bne_eq_false_iff_eq, beq_eq_false_iff_ne, Bool.false_eq_true, true_iff, false_iff, Bool.true_eq_false, ne_eq] at *; omega)
set_option maxRecDepth 10000 in
theorem large_r (c : Int) (h : Hp) : CSpec Try.prog 58 [.int .u8 c] [] h (fun sv o h' => sv = .bexp (cls c == 2) ∧ o = [] ∧ h' = h) := by
  refine spec_of_swpF {} Try.func58 (enters_of Try.func58 (by kernel_rfl) rfl) rfl ?_
  repeat' (
      (conv => whnf)
      first
        | exact closedB (by kernel_rfl)
        | refine And.intro ?_ ?_
        | intro _)
  all_goals (try simp only [Bool.and_eq_true, Bool.or_eq_true, Bool.not_eq_true', Bool.not_eq_false', decide_eq_true_eq, decide_eq_false_iff_not, beq_iff_eq, bne_iff_ne, bne_eq_false_iff_eq, beq_eq_false_iff_ne, Bool.false_eq_true, Bool.true_eq_false, ne_eq] at *)
  all_goals first | rfl | (refine congrArg SV.bexp ?_; rw [Bool.eq_iff_iff]; simp only [cls2, Bool.and_eq_true, Bool.or_eq_true, Bool.not_eq_true', Bool.not_eq_false', decide_eq_true_eq, decide_eq_false_iff_not, beq_iff_eq, bne_iff_ne, bne_eq_false_iff_eq, beq_eq_false_iff_ne, Bool.false_eq_true, true_iff, false_iff, Bool.true_eq_false, ne_eq] at *; omega)
set_option maxRecDepth 10000 in
theorem digit_r (c : Int) (h : Hp) : CSpec Try.prog 73 [.int .u8 c] [] h (fun sv o h' => sv = .bexp (cls c == 3) ∧ o = [] ∧ h' = h) := by
  refine spec_of_swpF {} Try.func73 (enters_of Try.func73 (by kernel_rfl) rfl) rfl ?_
  repeat' (
      (conv => whnf)
      first
        | exact closedB (by kernel_rfl)
        | refine And.intro ?_ ?_
        | intro _)
  all_goals (try simp only [Bool.and_eq_true, Bool.or_eq_true, Bool.not_eq_true', Bool.not_eq_false', decide_eq_true_eq, decide_eq_false_iff_not, beq_iff_eq, bne_iff_ne, bne_eq_false_iff_eq, beq_eq_false_iff_ne, Bool.false_eq_true, Bool.true_eq_false, ne_eq] at *)
  all_goals first | rfl | (refine congrArg SV.bexp ?_; rw [Bool.eq_iff_iff]; simp only [cls3, Bool.and_eq_true, Bool.or_eq_true, Bool.not_eq_true', Bool.not_eq_false', decide_eq_true_eq, decide_eq_false_iff_not, beq_iff_eq, bne_iff_ne, bne_eq_false_iff_eq, beq_eq_false_iff_ne, Bool.false_eq_true, true_iff, false_iff, Bool.true_eq_false, ne_eq] at *; omega)
set_option maxRecDepth 10000 in
theorem blank_r (c : Int) (h : Hp) : CSpec Try.prog 39 [.int .u8 c] [] h (fun sv o h' => sv = .bexp (cls c == 5) ∧ o = [] ∧ h' = h) := by
  refine spec_of_swpF {} Try.func39 (enters_of Try.func39 (by kernel_rfl) rfl) rfl ?_
  repeat' (
      (conv => whnf)
      first
        | exact closedB (by kernel_rfl)
        | refine And.intro ?_ ?_
        | intro _)
  all_goals (try simp only [Bool.and_eq_true, Bool.or_eq_true, Bool.not_eq_true', Bool.not_eq_false', decide_eq_true_eq, decide_eq_false_iff_not, beq_iff_eq, bne_iff_ne, bne_eq_false_iff_eq, beq_eq_false_iff_ne, Bool.false_eq_true, Bool.true_eq_false, ne_eq] at *)
  all_goals first | rfl | (refine congrArg SV.bexp ?_; rw [Bool.eq_iff_iff]; simp only [cls5, Bool.and_eq_true, Bool.or_eq_true, Bool.not_eq_true', Bool.not_eq_false', decide_eq_true_eq, decide_eq_false_iff_not, beq_iff_eq, bne_iff_ne, bne_eq_false_iff_eq, beq_eq_false_iff_ne, Bool.false_eq_true, true_iff, false_iff, Bool.true_eq_false, ne_eq] at *; omega)

/-- The reference's number. -/
def nrF (s : List UInt8) : Nat := if gb s 0 = 45 then 1 else 0
def nrM (s : List UInt8) : Nat := rl 3 (s.drop (nrF s))
def nr (s : List UInt8) : Int := if nrM s = 0 then 0 else if gb s (nrF s : Nat) = 48 ∧ (1 < nrM s ∨ nrF s = 1) then -1 else (nrF s + nrM s : Nat)

def numJ (s : List UInt8) (a : Nat) (h : Hp) : SK := fun vs o h' => ∃ n : Nat, a + n ≤ s.length ∧ rl 3 (s.drop a) = n + rl 3 (s.drop (a + n)) ∧ vs = [.int .i64 (a + n : Nat)] ∧ o = [] ∧ h' = h

set_option maxRecDepth 10000 in
theorem number_r (s : List UInt8) (h0 : 0 < s.length) (hs : s.length ≤ 1000000) (h : Hp) :
    CSpec Try.prog 59 [.str s] [] h (fun sv o h' => sv = .int .i64 (nr s) ∧ o = [] ∧ h' = h) := by
  have hF : nrF s ≤ s.length := by unfold nrF; split <;> omega
  have hF1 : nrF s ≤ 1 := by unfold nrF; split <;> omega
  have hF' : nrF s = if gb s 0 = 45 then 1 else 0 := rfl
  have hM := rl_le' 3 s (nrF s) hF
  have hx : nr s = if rl 3 (s.drop (nrF s)) = 0 then (0 : Int) else if gb s (nrF s : Nat) = 48 ∧ (1 < rl 3 (s.drop (nrF s)) ∨ nrF s = 1) then (-1 : Int) else ((nrF s + rl 3 (s.drop (nrF s)) : Nat) : Int) := rfl
  generalize nrF s = f at *
  refine spec_of_swpF { ann := [(5, { slots := [3] })], cut := [(4, { slots := [3] })] } Try.func59 (enters_of Try.func59 (by kernel_rfl) rfl) rfl ?_
  conv => whnf
  refine ⟨fun vs o h' => vs = [.int .i64 f] ∧ o = [] ∧ h' = h, ?_, ?_⟩
  ·
    repeat' (
        (conv => whnf)
        first
          | exact closedB (by kernel_rfl)
          | refine And.intro ?_ ?_
          | intro _)
    all_goals (try simp only [Bool.and_eq_true, Bool.or_eq_true, Bool.not_eq_true', Bool.not_eq_false', decide_eq_true_eq, decide_eq_false_iff_not, beq_iff_eq, bne_iff_ne, bne_eq_false_iff_eq, beq_eq_false_iff_ne, Bool.false_eq_true, Bool.true_eq_false, ne_eq] at *)
    all_goals first | rfl | omega | (rw [hF', if_pos (by assumption)]; rfl) | (rw [hF', if_neg (by assumption)]; rfl)
  rintro vs o1 h1 _ ⟨rfl, rfl, rfl⟩
  conv => whnf
  refine ⟨numJ s f _, fun vs _ _ => match vs with | [.int _ n] => s.length - n.toNat | _ => 0, ⟨rfl, 0, by omega, by simp, rfl, rfl, rfl⟩, ?_⟩
  rintro vs o1 h1 _ ⟨n, hn, hrl, rfl, rfl, rfl⟩
  have hd := rl_drop 3 s (f + n)
  have he := rl_end 3 s (f + n)
  repeat' (
      (conv => whnf)
      first
        | exact closedB (by kernel_rfl)
        | refine And.intro ?_ ?_
        | (refine ⟨_, digit_r _ _, ?_⟩; rintro sv o' h' _ ⟨rfl, rfl, rfl⟩)
        | intro _)
  all_goals (try simp only [Bool.and_eq_true, Bool.or_eq_true, Bool.not_eq_true', Bool.not_eq_false', decide_eq_true_eq, decide_eq_false_iff_not, beq_iff_eq, bne_iff_ne, bne_eq_false_iff_eq, beq_eq_false_iff_ne, Bool.false_eq_true, Bool.true_eq_false, ne_eq] at *)
  all_goals first
    | rfl
    | omega
    | (rename_i h2; rw [if_pos h2] at hd; refine ⟨n + 1, by omega, by rw [hrl, hd (by omega)]; simp only [Nat.add_assoc, Nat.add_comm], by simp; omega, rfl, rfl⟩)
    | (show s.length - ((f + n : Nat) + 1 : Int).toNat < s.length - ((f + n : Nat) : Int).toNat; omega)
    | (have hm : rl 3 (s.drop f) = n := by first | omega | (rw [if_neg (by assumption)] at hd; omega)
       rw [hx, hm]
       refine congrArg (SV.int .i64) ?_
       (repeat' split) <;> omega)

def strV (l : List UInt8) : Value := .string ⟨l.toArray⟩

set_option maxRecDepth 100000 in
theorem signs_r (h : Hp) : CSpec Try.prog 60 [] [] h (fun sv o h' => sv = .loc 0 ∧ o = [some (.olist 9 1 17 (sgs.map strV))] ∧ h' = h) := by
  refine spec_of_swpF {} Try.func60 (enters_of Try.func60 (by kernel_rfl) rfl) rfl ?_
  repeat' (
      (conv => whnf)
      first
        | exact closedB (by kernel_rfl)
        | refine And.intro ?_ ?_
        | intro _)
  all_goals kernel_rfl

/-- The token with which a text begins, as the reference says it: of a number that is not written right the kind, too. -/
def begK (s : List UInt8) : Int := if nr s = -1 ∧ cls (gb s 0) ≠ 1 ∧ cls (gb s 0) ≠ 2 then 3 else (beg s).1

theorem sg_at (n : Nat) (hn : n < 17) : (sgs.map strV)[n]? = some (strV (sgAt n)) := by
  obtain rfl | rfl | rfl | rfl | rfl | rfl | rfl | rfl | rfl | rfl | rfl | rfl | rfl | rfl | rfl | rfl | rfl : n = 0 ∨ n = 1 ∨ n = 2 ∨ n = 3 ∨ n = 4 ∨ n = 5 ∨ n = 6 ∨ n = 7 ∨ n = 8 ∨ n = 9 ∨ n = 10 ∨ n = 11 ∨ n = 12 ∨ n = 13 ∨ n = 14 ∨ n = 15 ∨ n = 16 := by omega
  all_goals rfl

theorem sgLen_letter (c : UInt8) (r : List UInt8) (h : cls c.toNat = 3 ∨ cls c.toNat = 4) : sgLen (c :: r) = 0 := by
  have hc : (c.toNat : Int) = 45 ∨ (48 ≤ (c.toNat : Int) ∧ (c.toNat : Int) ≤ 57) := by
    rcases h with h | h
    · exact .inr ((cls3 _).1 h)
    · exact .inl ((cls4 _).1 h)
  have ne : ∀ d : UInt8, (d.toNat : Int) < 45 ∨ 57 < (d.toNat : Int) → (d == c) = false := fun d hd => by
    rw [beq_eq_false_iff_ne]
    rintro rfl
    omega
  have : sgs.find? (fun x => x.isPrefixOf (c :: r)) = none := by
    simp only [sgs, List.find?_cons, List.isPrefixOf, ne 33 (by decide), ne 60 (by decide), ne 62 (by decide), ne 59 (by decide), ne 124 (by decide), ne 123 (by decide), ne 125 (by decide), ne 44 (by decide), ne 40 (by decide), ne 41 (by decide), ne 91 (by decide), ne 93 (by decide), ne 64 (by decide), ne 58 (by decide), ne 61 (by decide), Bool.false_and, List.find?_nil]
  simp [sgLen, this]

/-- Number for number. -/
theorem nr_beg (c : UInt8) (r : List UInt8) (h : cls c.toNat = 3 ∨ cls c.toNat = 4) : (numB (c :: r) = true → nr (c :: r) = (nNeg (c :: r) + nDig (c :: r) : Nat)) ∧ (numB (c :: r) = false → nr (c :: r) = 0 ∨ nr (c :: r) = -1) := by
  have g0 : gb (c :: r) 0 = c.toNat := by simp [gb]
  rcases h with h | h
  · have h3 := (cls3 _).1 h
    have hn : nNeg (c :: r) = 0 := by simp [nNeg, rl, h]
    have hf : nrF (c :: r) = 0 := by unfold nrF; rw [g0, if_neg (by omega)]
    have hd : nDig (c :: r) = rl 3 (c :: r) := by simp only [nDig, hn, List.drop_zero]
    have hm : nrM (c :: r) = rl 3 (c :: r) := by simp only [nrM, hf, List.drop_zero]
    have hp : 0 < rl 3 (c :: r) := rl_pos rfl h
    simp only [numB, nr, hn, hd, hm, hf]
    simp only [Bool.and_eq_true, Bool.or_eq_true, Bool.not_eq_true', Bool.not_eq_false', Bool.and_eq_false_iff, Bool.or_eq_false_iff, decide_eq_true_eq, decide_eq_false_iff_not, beq_iff_eq, beq_eq_false_iff_ne, Nat.zero_add]
    refine ⟨fun hh => ?_, fun hh => ?_⟩
    · (repeat' split) <;> first | omega | (simp at *; omega)
    · (repeat' split) <;> first | omega | (simp at *; omega)
  · have h4 := (cls4 _).1 h
    have hf : nrF (c :: r) = 1 := by unfold nrF; rw [g0, if_pos h4]
    have hn : nNeg (c :: r) = rl 4 r + 1 := by simp [nNeg, rl, h]
    have hm : nrM (c :: r) = rl 3 r := by simp only [nrM, hf, List.drop_one, List.tail_cons]
    have hz : rl 4 r ≠ 0 → rl 3 r = 0 := fun hq => by
      cases r with
      | nil => rfl
      | cons d r =>
        simp only [rl] at hq ⊢
        split at hq
        · rename_i h5; rw [if_neg (by omega)]
        · exact absurd rfl hq
    have hd : rl 4 r = 0 → nDig (c :: r) = rl 3 r := fun hq => by simp only [nDig, hn, hq, Nat.zero_add, List.drop_one, List.tail_cons]
    by_cases hq : rl 4 r = 0
    · simp only [numB, nr, hn, hd hq, hm, hf, hq]
      simp only [Bool.and_eq_true, Bool.or_eq_true, Bool.not_eq_true', Bool.not_eq_false', Bool.and_eq_false_iff, Bool.or_eq_false_iff, decide_eq_true_eq, decide_eq_false_iff_not, beq_iff_eq, beq_eq_false_iff_ne, Nat.zero_add]
      refine ⟨fun hh => ?_, fun hh => ?_⟩
      · (repeat' split) <;> first | omega | (simp at *; omega)
      · (repeat' split) <;> first | omega | (simp at *; omega)
    · simp only [numB, nr, hn, hm, hf, hz hq]
      refine ⟨fun hh => ?_, fun hh => by simp⟩
      simp only [Bool.and_eq_true, decide_eq_true_eq] at hh
      omega

theorem beg_eq {s : List UInt8} (h0 : 0 < s.length) : beg s = if cls (gb s 0) = 1 then (1, rl 1 s) else if cls (gb s 0) = 2 then (2, 1)
    else if cls (gb s 0) = 3 ∨ cls (gb s 0) = 4 then (if numB s then (3, nNeg s + nDig s) else (0, 0))
    else if 0 < sgLen s then (4, sgLen s) else (0, 0) := by
  cases s with
  | nil => simp at h0
  | cons c r => rfl
theorem fin1 {s : List UInt8} (h0 : 0 < s.length) (hc : cls (gb s 0) = 1) : begK s = 1 ∧ (beg s).2 = rl 1 s := by
  have hb := beg_eq h0
  rw [if_pos hc] at hb
  refine ⟨?_, by rw [hb]⟩
  unfold begK; rw [if_neg (by simp [hc]), hb]
theorem fin2 {s : List UInt8} (h0 : 0 < s.length) (hc : cls (gb s 0) = 2) : begK s = 2 ∧ (beg s).2 = 1 := by
  have hb := beg_eq h0
  rw [if_neg (by omega), if_pos hc] at hb
  refine ⟨?_, by rw [hb]⟩
  unfold begK; rw [if_neg (by simp [hc]), hb]
theorem nr_le {s : List UInt8} (h0 : 0 < s.length) : nr s ≤ s.length := by
  have hF : nrF s ≤ s.length := by unfold nrF; split <;> omega
  have hM := rl_le' 3 s (nrF s) hF
  unfold nr nrM
  (repeat' split) <;> omega
theorem nr_zero {s : List UInt8} (h0 : 0 < s.length) (h3 : cls (gb s 0) ≠ 3) (h4 : cls (gb s 0) ≠ 4) : nr s = 0 := by
  cases s with
  | nil => simp at h0
  | cons c r =>
    have g0 : gb (c :: r) 0 = c.toNat := by simp [gb]
    rw [g0] at h3 h4
    have hf : nrF (c :: r) = 0 := by unfold nrF; rw [g0, if_neg (fun h => h4 ((cls4 _).2 h))]
    have hm : nrM (c :: r) = 0 := by simp only [nrM, hf, List.drop_zero, rl, if_neg h3]
    unfold nr; rw [if_pos hm]
theorem finN {s : List UInt8} (h0 : 0 < s.length) (h1 : cls (gb s 0) ≠ 1) (h2 : cls (gb s 0) ≠ 2) (hn : nr s ≠ 0) : begK s = 3 ∧ (beg s).2 = (max (nr s) 0).toNat := by
  have hb := beg_eq h0
  rw [if_neg h1, if_neg h2] at hb
  have h34 : cls (gb s 0) = 3 ∨ cls (gb s 0) = 4 := by
    by_cases h3 : cls (gb s 0) = 3
    · exact .inl h3
    · by_cases h4 : cls (gb s 0) = 4
      · exact .inr h4
      · exact absurd (nr_zero h0 h3 h4) hn
  rw [if_pos h34] at hb
  have hq : (numB s = true → nr s = (nNeg s + nDig s : Nat)) ∧ (numB s = false → nr s = 0 ∨ nr s = -1) := by
    cases s with
    | nil => simp at h0
    | cons c r => exact nr_beg c r (by simpa [gb] using h34)
  by_cases hB : numB s = true
  · have h5 := hq.1 hB
    rw [if_pos hB] at hb
    refine ⟨?_, by rw [hb, h5]; simp only; omega⟩
    unfold begK; rw [if_neg (by omega), hb]
  · have h5 := (hq.2 (by simpa using hB)).resolve_left hn
    rw [if_neg hB] at hb
    refine ⟨?_, by rw [hb, h5]; rfl⟩
    unfold begK; rw [if_pos ⟨h5, h1, h2⟩]
theorem finS {s : List UInt8} (h0 : 0 < s.length) (h1 : cls (gb s 0) ≠ 1) (h2 : cls (gb s 0) ≠ 2) (hn : nr s = 0) : begK s = (if 0 < sgLen s then 4 else 0) ∧ (beg s).2 = sgLen s := by
  have hb := beg_eq h0
  rw [if_neg h1, if_neg h2] at hb
  have hk : begK s = (beg s).1 := by unfold begK; rw [if_neg (by omega)]
  by_cases h34 : cls (gb s 0) = 3 ∨ cls (gb s 0) = 4
  · rw [if_pos h34] at hb
    have hq : (numB s = true → nr s = (nNeg s + nDig s : Nat)) ∧ sgLen s = 0 ∧ (numB s = true → 0 < nDig s) := by
      cases s with
      | nil => simp at h0
      | cons c r =>
        have h34' : cls c.toNat = 3 ∨ cls c.toNat = 4 := by simpa [gb] using h34
        refine ⟨(nr_beg c r h34').1, sgLen_letter c r h34', fun hB => ?_⟩
        simp only [numB, Bool.and_eq_true, decide_eq_true_eq] at hB; exact hB.2.1
    have hB : ¬ numB s = true := fun hB => by have := hq.1 hB; have := hq.2.2 hB; omega
    rw [if_neg hB] at hb
    rw [hk, hb, hq.2.1]; exact ⟨rfl, rfl⟩
  · rw [if_neg h34] at hb
    rw [hk, hb]
    split <;> refine ⟨rfl, ?_⟩ <;> simp only <;> omega

theorem aggEq {k k' : Int} {l l' : List UInt8} (h1 : k' = k) (h2 : l' = l) : SV.agg [.int .i64 k, .str l, .int .i64 0] = SV.agg [.int .i64 k', .str l', .int .i64 0] := by rw [h1, h2]
theorem sub_zero (s : List UInt8) (n : Int) : sub s 0 n = s.take n.toNat := by simp [sub]

structure BegJ (s : List UInt8) (h : Hp) (vs : List SV) (o : List (Option SObj)) (h' : Hp) : Prop where
  ex : ∃ n : Nat, n ≤ s.length ∧ rl 1 s = n + rl 1 (s.drop n) ∧ vs = [.int .i64 n] ∧ o = [some (.cells 30 [.int .i64 0, .str [], .int .i64 0])] ∧ h' = h
structure BegL (s : List UInt8) (h : Hp) (vs : List SV) (o : List (Option SObj)) (h' : Hp) : Prop where
  ex : ∃ n : Nat, n ≤ 17 ∧ (∀ i, i < n → isPre (sgAt i) s = false) ∧ vs = [.int .i64 n] ∧ o = [some (.cells 30 [.int .i64 0, .str [], .int .i64 0]), some (.olist 9 1 17 (sgs.map strV))] ∧ h' = h

set_option maxRecDepth 10000 in
theorem begins_r (s : List UInt8) (h0 : 0 < s.length) (hs : s.length ≤ 1000000) (h : Hp) :
    CSpec Try.prog 40 [.str s] [] h (fun sv o h' => sv = .agg [.int .i64 (begK s), .str (s.take (beg s).2), .int .i64 0] ∧ o = [] ∧ h' = h) := by
  refine spec_of_swpF { ann := [(3, { slots := [3] }), (13, { slots := [6] })] } Try.func40 (enters_of Try.func40 (by kernel_rfl) rfl) rfl ?_
  repeat' (
      (conv => whnf)
      first
        | exact closedB (by kernel_rfl)
        | refine And.intro ?_ ?_
        | (refine ⟨_, small_r _ _, ?_⟩; rintro sv o' h' _ ⟨rfl, rfl, rfl⟩)
        | (refine ⟨_, large_r _ _, ?_⟩; rintro sv o' h' _ ⟨rfl, rfl, rfl⟩)
        | (refine ⟨_, number_r s h0 hs _, ?_⟩; rintro sv o' h' _ ⟨rfl, rfl, rfl⟩)
        | (refine ⟨_, signs_r _, ?_⟩; rintro sv o' h' _ ⟨rfl, rfl, rfl⟩)
        | ((refine ⟨BegJ s _, fun vs _ _ => match vs with | [.int _ n] => s.length - n.toNat | _ => 0, ⟨rfl, 0, by omega, by simp, rfl, rfl, rfl⟩, ?_⟩; rintro vs o1 h1 _ ⟨n, hn, hrl, rfl, rfl, rfl⟩))
        | ((refine ⟨BegL s _, fun vs _ _ => match vs with | [.int _ n] => 17 - n.toNat | _ => 0, ⟨rfl, 0, by omega, by simp, rfl, rfl, rfl⟩, ?_⟩; rintro vs o1 h1 _ ⟨n, hn, hrl, rfl, rfl, rfl⟩; have hsg := sg_at n))
        | ((refine ⟨.str (sgAt n), ⟨strV (sgAt n), by rw [Nat.mul_one]; exact hsg (by simp at *; omega), fun _ => rfl, rfl⟩, ?_⟩))
        | intro _)
  all_goals (try simp only [Bool.and_eq_true, Bool.or_eq_true, Bool.not_eq_true', Bool.not_eq_false', decide_eq_true_eq, decide_eq_false_iff_not, beq_iff_eq, bne_iff_ne, bne_eq_false_iff_eq, beq_eq_false_iff_ne, Bool.false_eq_true, Bool.true_eq_false, ne_eq] at *)
  all_goals first
    | rfl
    | omega
    | (have hd := rl_drop 1 s n (by omega); rw [if_pos (by assumption)] at hd; exact ⟨n + 1, by omega, by omega, by simp, rfl, rfl⟩)
    | (have hf := fin1 h0 (by assumption); have hd := rl_drop 1 s n (by omega); rw [if_neg (by assumption)] at hd; rw [sub_zero]; exact aggEq hf.1 (by rw [hf.2, hrl, hd]; rfl))
    | (have hf := fin1 h0 (by assumption); have hd := rl_end 1 s n (by omega); rw [sub_zero]; exact aggEq hf.1 (by rw [hf.2, hrl, hd]; rfl))
    | (have hf := fin2 h0 (by assumption); rw [sub_zero]; exact aggEq hf.1 (by rw [hf.2]; rfl))
    | (rw [if_pos trivial]; omega)
    | (rw [if_pos trivial]; have := nr_le h0; omega)
    | (have hf := finN h0 (by assumption) (by assumption) (by assumption); rw [sub_zero, if_pos trivial]; exact aggEq hf.1 (by rw [hf.2]))
    | (have hf := finS h0 (by assumption) (by assumption) (by assumption)
       have hp : isPre (sgAt n) s = true := by rw [← sub_pre]; simpa using (by assumption : sub s 0 ↑(sgAt n).length = sgAt n)
       have hg := sgLen_at s n (by omega) hrl hp
       have hq := sgAt_pos n (by omega)
       refine aggEq (by rw [hf.1, hg, if_pos hq.1]) ?_
       rw [hf.2, hg]
       exact (List.prefix_iff_eq_take.1 (List.isPrefixOf_iff_prefix.1 hp)).symm)
    | (refine ⟨n + 1, by omega, fun i hi => ?_, by simp, rfl, rfl⟩
       by_cases h : i = n
       · subst h
         rw [Bool.eq_false_iff]; intro hp
         have hle := (List.isPrefixOf_iff_prefix.1 hp).length_le
         first
           | omega
           | (rw [← sub_pre] at hp; simp only [beq_iff_eq] at hp; contradiction)
       · exact hrl i (by omega))
    | (have hf := finS h0 (by assumption) (by assumption) (by assumption)
       have hg := sgLen_none s (fun i hi => hrl i (by omega))
       exact aggEq (by rw [hf.1, hg]; rfl) (by rw [hf.2, hg]; rfl))
end Go.Proofs.Ytdpoebadaomfgaa
