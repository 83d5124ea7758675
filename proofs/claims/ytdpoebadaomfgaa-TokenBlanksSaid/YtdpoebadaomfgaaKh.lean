/-
  The reference's tokens: contracts of Tokens and Word; the law's helpers.
-/
import Derived.Test.YtdpoebadaomfgaaKg
set_option linter.unusedSimpArgs false
set_option linter.unusedVariables false
namespace Go.Proofs.Ytdpoebadaomfgaa
open Go Go.Pw

structure TrJ (s : List UInt8) (h : Hp) (vs : List SV) (o : List (Option SObj)) (h' : Hp) : Prop where
  ex : ∃ (n : Nat) (l : List Tok), n ≤ s.length ∧ l.length ≤ n ∧ toksAt s 0 = (l ++ (toksAt s n).1, (toksAt s n).2) ∧ vs = [.int .i64 n, .loc 1] ∧
    o = [some (.cells 26 [.int .i64 0, .int .i64 0]), some (.olist 30 3 l.length (toksCells l))] ∧ h' = h

theorem toks_short {s : List UInt8} (hlen : s.length ≤ 400) (h5 : (toksAt s 0).2.err = 5) : toks s = ((toksAt s 0).1, flt0) := by unfold toks; rw [if_neg (by omega), if_pos h5]
theorem toks_fault {s : List UInt8} (hlen : s.length ≤ 400) (h5 : (toksAt s 0).2.err ≠ 5) : toks s = ([], (toksAt s 0).2) := by unfold toks; rw [if_neg (by omega), if_neg h5]

set_option maxRecDepth 10000 in
theorem TokensR_ok (s : List UInt8) (he : (toks s).2.err = 0) (h : Hp) :
    CSpec Try.prog 11 [.str s] [] h (fun sv o h' => sv = .tuple [.loc 0, flt0.sv] ∧ o = [some (okToks (toks s).1)] ∧ h' = h) := by
  have hlen : s.length ≤ 400 := by
    unfold toks at he; split at he
    · simp at he
    · omega
  have h5 : (toksAt s 0).2.err = 5 := by
    unfold toks at he; rw [if_neg (by omega)] at he; split at he
    · assumption
    · exact absurd he (toksAt_nz s)
  rw [toks_short hlen h5]
  refine spec_of_swpF { ann := [(5, { slots := [5, 4], lists := [(.slot 4, 30, 3)] })] } Try.func11 (enters_of Try.func11 (by kernel_rfl) rfl) rfl ?_
  repeat' (
      (conv => whnf)
      first
        | exact closedB (by kernel_rfl)
        | refine And.intro ?_ ?_
        | ((refine ⟨TrJ s _, fun vs _ _ => match vs with | .int _ n :: _ => s.length - n.toNat | _ => 0, ⟨rfl, 0, [], by omega, by simp, by simp, rfl, rfl, rfl⟩, ?_⟩; rintro vs o1 h1 _ ⟨n, l, hn, hl, hall, rfl, rfl, rfl⟩; have hst := toksAt_step (s := s) (i := n) (by omega) (by omega); have hnx := nxt_next (s := s) (i := n)))
        | (refine ⟨_, next_r s _ (by omega) _, ?_⟩; rintro sv o' h' _ ⟨rfl, rfl, rfl⟩)
        | intro _)
  all_goals (try simp only [Bool.and_eq_true, Bool.or_eq_true, Bool.not_eq_true', Bool.not_eq_false', decide_eq_true_eq, decide_eq_false_iff_not, beq_iff_eq, bne_iff_ne, bne_eq_false_iff_eq, beq_eq_false_iff_ne, Bool.false_eq_true, Bool.true_eq_false, ne_eq] at *)
  all_goals first
    | rfl
    | omega
    | (simp only [maxLen]; omega)
    | (show (l.length + 1) * 32 ≤ _; omega)
    | (exfalso; rw [if_neg (by assumption)] at hst; rw [hall, hst] at h5; contradiction)
    | (rw [if_neg (by omega)] at hst; rw [hall, hst]; simp [okToks])
    | (have h2 := hnx (by assumption)
       rw [if_pos (by assumption)] at hst
       have h3 : (((nxt s n).2.1.toNat : Nat) : Int) = (nxt s n).2.1 := by omega
       refine ⟨(nxt s n).2.1.toNat, l ++ [(nxt s n).1], by omega, by simp; omega, by rw [hall, hst, h3]; simp, by rw [h3], by simp [toksCells, Tok.cells]; rfl, rfl⟩)
    | (have h2 := hnx (by assumption)
       show s.length - (nxt s n).2.1.toNat < s.length - (n : Int).toNat
       omega)

set_option maxRecDepth 10000 in
theorem TokensR_bad (s : List UInt8) (hs : s.length ≤ 1000000) (he : (toks s).2.err ≠ 0) (h : Hp) :
    CSpec Try.prog 11 [.str s] [] h (fun sv o h' => sv = .tuple [.slc none 0 0, (toks s).2.sv] ∧ o = [] ∧ h' = h) := by
  by_cases hlen : 400 < s.length
  · have h7 : toks s = ([], ⟨4, 400⟩) := by unfold toks; rw [if_pos hlen]
    rw [h7]
    refine spec_of_swpF { ann := [(5, { slots := [5, 4], lists := [(.slot 4, 30, 3)] })] } Try.func11 (enters_of Try.func11 (by kernel_rfl) rfl) rfl ?_
    repeat' (
        (conv => whnf)
        first
          | exact closedB (by kernel_rfl)
          | refine And.intro ?_ ?_
          | intro _)
    all_goals try (first | rfl | omega | (exfalso; simp at *; omega))
  · have h5 : (toksAt s 0).2.err ≠ 5 := by
      intro h5
      unfold toks at he; rw [if_neg (by omega), if_pos h5] at he
      exact he rfl
    rw [toks_fault (by omega) h5]
    refine spec_of_swpF { ann := [(5, { slots := [5, 4], lists := [(.slot 4, 30, 3)] })] } Try.func11 (enters_of Try.func11 (by kernel_rfl) rfl) rfl ?_
    repeat' (
        (conv => whnf)
        first
          | exact closedB (by kernel_rfl)
          | refine And.intro ?_ ?_
          | ((refine ⟨TrJ s _, fun vs _ _ => match vs with | .int _ n :: _ => s.length - n.toNat | _ => 0, ⟨rfl, 0, [], by omega, by simp, by simp, rfl, rfl, rfl⟩, ?_⟩; rintro vs o1 h1 _ ⟨n, l, hn, hl, hall, rfl, rfl, rfl⟩; have hst := toksAt_step (s := s) (i := n) (by omega) (by omega); have hnx := nxt_next (s := s) (i := n)))
          | (refine ⟨_, next_r s _ (by omega) _, ?_⟩; rintro sv o' h' _ ⟨rfl, rfl, rfl⟩)
          | intro _)
    all_goals (try simp only [Bool.and_eq_true, Bool.or_eq_true, Bool.not_eq_true', Bool.not_eq_false', decide_eq_true_eq, decide_eq_false_iff_not, beq_iff_eq, bne_iff_ne, bne_eq_false_iff_eq, beq_eq_false_iff_ne, Bool.false_eq_true, Bool.true_eq_false, ne_eq] at *)
    all_goals first
    | rfl
    | omega
    | (simp only [maxLen]; omega)
    | (show (l.length + 1) * 32 ≤ _; omega)
    | (exfalso; rw [if_neg (by omega)] at hst; rw [hall, hst] at h5; contradiction)
    | (rw [if_neg (by assumption)] at hst; rw [hall, hst]; rfl)
    | (have h2 := hnx (by assumption)
       rw [if_pos (by assumption)] at hst
       have h3 : (((nxt s n).2.1.toNat : Nat) : Int) = (nxt s n).2.1 := by omega
       refine ⟨(nxt s n).2.1.toNat, l ++ [(nxt s n).1], by omega, by simp; omega, by rw [hall, hst, h3]; simp, by rw [h3], by simp [toksCells, Tok.cells]; rfl, rfl⟩)
    | (have h2 := hnx (by assumption)
       show s.length - (nxt s n).2.1.toNat < s.length - (n : Int).toNat
       omega)

/-! ### words -/

def wds : List (List UInt8) := [[119, 105, 116, 104, 105, 110], [104, 97, 118, 105, 110, 103], [97, 110, 100], [101, 109, 105, 116], [110, 111, 116], [99, 111, 117, 110, 116], [115, 117, 109], [109, 105, 110], [109, 97, 120], [102, 105, 114, 115, 116], [108, 97, 115, 116]]
def isWd (s : List UInt8) : Bool := wds.contains s

set_option maxRecDepth 100000 in
theorem words_r (h : Hp) : CSpec Try.prog 41 [] [] h (fun sv o h' => sv = .loc 0 ∧ o = [some (.olist 9 1 11 (wds.map strV))] ∧ h' = h) := by
  refine spec_of_swpF {} Try.func41 (enters_of Try.func41 (by kernel_rfl) rfl) rfl ?_
  repeat' (
      (conv => whnf)
      first
        | exact closedB (by kernel_rfl)
        | refine And.intro ?_ ?_
        | intro _)
  all_goals kernel_rfl

def wdAt (n : Nat) : List UInt8 := wds.getD n []
theorem wd_at (n : Nat) (hn : n < 11) : (wds.map strV)[n]? = some (strV (wdAt n)) := by
  obtain rfl | rfl | rfl | rfl | rfl | rfl | rfl | rfl | rfl | rfl | rfl : n = 0 ∨ n = 1 ∨ n = 2 ∨ n = 3 ∨ n = 4 ∨ n = 5 ∨ n = 6 ∨ n = 7 ∨ n = 8 ∨ n = 9 ∨ n = 10 := by omega
  all_goals rfl
theorem isWd_at (s : List UInt8) (n : Nat) (hn : n < 11) (h : wdAt n = s) : isWd s = true := by
  subst h
  obtain rfl | rfl | rfl | rfl | rfl | rfl | rfl | rfl | rfl | rfl | rfl : n = 0 ∨ n = 1 ∨ n = 2 ∨ n = 3 ∨ n = 4 ∨ n = 5 ∨ n = 6 ∨ n = 7 ∨ n = 8 ∨ n = 9 ∨ n = 10 := by omega
  all_goals decide
theorem isWd_none (s : List UInt8) (h : ∀ i, i < 11 → wdAt i ≠ s) : isWd s = false := by
  rw [Bool.eq_false_iff]
  intro hc
  have hm : s ∈ wds := by simpa [isWd] using hc
  obtain ⟨i, hi, he⟩ := List.getElem_of_mem hm
  exact h i hi (by simp only [wdAt, List.getD, List.getElem?_eq_getElem hi, Option.getD_some]; exact he)

structure WdJ (s : List UInt8) (h : Hp) (vs : List SV) (o : List (Option SObj)) (h' : Hp) : Prop where
  ex : ∃ n : Nat, n ≤ 11 ∧ (∀ i, i < n → wdAt i ≠ s) ∧ vs = [.int .i64 n] ∧ o = [some (.olist 9 1 11 (wds.map strV))] ∧ h' = h

set_option maxRecDepth 10000 in
theorem Word_r (s : List UInt8) (h : Hp) : CSpec Try.prog 15 [.str s] [] h (fun sv o h' => sv = .bexp (isWd s) ∧ o = [] ∧ h' = h) := by
  refine spec_of_swpF { ann := [(3, { slots := [4] })] } Try.func15 (enters_of Try.func15 (by kernel_rfl) rfl) rfl ?_
  repeat' (
      (conv => whnf)
      first
        | exact closedB (by kernel_rfl)
        | refine And.intro ?_ ?_
        | (refine ⟨_, words_r _, ?_⟩; rintro sv o' h' _ ⟨rfl, rfl, rfl⟩)
        | ((refine ⟨WdJ s _, fun vs _ _ => match vs with | [.int _ n] => 11 - n.toNat | _ => 0, ⟨rfl, 0, by omega, by simp, rfl, rfl, rfl⟩, ?_⟩; rintro vs o1 h1 _ ⟨n, hn, hno, rfl, rfl, rfl⟩; have hwd := wd_at n))
        | ((refine ⟨.str (wdAt n), ⟨strV (wdAt n), by rw [Nat.mul_one]; exact hwd (by simp at *; omega), fun _ => rfl, rfl⟩, ?_⟩))
        | intro _)
  all_goals (try simp only [Bool.and_eq_true, Bool.or_eq_true, Bool.not_eq_true', Bool.not_eq_false', decide_eq_true_eq, decide_eq_false_iff_not, beq_iff_eq, bne_iff_ne, bne_eq_false_iff_eq, beq_eq_false_iff_ne, Bool.false_eq_true, Bool.true_eq_false, ne_eq] at *)
  all_goals first
    | rfl
    | omega
    | (rw [isWd_at s n (by omega) (by assumption)])
    | (refine ⟨n + 1, by omega, fun i hi => ?_, by simp, rfl, rfl⟩; by_cases h : i = n; (subst h; assumption); exact hno i (by omega))
    | (rw [isWd_none s (fun i hi => hno i (by omega))])

set_option maxRecDepth 10000 in
theorem Word_c (s : List UInt8) (h : Hp) : CSpec Try.prog 14 [.str s] [] h (fun sv o h' => sv = .bexp (isWd s) ∧ o = [] ∧ h' = h) := by
  refine spec_of_swpF {} Try.func14 (enters_of Try.func14 (by kernel_rfl) rfl) rfl ?_
  repeat' (
      (conv => whnf)
      first
        | exact closedB (by kernel_rfl)
        | refine And.intro ?_ ?_
        | intro _)
  all_goals (try simp only [Bool.and_eq_true, Bool.or_eq_true, Bool.not_eq_true', Bool.not_eq_false', decide_eq_true_eq, decide_eq_false_iff_not, beq_iff_eq, bne_iff_ne, bne_eq_false_iff_eq, beq_eq_false_iff_ne, Bool.false_eq_true, Bool.true_eq_false, ne_eq] at *)
  all_goals first
    | rfl
    | (refine congrArg SV.bexp (Eq.symm ?_); simp only [isWd, wds, List.contains_cons, Bool.or_eq_true, beq_iff_eq]; simp [*]; done)
end Go.Proofs.Ytdpoebadaomfgaa
