/-
  The program's tokens: contracts of token and Next.
-/
import Derived.Test.YtdpoebadaomfgaaKb
set_option linter.unusedSimpArgs false
set_option linter.unusedVariables false
namespace Go.Proofs.Ytdpoebadaomfgaa
open Go Go.Pw

/-- The place behind a token, as 'token' leaves it. -/
def tokEnd (l : List UInt8) : Nat :=
  match l with
  | [] => 0
  | c :: _ =>
    if cls c.toNat = 1 then rl 1 l else if cls c.toNat = 2 then 1
    else if cls c.toNat = 3 ∨ cls c.toNat = 4 then nNeg l + nDig l
    else sgLen l

theorem cls_vals (c : Int) : 0 ≤ cls c ∧ cls c ≤ 5 := by unfold cls; (repeat' split) <;> omega

set_option maxHeartbeats 2000000 in
set_option maxRecDepth 10000 in
theorem token_c (s : List UInt8) (x : Int) (a : Nat) (fr : Int) (hx : x = a) (ha : a < s.length) (hs : s.length ≤ 1000000) (h : Hp) :
    CSpec Try.prog 38 [.ptr 0 0] [.cells 69 [.str s, .int .i64 x, .int .i64 fr]] h
      (fun sv o h' => sv = .int .i64 (beg (s.drop a)).1 ∧ o = [some (scn s (a + tokEnd (s.drop a) : Nat) fr)] ∧ h' = h) := by
  subst hx
  have hd := List.drop_eq_getElem_cons ha
  have hc : gb s a = ((s[a]).toNat : Int) := by simp [gb, List.getD, ha]
  have hv := cls_vals (gb s a)
  have hb : beg (s.drop a) = if cls (gb s a) = 1 then (1, rl 1 (s.drop a)) else if cls (gb s a) = 2 then (2, 1)
    else if cls (gb s a) = 3 ∨ cls (gb s a) = 4 then (if numB (s.drop a) then (3, nNeg (s.drop a) + nDig (s.drop a)) else (0, 0))
    else if 0 < sgLen (s.drop a) then (4, sgLen (s.drop a)) else (0, 0) := by
    rw [hc]; generalize hl : s.drop a = l at *; subst hd; rfl
  have ht : tokEnd (s.drop a) = if cls (gb s a) = 1 then rl 1 (s.drop a) else if cls (gb s a) = 2 then 1
    else if cls (gb s a) = 3 ∨ cls (gb s a) = 4 then nNeg (s.drop a) + nDig (s.drop a)
    else sgLen (s.drop a) := by
    rw [hc]; generalize hl : s.drop a = l at *; subst hd; rfl
  clear hd hc
  refine spec_of_swpF {} Try.func38 (enters_of Try.func38 (by kernel_rfl) rfl) rfl ?_
  repeat' (
      (conv => whnf)
      first
        | exact closedB (by kernel_rfl)
        | refine And.intro ?_ ?_
        | (refine ⟨_, ⟨rfl, (class_c _ _).mono (by rintro _ _ _ ⟨rfl, _⟩; rfl)⟩, ?_⟩)
        | (refine ⟨_, run_c s 1 _ a _ rfl (by omega) hs _, ?_⟩; rintro sv o' h' _ ⟨rfl, rfl, rfl⟩)
        | (refine ⟨_, number_c s _ a _ rfl (by omega) hs _, ?_⟩; rintro sv o' h' _ ⟨rfl, rfl, rfl⟩)
        | (refine ⟨_, sign_c s _ a _ rfl (by omega) hs _, ?_⟩; rintro sv o' h' _ ⟨rfl, rfl, rfl⟩)
        | intro _)
  all_goals (try simp only [Bool.and_eq_true, Bool.or_eq_true, Bool.not_eq_true', Bool.not_eq_false', decide_eq_true_eq, decide_eq_false_iff_not, beq_iff_eq, bne_iff_ne, bne_eq_false_iff_eq, beq_eq_false_iff_ne, Bool.false_eq_true, Bool.true_eq_false, ne_eq] at *)
  all_goals first
    | rfl
    | omega
    | (rw [hb]; clear hb ht; grind)
    | (rw [ht]; refine scnEq ?_; clear hb ht; grind)
    

theorem beg_end (l : List UInt8) (h : (beg l).1 ≠ 0) : tokEnd l = (beg l).2 := by
  revert h; unfold beg tokEnd
  split
  · simp
  · (repeat' split) <;> simp_all
theorem rl_pos {k : Int} {l : List UInt8} {c : UInt8} {r : List UInt8} (hl : l = c :: r) (h : cls c.toNat = k) : 0 < rl k l := by
  subst hl; simp [rl, h]
theorem beg_zero (l : List UInt8) : (beg l).1 = 0 ↔ (beg l).2 = 0 := by
  unfold beg
  split
  · simp
  · rename_i c r
    split
    · rename_i h; have := rl_pos (l := c :: r) rfl h; simp; omega
    · split
      · simp
      · split
        · split
          · rename_i h; simp only [numB, Bool.and_eq_true, decide_eq_true_eq] at h; simp; omega
          · simp
        · split
          · simp; omega
          · simp
theorem beg_kind (l : List UInt8) : 0 ≤ (beg l).1 ∧ (beg l).1 ≤ 4 := by
  unfold beg; (repeat' split) <;> simp

def nxtSv (r : Tok × Int × Flt) : SV := .tuple [r.1.sv, .int .i64 r.2.1, r.2.2.sv]

theorem nxt_range {s : List UInt8} {x : Int} (h : x < 0 ∨ (s.length : Int) < x) : nxt s x = (tok0, 0, ⟨2, 0⟩) := by simp only [nxt, if_pos h]
theorem nxt_short {s : List UInt8} {x : Nat} (h : x ≤ s.length) (h2 : x + rl 5 (s.drop x) = s.length) : nxt s x = (tok0, 0, ⟨5, s.length⟩) := by
  simp only [nxt]; rw [if_neg (by omega)]; simp only [Int.toNat_natCast, h2, if_true]
theorem nxt_form {s : List UInt8} {x : Nat} (h : x ≤ s.length) (h2 : x + rl 5 (s.drop x) ≠ s.length) (h3 : (beg (s.drop (x + rl 5 (s.drop x)))).1 = 0) : nxt s x = (tok0, 0, ⟨3, (x + rl 5 (s.drop x) : Nat)⟩) := by
  simp only [nxt]; rw [if_neg (by omega)]; simp only [Int.toNat_natCast, if_neg h2, (beg_zero _).1 h3, if_true]
theorem nxt_tok {s : List UInt8} {x : Nat} (h : x ≤ s.length) (h2 : x + rl 5 (s.drop x) ≠ s.length) (h3 : (beg (s.drop (x + rl 5 (s.drop x)))).1 ≠ 0) :
    nxt s x = (⟨(beg (s.drop (x + rl 5 (s.drop x)))).1, (s.drop (x + rl 5 (s.drop x))).take (beg (s.drop (x + rl 5 (s.drop x)))).2, (x + rl 5 (s.drop x) : Nat)⟩, ((x + rl 5 (s.drop x) : Nat) : Int) + (beg (s.drop (x + rl 5 (s.drop x)))).2, flt0) := by
  simp only [nxt]; rw [if_neg (by omega)]; simp only [Int.toNat_natCast, if_neg h2, if_neg (fun hc => h3 ((beg_zero _).2 hc))]

set_option maxRecDepth 10000 in
theorem next_c (s : List UInt8) (x : Int) (hs : s.length ≤ 1000000) (h : Hp) :
    CSpec Try.prog 12 [.str s, .int .i64 x] [] h (fun sv o h' => sv = nxtSv (nxt s x) ∧ o = [] ∧ h' = h) := by
  by_cases hr : x < 0 ∨ (s.length : Int) < x
  · rw [nxt_range hr]
    refine spec_of_swpF {} Try.func12 (enters_of Try.func12 (by kernel_rfl) rfl) rfl ?_
    repeat' (
        (conv => whnf)
        first
          | exact closedB (by kernel_rfl)
          | refine And.intro ?_ ?_
          | intro _)
    all_goals (try simp only [Bool.and_eq_true, Bool.or_eq_true, Bool.not_eq_true', Bool.not_eq_false', decide_eq_true_eq, decide_eq_false_iff_not, beq_iff_eq, bne_iff_ne, bne_eq_false_iff_eq, beq_eq_false_iff_ne, Bool.false_eq_true, Bool.true_eq_false, ne_eq] at *)
    all_goals first | rfl | omega
  · obtain ⟨n, rfl⟩ : ∃ n : Nat, x = n := ⟨x.toNat, by omega⟩
    have hn : n ≤ s.length := by omega
    have hb := rl5_le s n hn
    by_cases hsh : n + rl 5 (s.drop n) = s.length
    · rw [nxt_short hn hsh]
      refine spec_of_swpF { pull := [(7, [0, 1]), (10, [0, 1]), (11, [0, 1])] } Try.func12 (enters_of Try.func12 (by kernel_rfl) rfl) rfl ?_
      repeat' (
          (conv => whnf)
          first
            | exact closedB (by kernel_rfl)
            | refine And.intro ?_ ?_
            | (refine ⟨_, run_c s 5 _ n _ rfl hn hs _, ?_⟩; rintro sv o' h' _ ⟨rfl, rfl, rfl⟩)
            | intro _)
      all_goals (try simp only [Bool.and_eq_true, Bool.or_eq_true, Bool.not_eq_true', Bool.not_eq_false', decide_eq_true_eq, decide_eq_false_iff_not, beq_iff_eq, bne_iff_ne, bne_eq_false_iff_eq, beq_eq_false_iff_ne, Bool.false_eq_true, Bool.true_eq_false, ne_eq] at *)
      all_goals first | rfl | omega | (rw [hsh]; rfl) 
    · by_cases hk : (beg (s.drop (n + rl 5 (s.drop n)))).1 = 0
      · rw [nxt_form hn hsh hk]
        refine spec_of_swpF { pull := [(7, [0, 1]), (10, [0, 1]), (11, [0, 1])] } Try.func12 (enters_of Try.func12 (by kernel_rfl) rfl) rfl ?_
        repeat' (
            (conv => whnf)
            first
              | exact closedB (by kernel_rfl)
              | refine And.intro ?_ ?_
              | (refine ⟨_, run_c s 5 _ n _ rfl hn hs _, ?_⟩; rintro sv o' h' _ ⟨rfl, rfl, rfl⟩)
              | (refine ⟨_, token_c s _ (n + rl 5 (s.drop n)) _ rfl (by omega) hs _, ?_⟩; rintro sv o' h' _ ⟨rfl, rfl, rfl⟩)
              | intro _)
        all_goals (try simp only [Bool.and_eq_true, Bool.or_eq_true, Bool.not_eq_true', Bool.not_eq_false', decide_eq_true_eq, decide_eq_false_iff_not, beq_iff_eq, bne_iff_ne, bne_eq_false_iff_eq, beq_eq_false_iff_ne, Bool.false_eq_true, Bool.true_eq_false, ne_eq] at *)
        all_goals first | rfl | omega 
      · rw [nxt_tok hn hsh hk]
        have hbe := beg_end _ hk
        have hle := beg_le (s.drop (n + rl 5 (s.drop n)))
        rw [List.length_drop] at hle
        refine spec_of_swpF { pull := [(7, [0, 1]), (10, [0, 1]), (11, [0, 1])] } Try.func12 (enters_of Try.func12 (by kernel_rfl) rfl) rfl ?_
        repeat' (
            (conv => whnf)
            first
              | exact closedB (by kernel_rfl)
              | refine And.intro ?_ ?_
              | (refine ⟨_, run_c s 5 _ n _ rfl hn hs _, ?_⟩; rintro sv o' h' _ ⟨rfl, rfl, rfl⟩)
              | (refine ⟨_, token_c s _ (n + rl 5 (s.drop n)) _ rfl (by omega) hs _, ?_⟩; rintro sv o' h' _ ⟨rfl, rfl, rfl⟩)
              | intro _)
        all_goals (try simp only [Bool.and_eq_true, Bool.or_eq_true, Bool.not_eq_true', Bool.not_eq_false', decide_eq_true_eq, decide_eq_false_iff_not, beq_iff_eq, bne_iff_ne, bne_eq_false_iff_eq, beq_eq_false_iff_ne, Bool.false_eq_true, Bool.true_eq_false, ne_eq] at *)
        all_goals first | rfl | omega | (rw [hbe, sub_nat]; simp only [nxtSv, Tok.sv, Flt.sv, flt0, Int.natCast_add])
end Go.Proofs.Ytdpoebadaomfgaa
