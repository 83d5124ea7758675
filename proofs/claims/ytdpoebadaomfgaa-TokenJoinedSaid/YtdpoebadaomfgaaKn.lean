/-
  The law TokenJoined: its walk.
-/
import Derived.Test.YtdpoebadaomfgaaKi
import Derived.Test.YtdpoebadaomfgaaKm
set_option linter.unusedSimpArgs false
set_option linter.unusedVariables false
namespace Go.Proofs.Ytdpoebadaomfgaa
open Go Go.Pw

/-- The second text's tokens, the first n of them moved. -/
def updT (d : Int) (n : Nat) (l : List Tok) : List Tok := (l.take n).map (shT d) ++ l.drop n
theorem updT_len (d : Int) (n : Nat) (l : List Tok) : (updT d n l).length = l.length := by simp [updT]; omega
theorem updT_all (d : Int) (l : List Tok) : updT d l.length l = l.map (shT d) := by simp [updT]
theorem updT_at (d : Int) (n : Nat) (l : List Tok) (h : n < l.length) : (updT d n l).getD n tok0 = l.getD n tok0 := by
  unfold updT
  rw [List.getD_eq_getElem?_getD, List.getElem?_append_right (by simp; omega), List.getD_eq_getElem?_getD, List.getElem?_drop]
  have : n + (n - ((l.take n).map (shT d)).length) = n := by simp; omega
  rw [this]

theorem pos_rd (l : List Tok) (n : Nat) (h : n < l.length) : ORd1 (toksCells l) (n * 3 + 2) (.int .i64 (l.getD n tok0).pos) := by
  refine ⟨_, ?_, fun e => rfl, rfl⟩
  have := toksCells_part l n h
  have h2 := congrArg (fun q : List Value => q[2]?) this
  rw [List.getElem?_take_of_lt (by omega), List.getElem?_drop] at h2
  exact h2

theorem toksCells_cons (x : Tok) (l : List Tok) : toksCells (x :: l) = x.cells ++ toksCells l := rfl
theorem pos_wr : ∀ (l : List Tok) (n : Nat) (p : Int), n < l.length → putN (toksCells l) (n * 3 + 2) [.int .i64 p] = toksCells (l.set n ⟨(l.getD n tok0).kind, (l.getD n tok0).text, p⟩)
  | [], n, p, h => by simp at h
  | x :: l, 0, p, _ => by simp [putN, toksCells, Tok.cells]
  | x :: l, n + 1, p, h => by
    have := pos_wr l n p (by simpa using h)
    have e : (n + 1) * 3 + 2 = (n * 3 + 2) + 3 := by omega
    simp only [putN, List.set_cons_succ, toksCells_cons] at *
    rw [e, List.set_append_right _ _ (by simp [Tok.cells])]
    simp only [Tok.cells, List.length_cons, List.length_nil, List.getD_cons_succ] at *
    rw [show n * 3 + 2 + 3 - (0 + 1 + 1 + 1) = n * 3 + 2 by omega, this]
theorem updT_step (d : Int) (n : Nat) (l : List Tok) (h : n < l.length) : (updT d n l).set n ⟨((updT d n l).getD n tok0).kind, ((updT d n l).getD n tok0).text, (l.getD n tok0).pos + d⟩ = updT d (n + 1) l := by
  rw [updT_at d n l h]
  have hg : l.getD n tok0 = l[n] := by simp [List.getD, h]
  rw [hg]
  unfold updT
  have hk : n - ((l.take n).map (shT d)).length = 0 := by simp; omega
  rw [List.set_append_right _ _ (by simp; omega), hk, List.take_succ_eq_append_getElem h, List.drop_eq_getElem_cons h, List.map_append, List.append_assoc]
  rfl

abbrev fF : SObj := .cells 26 [.int .i64 flt0.err, .int .i64 flt0.pos]
theorem pos_rd' (d : Int) (n : Nat) (l : List Tok) (h : n < l.length) : ORd1 (toksCells (updT d n l)) (n * 3 + 2) (.int .i64 (l.getD n tok0).pos) := by
  have := pos_rd (updT d n l) n (by rw [updT_len]; exact h)
  rwa [updT_at d n l h] at this
theorem getD_mem (l : List Tok) (n : Nat) (h : n < l.length) : l.getD n tok0 ∈ l := by
  have hg : l.getD n tok0 = l[n] := by simp [List.getD, h]
  rw [hg]; exact List.getElem_mem h
structure JnJ (la lb lc : List Tok) (fa fb fc : SObj) (d : Int) (h : Hp) (vs : List SV) (o : List (Option SObj)) (h' : Hp) : Prop where
  ex : ∃ n : Nat, n ≤ lb.length ∧ vs = [.int .i64 n] ∧ o = [some (okToks la), some fa, some (.olist 30 3 lb.length (toksCells (updT d n lb))), some fb, some (okToks lc), some fc] ∧ h' = h

theorem toks_pos (s : List UInt8) : ∀ (n : Nat) (i : Int), 0 ≤ i → i ≤ s.length → ∀ t ∈ (toksF s n i).1, 0 ≤ t.pos ∧ t.pos ≤ s.length
  | 0, i, _, _, t, h => by simp [toksF] at h
  | n + 1, i, h0, h1, t, h => by
    simp only [toksF] at h
    split at h
    · rename_i he
      have hn := nxt_next he
      rcases List.mem_cons.1 h with rfl | h
      · have := nxt_end s i.toNat _ (by omega) rfl
        have hi : ((i.toNat : Nat) : Int) = i := by omega
        rw [hi] at this
        have hr := rl_le' 5 s i.toNat (by omega)
        rw [this] at he ⊢
        split
        · simp [tok0]
        · split
          · simp [tok0]
          · simp; omega
      · exact toks_pos s n _ (by omega) (by omega) t h
    · simp at h

theorem toks_fpos (s : List UInt8) : ∀ (n : Nat) (i : Int), 0 ≤ i → i ≤ s.length → 0 ≤ (toksF s n i).2.pos ∧ (toksF s n i).2.pos ≤ s.length
  | 0, i, _, _ => by simp [toksF, flt0]
  | n + 1, i, h0, h1 => by
    simp only [toksF]
    split
    · rename_i he
      have hn := nxt_next he
      exact toks_fpos s n _ (by omega) (by omega)
    · have := nxt_end s i.toNat _ (by omega) rfl
      have hi : ((i.toNat : Nat) : Int) = i := by omega
      rw [hi] at this
      have hr := rl_le' 5 s i.toNat (by omega)
      rw [this]
      split
      · simp; omega
      · split
        · simp; omega
        · simp [flt0]
theorem toks_flt {s : List UInt8} (h : s.length ≤ 400) : 0 ≤ (toks s).2.pos ∧ (toks s).2.pos ≤ s.length := by
  rw [toks_of h]
  split
  · simp [flt0]
  · exact toks_fpos s _ 0 (by omega) (by omega)
theorem toks_at {s : List UInt8} (h : s.length ≤ 400) : ∀ t ∈ (toks s).1, 0 ≤ t.pos ∧ t.pos ≤ s.length := by
  rw [toks_of h]
  split
  · exact toks_pos s _ 0 (by omega) (by omega)
  · simp

theorem toks_zero {s : List UInt8} (h : (toks s).2.err = 0) : (toks s).2 = flt0 := by
  revert h
  unfold toks
  split
  · intro h; simp at h
  · split
    · intro _; rfl
    · intro h; exact absurd h (toksF_nz' s)

set_option maxHeartbeats 4000000 in
set_option maxRecDepth 10000 in
theorem TokenJoined_c (a b : List UInt8) (h : Hp) : CSpec Try.prog 3 [.str a, .str b] [] h (fun sv o h' => sv = .bexp true ∧ h' = h) := by
  by_cases hl : a.length ≤ 190 ∧ b.length ≤ 190
  · have hap := toks_app hl.1 hl.2
    have hsp : a ++ 32 :: b = a ++ [32] ++ b := by simp
    rw [hsp] at hap
    have hsl : (a ++ [32] ++ b).length ≤ 1000000 := by simp; omega
    have hfb := toks_flt (s := b) (by omega)
    by_cases hea : (toks a).2.err = 0
    · rw [if_neg (by omega)] at hap
      have hfa := toks_zero hea
      by_cases heb : (toks b).2.err = 0
      · rw [if_neg (by omega)] at hap
        have hc : (toks (a ++ [32] ++ b)).2.err = 0 := by rw [hap]; rfl
        have hT := fun h => Tokens_ok (a ++ [32] ++ b) hc h
        simp only [hap] at hT
        have hlb := toks_len b
        have hlL := toks_len (a ++ [32] ++ b)
        rw [hap] at hlL
        simp only at hlL
        have hla := toks_len a
        have hat := toks_at (s := b) (by omega)
        have hA := fun h => Tokens_ok a hea h
        have hB := fun h => Tokens_ok b heb h
        generalize (toks a).1 = la at *
        generalize (toks b).1 = lb at *
        have hlab : (la ++ lb.map (shT (a.length + 1 : Nat))).length = la.length + lb.length := by simp
        have hLL : toksCells la ++ toksCells (updT (a.length + 1 : Nat) lb.length lb) = toksCells (la ++ lb.map (shT (a.length + 1 : Nat))) := by
          rw [updT_all]; simp [toksCells]
        have hE : ∀ n, n = lb.length → ∀ h, CSpec Try.prog 10 [.loc 0, .loc 1] [okToks (la ++ lb.map (shT (a.length + 1 : Nat))), .olist 30 3 (la.length + lb.length) (toksCells la ++ toksCells (updT (a.length + 1 : Nat) n lb))] h (fun sv o h' => sv = .bexp true ∧ o = [some (okToks (la ++ lb.map (shT (a.length + 1 : Nat)))), some (okToks (la ++ lb.map (shT (a.length + 1 : Nat))))] ∧ h' = h) := by
          intro n hn h
          subst hn
          rw [hLL, show SObj.olist 30 3 (la.length + lb.length) (toksCells (la ++ lb.map (shT (a.length + 1 : Nat)))) = okToks (la ++ lb.map (shT (a.length + 1 : Nat))) by unfold okToks; rw [hlab]]
          have := equal_ll (la ++ lb.map (shT (a.length + 1 : Nat))) (la ++ lb.map (shT (a.length + 1 : Nat))) hlL h
          simpa using this
        refine spec_of_swpF { ann := [(11, { slots := [11] })] } Try.func3 (enters_of Try.func3 (by kernel_rfl) rfl) rfl ?_
        repeat' (
            (conv => whnf)
            first
              | exact closedB (by kernel_rfl)
              | refine And.intro ?_ ?_
              | (refine ⟨_, hA _, ?_⟩; rintro sv o' h' _ ⟨rfl, rfl, rfl⟩)
              | (refine ⟨_, hB _, ?_⟩; rintro sv o' h' _ ⟨rfl, rfl, rfl⟩)
              | (refine ⟨_, hT _, ?_⟩; rintro sv o' h' _ ⟨rfl, rfl, rfl⟩)
              | (refine ⟨_, hE n (by (try simp only [Bool.and_eq_true, Bool.or_eq_true, Bool.not_eq_true', Bool.not_eq_false', decide_eq_true_eq, decide_eq_false_iff_not, beq_iff_eq, bne_iff_ne, bne_eq_false_iff_eq, beq_eq_false_iff_ne, Bool.false_eq_true, Bool.true_eq_false, ne_eq] at *); omega) _, ?_⟩; rintro sv o' h' _ ⟨rfl, rfl, rfl⟩)
              | (refine ⟨_, awake_c _, ?_⟩; rintro sv o' h' _ ⟨rfl, rfl, rfl⟩)
              | ((refine ⟨JnJ la lb (la ++ lb.map (shT (a.length + 1 : Nat))) fF fF fF (a.length + 1 : Nat) _, fun vs _ _ => match vs with | [.int _ n] => lb.length - n.toNat | _ => 0, ⟨rfl, 0, by simp, rfl, rfl, rfl⟩, ?_⟩; rintro vs o1 h1 _ ⟨n, hn, rfl, rfl, rfl⟩))
              | ((have hlt : n < lb.length := (by (try simp only [Bool.and_eq_true, Bool.or_eq_true, Bool.not_eq_true', Bool.not_eq_false', decide_eq_true_eq, decide_eq_false_iff_not, beq_iff_eq, bne_iff_ne, bne_eq_false_iff_eq, beq_eq_false_iff_ne, Bool.false_eq_true, Bool.true_eq_false, ne_eq] at *); omega); have hp := hat _ (getD_mem lb n hlt); refine ⟨.int .i64 (lb.getD n tok0).pos, ?_, ?_⟩; exact pos_rd' _ n lb hlt))
              | intro _)
        all_goals (try simp only [Bool.and_eq_true, Bool.or_eq_true, Bool.not_eq_true', Bool.not_eq_false', decide_eq_true_eq, decide_eq_false_iff_not, beq_iff_eq, bne_iff_ne, bne_eq_false_iff_eq, beq_eq_false_iff_ne, Bool.false_eq_true, Bool.true_eq_false, ne_eq] at *)
        all_goals first
          | rfl
          | omega
          | (simp at *; omega)
          | (exfalso; simp at *; done)
          | (show n * 3 + 2 + 1 ≤ _; rw [toksCells_length, updT_len]; omega)
          | (refine ⟨⟨n + 1, by omega, rfl, ?_, rfl⟩⟩
             have e : putN (toksCells (updT (a.length + 1 : Nat) n lb)) (n * 3 + 2) [.int .i64 ((lb.getD n tok0).pos + a.length + 1)] = toksCells (updT (a.length + 1 : Nat) (n + 1) lb) := by
               rw [pos_wr _ n _ (by rw [updT_len]; exact hlt), ← updT_step _ n lb hlt]
               congr 3; omega
             exact congrArg (fun q => [some (okToks la), some fF, some (.olist 30 3 lb.length q), some fF, some (okToks (la ++ lb.map (shT (a.length + 1 : Nat)))), some fF]) e)
          | (show la.length + lb.length ≤ maxLen; unfold maxLen; omega)
          | (show (la.length + lb.length) * 32 ≤ _; omega)
          | (exfalso; simp [flt0] at *; done)
      · rw [if_pos heb] at hap
        have hc : (toks (a ++ [32] ++ b)).2.err ≠ 0 := by rw [hap]; exact heb
        have hT := fun h => Tokens_bad (a ++ [32] ++ b) hsl hc h
        simp only [hap, shF] at hT
        refine spec_of_swpF { ann := [(11, { slots := [11] })] } Try.func3 (enters_of Try.func3 (by kernel_rfl) rfl) rfl ?_
        repeat' (
            (conv => whnf)
            first
              | exact closedB (by kernel_rfl)
              | refine And.intro ?_ ?_
              | (refine ⟨_, Tokens_ok a hea _, ?_⟩; rintro sv o' h' _ ⟨rfl, rfl, rfl⟩)
              | (refine ⟨_, Tokens_bad b (by omega) heb _, ?_⟩; rintro sv o' h' _ ⟨rfl, rfl, rfl⟩)
              | (refine ⟨_, hT _, ?_⟩; rintro sv o' h' _ ⟨rfl, rfl, rfl⟩)
              | (refine ⟨_, awake_c _, ?_⟩; rintro sv o' h' _ ⟨rfl, rfl, rfl⟩)
              | intro _)
        all_goals (try simp only [Bool.and_eq_true, Bool.or_eq_true, Bool.not_eq_true', Bool.not_eq_false', decide_eq_true_eq, decide_eq_false_iff_not, beq_iff_eq, bne_iff_ne, bne_eq_false_iff_eq, beq_eq_false_iff_ne, Bool.false_eq_true, Bool.true_eq_false, ne_eq] at *)
        all_goals first
          | rfl
          | omega
          | (simp at *; omega)
          | (exfalso; simp [flt0] at *; done)
          | (exfalso; simp [flt0] at *; omega)
    · rw [if_pos hea] at hap
      have hc : (toks (a ++ [32] ++ b)).2.err ≠ 0 := by rw [hap]; exact hea
      have hT := fun h => Tokens_bad (a ++ [32] ++ b) hsl hc h
      simp only [hap] at hT
      by_cases heb : (toks b).2.err = 0
      ·
        refine spec_of_swpF { ann := [(11, { slots := [11] })] } Try.func3 (enters_of Try.func3 (by kernel_rfl) rfl) rfl ?_
        repeat' (
            (conv => whnf)
            first
              | exact closedB (by kernel_rfl)
              | refine And.intro ?_ ?_
              | (refine ⟨_, Tokens_bad a (by omega) hea _, ?_⟩; rintro sv o' h' _ ⟨rfl, rfl, rfl⟩)
              | (refine ⟨_, Tokens_ok b heb _, ?_⟩; rintro sv o' h' _ ⟨rfl, rfl, rfl⟩)
              | (refine ⟨_, hT _, ?_⟩; rintro sv o' h' _ ⟨rfl, rfl, rfl⟩)
              | (refine ⟨_, awake_c _, ?_⟩; rintro sv o' h' _ ⟨rfl, rfl, rfl⟩)
              | intro _)
        all_goals (try simp only [Bool.and_eq_true, Bool.or_eq_true, Bool.not_eq_true', Bool.not_eq_false', decide_eq_true_eq, decide_eq_false_iff_not, beq_iff_eq, bne_iff_ne, bne_eq_false_iff_eq, beq_eq_false_iff_ne, Bool.false_eq_true, Bool.true_eq_false, ne_eq] at *)
        all_goals first
          | rfl
          | omega
          | (simp at *; omega)
          | (exfalso; simp [flt0] at *; done)
          | (exfalso; simp [flt0] at *; omega)
      ·
        refine spec_of_swpF { ann := [(11, { slots := [11] })] } Try.func3 (enters_of Try.func3 (by kernel_rfl) rfl) rfl ?_
        repeat' (
            (conv => whnf)
            first
              | exact closedB (by kernel_rfl)
              | refine And.intro ?_ ?_
              | (refine ⟨_, Tokens_bad a (by omega) hea _, ?_⟩; rintro sv o' h' _ ⟨rfl, rfl, rfl⟩)
              | (refine ⟨_, Tokens_bad b (by omega) heb _, ?_⟩; rintro sv o' h' _ ⟨rfl, rfl, rfl⟩)
              | (refine ⟨_, hT _, ?_⟩; rintro sv o' h' _ ⟨rfl, rfl, rfl⟩)
              | (refine ⟨_, awake_c _, ?_⟩; rintro sv o' h' _ ⟨rfl, rfl, rfl⟩)
              | intro _)
        all_goals (try simp only [Bool.and_eq_true, Bool.or_eq_true, Bool.not_eq_true', Bool.not_eq_false', decide_eq_true_eq, decide_eq_false_iff_not, beq_iff_eq, bne_iff_ne, bne_eq_false_iff_eq, beq_eq_false_iff_ne, Bool.false_eq_true, Bool.true_eq_false, ne_eq] at *)
        all_goals first
          | rfl
          | omega
          | (simp at *; omega)
          | (exfalso; simp [flt0] at *; done)
          | (exfalso; simp [flt0] at *; omega)
  ·
    refine spec_of_swpF { ann := [(11, { slots := [11] })] } Try.func3 (enters_of Try.func3 (by kernel_rfl) rfl) rfl ?_
    repeat' (
        (conv => whnf)
        first
          | exact closedB (by kernel_rfl)
          | refine And.intro ?_ ?_
          | (refine ⟨_, awake_c _, ?_⟩; rintro sv o' h' _ ⟨rfl, rfl, rfl⟩)
          | intro _)
    all_goals (try simp only [Bool.and_eq_true, Bool.or_eq_true, Bool.not_eq_true', Bool.not_eq_false', decide_eq_true_eq, decide_eq_false_iff_not, beq_iff_eq, bne_iff_ne, bne_eq_false_iff_eq, beq_eq_false_iff_ne, Bool.false_eq_true, Bool.true_eq_false, ne_eq] at *)
    all_goals first
      | rfl
      | omega
      | (exfalso; omega)
end Go.Proofs.Ytdpoebadaomfgaa
