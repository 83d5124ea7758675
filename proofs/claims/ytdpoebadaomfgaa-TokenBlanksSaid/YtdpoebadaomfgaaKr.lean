/-
  The law TokenBlanks: its walk.
-/
import Derived.Test.YtdpoebadaomfgaaKq
set_option linter.unusedSimpArgs false
set_option linter.unusedVariables false
namespace Go.Proofs.Ytdpoebadaomfgaa
open Go Go.Pw

abbrev some8 : List UInt8 := [32, 9, 10, 13, 32, 32, 10, 32]
/-- What stands ahead of a token. -/
def blF (k : Int) : List UInt8 := some8.take (1 + ((k % 3 + 3) % 3).toNat)

abbrev fB : SObj := .cells 26 [.int .i64 flt0.err, .int .i64 flt0.pos]
structure BlJ (l : List Tok) (h : Hp) (vs : List SV) (o : List (Option SObj)) (h' : Hp) : Prop where
  ex : ∃ (n : Nat) (q : List (List UInt8 × Tok)), n ≤ l.length ∧ q.map (·.2) = l.take n ∧ (∀ p ∈ q, BlOk p.1 ∧ p.1.length ≤ 3) ∧ vs = [.str (joinB q), .int .i64 n] ∧ o = [some (okToks l), some fB] ∧ h' = h

theorem toks_tokOk (s : List UInt8) : ∀ t ∈ (toks s).1, TokOk t := by
  unfold toks
  split
  · simp
  · split
    · exact toksF_ok s _ _
    · simp
theorem toks_txt (s : List UInt8) : txtLen (toks s).1 ≤ s.length := by
  unfold toks
  split
  · simp [txtLen]
  · split
    · have := toksF_txt s (s.length + 1 - 0) 0 (by omega) (by omega)
      simp only [toksAt]
      simpa using this
    · simp [txtLen]
theorem text_le : ∀ (l : List Tok) (t : Tok), t ∈ l → t.text.length ≤ txtLen l
  | [], t, h => by simp at h
  | x :: l, t, h => by
    rcases List.mem_cons.1 h with rfl | h
    · simp [txtLen]
    · have := text_le l t h
      simp only [txtLen, List.map_cons, List.sum_cons] at *; omega
theorem len_a {x y : Nat} (h : x ≤ 400) (h2 : y ≤ 100) : x + y ≤ 9223372036854775807 := by omega
theorem len_b {a b : List UInt8} (h : a.length ≤ 360) (h2 : b.length ≤ 3) : (a ++ b).length ≤ 400 := by rw [List.length_append]; omega
theorem txtLen_take (l : List Tok) (n : Nat) : txtLen (l.take n) ≤ txtLen l := by
  have := congrArg txtLen (List.take_append_drop n l)
  simp only [txtLen, List.map_append, List.sum_append] at *
  omega
theorem joinB_snoc (q : List (List UInt8 × Tok)) (b : List UInt8) (t : Tok) : joinB (q ++ [(b, t)]) = joinB q ++ b ++ t.text := by
  induction q with
  | nil => simp [joinB]
  | cons p q ih => obtain ⟨c, u⟩ := p; simp [joinB, ih]
theorem q_len {q : List (List UInt8 × Tok)} {l : List Tok} {m : Nat} (hm : m ≤ l.length) (hq : q.map (·.2) = l.take m) (hb : ∀ p ∈ q, BlOk p.1 ∧ p.1.length ≤ 3) : (joinB q).length ≤ 3 * m + txtLen l := by
  have h1 := joinB_len q (fun p hp => (hb p hp).2)
  have h2 := congrArg List.length hq
  have h3 := txtLen_take l m
  rw [hq] at h1
  simp at h2
  omega

theorem tm (k : Int) : -2 ≤ k.tmod 3 ∧ k.tmod 3 ≤ 2 ∧ 0 ≤ (k.tmod 3 + 3).tmod 3 ∧ (k.tmod 3 + 3).tmod 3 ≤ 2 := by
  have h1 : -2 ≤ k.tmod 3 ∧ k.tmod 3 ≤ 2 := by
    have a := Int.tmod_lt_of_pos k (b := 3) (by omega)
    have b := Int.tmod_lt_of_pos (-k) (b := 3) (by omega)
    rw [Int.neg_tmod] at b
    omega
  have h2 := Int.tmod_nonneg (a := k.tmod 3 + 3) 3 (by omega)
  have h3 : (k.tmod 3 + 3).tmod 3 < 3 := Int.tmod_lt_of_pos _ (by omega)
  omega
theorem bl_ok (e : Int) (h0 : 0 ≤ e) (h2 : e ≤ 2) : BlOk (sub some8 0 (1 + e)) ∧ (sub some8 0 (1 + e)).length ≤ 3 := by
  have : e = 0 ∨ e = 1 ∨ e = 2 := by omega
  rcases this with rfl | rfl | rfl
  · exact ⟨⟨by decide, by decide⟩, by decide⟩
  · exact ⟨⟨by decide, by decide⟩, by decide⟩
  · exact ⟨⟨by decide, by decide⟩, by decide⟩
theorem bl4 : BlOk (sub some8 0 4) := ⟨by decide, by decide⟩
theorem txt_rd (l : List Tok) (n : Nat) (h : n < l.length) : ORd1 (toksCells l) (n * 3 + 1) (.str (l.getD n tok0).text) := by
  refine ⟨_, ?_, fun e => rfl, rfl⟩
  have := toksCells_part l n h
  have h2 := congrArg (fun q : List Value => q[1]?) this
  rw [List.getElem?_take_of_lt (by omega), List.getElem?_drop] at h2
  exact h2
theorem getD_mem' (l : List Tok) (n : Nat) (h : n < l.length) : l.getD n tok0 ∈ l := by
  have hg : l.getD n tok0 = l[n] := by simp [List.getD, h]
  rw [hg]; exact List.getElem_mem h
theorem q_step {q : List (List UInt8 × Tok)} {l : List Tok} {m : Nat} (hm : m < l.length) (hq : q.map (·.2) = l.take m) (b : List UInt8) : (q ++ [(b, l.getD m tok0)]).map (·.2) = l.take (m + 1) := by
  have hg : l.getD m tok0 = l[m] := by simp [List.getD, hm]
  rw [hg, List.map_append, hq, List.take_succ_eq_append_getElem hm]; rfl
theorem more_c {q : List (List UInt8 × Tok)} {l : List Tok} {m : Nat} (hm : m = l.length) (hq : q.map (·.2) = l.take m) (hb : ∀ p ∈ q, BlOk p.1 ∧ p.1.length ≤ 3) (hk : ∀ t ∈ l, TokOk t) (hl : txtLen l ≤ 90) (h : Hp) :
    CSpec Try.prog 9 [.str (joinB q ++ sub some8 0 4)] [] h (fun sv o h' => ∃ l2, l2.map kt = l.map kt ∧ l2.length ≤ 1000000 ∧ sv = .tuple [.loc 0, flt0.sv] ∧ o = [some (okToks l2)] ∧ h' = h) := by
  have hcn := txtLen_count l hk
  have hlen := q_len (by omega) hq hb
  have h4 : (sub some8 0 4).length = 4 := by decide
  have hq2 : q.map (·.2) = l := by rw [hq, hm, List.take_length]
  have hj := toks_join (sub some8 0 4) bl4 q (fun p hp => ⟨(hb p hp).1, hk _ (by rw [← hq2]; exact List.mem_map_of_mem hp)⟩) (by rw [List.length_append, h4]; omega)
  have := Tokens_ok (joinB q ++ sub some8 0 4) (by rw [hj.1]; rfl) h
  refine this.mono fun sv o h' ⟨e1, e2, e3⟩ => ⟨_, ?_, toks_len _, e1, e2, e3⟩
  show (toks _).1.map (fun t => (t.kind, t.text)) = _
  rw [hj.2, ← hq2]
  simp [kt]

set_option maxHeartbeats 4000000 in
set_option maxRecDepth 10000 in
theorem TokenBlanks_c (s : List UInt8) (a : Option Addr) (n c : Nat) (h : Hp) (hn : n ≤ maxLen) (hk : ∀ i, i < n → ∃ b k, a = some b ∧ -9223372036854775808 ≤ k ∧ k ≤ 9223372036854775807 ∧ HRd1 h (b.add i) (.int .i64 k)) :
    CSpec Try.prog 5 [.str s, .slc a n c] [] h (fun sv o h' => sv = .bexp true ∧ h' = h) := by
  by_cases hl : s.length ≤ 90
  · by_cases he : (toks s).2.err = 0
    · have hA := fun h => Tokens_ok s he h
      have hla := toks_len s
      have htk := toks_tokOk s
      have htx := toks_txt s
      generalize (toks s).1 = l at *
      have hcn := txtLen_count l htk
      refine spec_of_swpF { ann := [(8, { slots := [7, 8] })] } Try.func5 (enters_of Try.func5 (by kernel_rfl) rfl) rfl ?_
      repeat' (
          (conv => whnf)
          first
            | exact closedB (by kernel_rfl)
            | refine And.intro ?_ ?_
            | (refine ⟨_, hA _, ?_⟩; rintro sv o' h' _ ⟨rfl, rfl, rfl⟩)
            | (refine ⟨_, awake_c _, ?_⟩; rintro sv o' h' _ ⟨rfl, rfl, rfl⟩)
            | ((refine ⟨BlJ l _, fun vs _ _ => match vs with | [_, .int _ n] => l.length - n.toNat | _ => 0, ⟨rfl, 0, [], by omega, rfl, by simp, rfl, rfl, rfl⟩, ?_⟩; rintro vs o1 h1 _ ⟨m, q, hm, hq, hqb, rfl, rfl, rfl⟩; have hql := q_len hm hq hqb))
            | ((have hmn : m < n := (by (try simp only [Bool.and_eq_true, Bool.or_eq_true, Bool.not_eq_true', Bool.not_eq_false', decide_eq_true_eq, decide_eq_false_iff_not, beq_iff_eq, bne_iff_ne, bne_eq_false_iff_eq, beq_eq_false_iff_ne, Bool.false_eq_true, Bool.true_eq_false, ne_eq] at *); omega); obtain ⟨b, k, hb, hk1, hk2, hr⟩ := hk m hmn; refine ⟨.dptr (some (b.add (m * 1))), ?_, ?_⟩; exact ⟨⟨by omega, by omega⟩, b, hb, rfl⟩))
            | ((refine ⟨.int .i64 k, ?_, ?_⟩; exact (by simpa using hr)))
            | ((refine ⟨.str (l.getD m tok0).text, ?_, ?_⟩; exact txt_rd l m (by (try simp only [Bool.and_eq_true, Bool.or_eq_true, Bool.not_eq_true', Bool.not_eq_false', decide_eq_true_eq, decide_eq_false_iff_not, beq_iff_eq, bne_iff_ne, bne_eq_false_iff_eq, beq_eq_false_iff_ne, Bool.false_eq_true, Bool.true_eq_false, ne_eq] at *); omega)))
            | (refine ⟨_, more_c (by (try simp only [Bool.and_eq_true, Bool.or_eq_true, Bool.not_eq_true', Bool.not_eq_false', decide_eq_true_eq, decide_eq_false_iff_not, beq_iff_eq, bne_iff_ne, bne_eq_false_iff_eq, beq_eq_false_iff_ne, Bool.false_eq_true, Bool.true_eq_false, ne_eq] at *); omega) hq hqb htk (by omega) _, ?_⟩; rintro sv o' h' _ ⟨l2, hl2, hl2n, rfl, rfl, rfl⟩)
            | (refine ⟨_, Same_c l2 l hl2n _, ?_⟩; rintro sv o' h' _ ⟨rfl, rfl, rfl⟩)
            | intro _)
      all_goals (try simp only [Bool.and_eq_true, Bool.or_eq_true, Bool.not_eq_true', Bool.not_eq_false', decide_eq_true_eq, decide_eq_false_iff_not, beq_iff_eq, bne_iff_ne, bne_eq_false_iff_eq, beq_eq_false_iff_ne, Bool.false_eq_true, Bool.true_eq_false, ne_eq] at *)
      all_goals first
        | rfl
        | omega
        | (have := tm k; omega)
        | (have := tm 0; omega)
        | (have := tm k; simp only [List.length_cons, List.length_nil]; omega)
        | exact len_a (Nat.le_trans hql (by omega)) (Nat.le_trans (bl_ok _ (tm k).2.2.1 (tm k).2.2.2).2 (by omega))
        | exact len_a (len_b (Nat.le_trans hql (by omega)) (bl_ok _ (tm k).2.2.1 (tm k).2.2.2).2) (Nat.le_trans (text_le l _ (getD_mem' l m (by omega))) (by omega))
        | (have hm' : m < l.length := by omega
           have htm := tm k
           refine ⟨⟨m + 1, q ++ [(sub some8 0 (1 + (Int.tmod k 3 + 3).tmod 3), l.getD m tok0)], by omega, q_step hm' hq _, fun p hp => ?_, ?_, rfl, rfl⟩⟩
           · rcases List.mem_append.1 hp with h | h
             · exact hqb p h
             · rw [List.mem_singleton] at h
               subst h
               exact bl_ok _ htm.2.2.1 htm.2.2.2
           · rw [joinB_snoc]; rfl)
        | (have := tm 0; simp only [List.length_cons, List.length_nil]; omega)
        | exact len_a (Nat.le_trans hql (by omega)) (Nat.le_trans (bl_ok _ (tm 0).2.2.1 (tm 0).2.2.2).2 (by omega))
        | exact len_a (len_b (Nat.le_trans hql (by omega)) (bl_ok _ (tm 0).2.2.1 (tm 0).2.2.2).2) (Nat.le_trans (text_le l _ (getD_mem' l m (by omega))) (by omega))
        | (have hm' : m < l.length := by omega
           have htm := tm 0
           refine ⟨⟨m + 1, q ++ [(sub some8 0 (1 + (Int.tmod 0 3 + 3).tmod 3), l.getD m tok0)], by omega, q_step hm' hq _, fun p hp => ?_, ?_, rfl, rfl⟩⟩
           · rcases List.mem_append.1 hp with h | h
             · exact hqb p h
             · rw [List.mem_singleton] at h
               subst h
               exact bl_ok _ htm.2.2.1 htm.2.2.2
           · rw [joinB_snoc]; rfl)
        | (simp; done)
        | exact len_a (Nat.le_trans hql (by omega)) (by decide)
        | (exact absurd hl2 (by assumption))
        | (exfalso; simp [flt0] at *; done)
    ·
      refine spec_of_swpF { ann := [(8, { slots := [7, 8] })] } Try.func5 (enters_of Try.func5 (by kernel_rfl) rfl) rfl ?_
      repeat' (
          (conv => whnf)
          first
            | exact closedB (by kernel_rfl)
            | refine And.intro ?_ ?_
            | (refine ⟨_, Tokens_bad s (by omega) he _, ?_⟩; rintro sv o' h' _ ⟨rfl, rfl, rfl⟩)
            | (refine ⟨_, awake_c _, ?_⟩; rintro sv o' h' _ ⟨rfl, rfl, rfl⟩)
            | intro _)
      all_goals (try simp only [Bool.and_eq_true, Bool.or_eq_true, Bool.not_eq_true', Bool.not_eq_false', decide_eq_true_eq, decide_eq_false_iff_not, beq_iff_eq, bne_iff_ne, bne_eq_false_iff_eq, beq_eq_false_iff_ne, Bool.false_eq_true, Bool.true_eq_false, ne_eq] at *)
      all_goals first
        | rfl
        | omega
        | (exfalso; omega)
  ·
    refine spec_of_swpF { ann := [(8, { slots := [7, 8] })] } Try.func5 (enters_of Try.func5 (by kernel_rfl) rfl) rfl ?_
    repeat' (
        (conv => whnf)
        first
          | exact closedB (by kernel_rfl)
          | refine And.intro ?_ ?_
          | (refine ⟨_, awake_c _, ?_⟩; rintro sv o' h' _ ⟨rfl, rfl, rfl⟩)
          | intro _)
    all_goals (try simp only [Bool.and_eq_true, Bool.or_eq_true, Bool.not_eq_true', Bool.not_eq_false', decide_eq_true_eq, decide_eq_false_iff_not, beq_iff_eq, bne_iff_ne, bne_eq_false_iff_eq, beq_eq_false_iff_ne, Bool.false_eq_true, Bool.true_eq_false, ne_eq] at *)
    all_goals first
      | rfl
      | omega
      | (exfalso; omega)
end Go.Proofs.Ytdpoebadaomfgaa
