/-
  The program's tokens: contracts of tokens and Tokens.
-/
import Derived.Test.YtdpoebadaomfgaaKc
set_option linter.unusedSimpArgs false
set_option linter.unusedVariables false
namespace Go.Proofs.Ytdpoebadaomfgaa
open Go Go.Pw

def tfEnc (x : Tok × Flt) : List SV := [x.1.sv, x.2.sv]
def tfAll (s : List UInt8) : List (List SV) := ((toksAt s 0).1.map fun t => tfEnc (t, flt0)) ++ [tfEnc (tok0, (toksAt s 0).2)]

def tksJ (s : List UInt8) (h : Hp) : SK := fun vs o h' => ∃ (n : Nat) (l : List Tok), n ≤ s.length ∧ l.length ≤ n ∧ toksAt s 0 = (l ++ (toksAt s n).1, (toksAt s n).2) ∧ vs = [.int .i64 n] ∧
  o = [some (.cells 9 [.str s]), some (.ghost false (l.map fun t => tfEnc (t, flt0)))] ∧ h' = h

theorem nxt_err0 {s : List UInt8} {i : Int} (h : (nxt s i).2.2.err = 0) : (nxt s i).2.2 = flt0 := by
  revert h; unfold nxt; split
  · intro h; simp at h
  · simp only; split
    · intro h; simp at h
    · split
      · intro h; simp at h
      · intro _; rfl
theorem nxt_tok0 {s : List UInt8} {i : Int} (h : (nxt s i).2.2.err ≠ 0) : (nxt s i).1 = tok0 := by
  revert h; unfold nxt; split
  · intro _; rfl
  · simp only; split
    · intro _; rfl
    · split
      · intro _; rfl
      · intro h; simp [flt0] at h

theorem tfAll_step {s : List UInt8} {n : Nat} {l : List Tok} (hn : n ≤ s.length) (hall : toksAt s 0 = (l ++ (toksAt s n).1, (toksAt s n).2)) :
    (l.map fun t => tfEnc (t, flt0)) ++ [tfEnc ((nxt s n).1, (nxt s n).2.2)] <+: tfAll s := by
  have hst := toksAt_step (s := s) (i := n) (by omega) (by omega)
  by_cases h : (nxt s n).2.2.err = 0
  · rw [if_pos h] at hst
    refine ⟨((toksAt s (nxt s n).2.1).1.map fun t => tfEnc (t, flt0)) ++ [tfEnc (tok0, (toksAt s (nxt s n).2.1).2)], ?_⟩
    simp only [tfAll, hall, hst, nxt_err0 h, List.map_append, List.map_cons, List.append_assoc, List.cons_append, List.nil_append]
  · rw [if_neg h] at hst
    refine ⟨[], ?_⟩
    simp only [tfAll, hall, hst, List.append_nil, nxt_tok0 h]

set_option maxRecDepth 10000 in
theorem tokens1_i (s : List UInt8) (hs : s.length ≤ 1000000) (h : Hp) :
    ISpec Try.prog 53 tfEnc (s.length + 2) [.ptr 0 0] [.cells 9 [.str s]] h (fun xs => xs = tfAll s) (fun xs => xs <+: tfAll s) := by
  refine ispec_of_swpI { ann := [(1, { slots := [3] })] } Try.func53 (enters_of Try.func53 (by kernel_rfl) rfl) rfl ?_
  conv => whnf
  intro yl
  conv => whnf
  refine ⟨tksJ s h, fun vs _ _ => match vs with | [.int _ n] => s.length - n.toNat | _ => 0, ⟨rfl, 0, [], by omega, by simp, by simp, rfl, rfl, rfl⟩, ?_⟩
  rintro vs o1 h1 _ ⟨n, l, hn, hl, hall, rfl, rfl, rfl⟩
  have hst := toksAt_step (s := s) (i := n) (by omega) (by omega)
  have hnx := nxt_next (s := s) (i := n)
  repeat' (
      (conv => whnf)
      first
        | exact closedB (by kernel_rfl)
        | refine And.intro ?_ ?_
        | (refine ⟨_, next_c s _ hs _, ?_⟩; rintro sv o' h' _ ⟨rfl, rfl, rfl⟩)
        | intro _)
  all_goals first
    | rfl
    | exact ⟨((nxt s n).1, (nxt s n).2.2), rfl⟩
    | exact tfAll_step hn hall
    | (simp only [List.length_map]; show _ < s.length + 2; omega)
    | (rename_i h1 _
       have h1 : (nxt s n).2.2.err ≠ 0 := by simpa using h1
       rw [if_neg h1] at hst
       simp only [tfAll, hall, hst, List.append_nil]
       rw [← nxt_tok0 h1]; rfl)
    | (rename_i h1
       have h1 : (nxt s n).2.2.err = 0 := by simpa using h1
       have h2 := hnx h1
       rw [if_pos h1] at hst
       have h3 : (((nxt s n).2.1.toNat : Nat) : Int) = (nxt s n).2.1 := by omega
       refine ⟨(nxt s n).2.1.toNat, l ++ [(nxt s n).1], by omega, by simp; omega, ?_, by rw [h3], ?_, rfl⟩
       · rw [hall, hst, h3]; simp
       · rw [List.map_append, ← nxt_err0 h1]; rfl)
    | (rename_i h1
       have h1 : (nxt s n).2.2.err = 0 := by simpa using h1
       have h2 := hnx h1
       show s.length - (nxt s n).2.1.toNat < s.length - (n : Int).toNat
       omega)
    | contradiction

set_option maxRecDepth 10000 in
theorem tokens_c (s : List UInt8) (h : Hp) :
    CSpec Try.prog 36 [.str s] [] h (fun sv o h' => sv = .func (.func 53) [] [.ptr 0 0] ∧ o = [some (.cells 9 [.str s])] ∧ h' = h) := by
  refine spec_of_swpF {} Try.func36 (enters_of Try.func36 (by kernel_rfl) rfl) rfl ?_
  repeat' (
      (conv => whnf)
      first
        | exact closedB (by kernel_rfl)
        | refine And.intro ?_ ?_
        | intro _)
  all_goals rfl

def okToks (l : List Tok) : SObj := .olist 30 3 l.length (toksCells l)

theorem nxt_err (s : List UInt8) (i : Int) : (nxt s i).2.2.err = 0 ∨ (nxt s i).2.2.err = 2 ∨ (nxt s i).2.2.err = 5 ∨ (nxt s i).2.2.err = 3 := by
  unfold nxt; split
  · simp
  · simp only; split
    · simp
    · split <;> simp [flt0]
theorem toksF_err (s : List UInt8) : ∀ (n : Nat) (i : Int), (toksF s n i).2.err = 0 ∨ (toksF s n i).2.err = 2 ∨ (toksF s n i).2.err = 5 ∨ (toksF s n i).2.err = 3
  | 0, i => by simp [toksF, flt0]
  | n + 1, i => by
    simp only [toksF]; split
    · exact toksF_err s n _
    · exact nxt_err s i
theorem toksAt_nz (s : List UInt8) : (toksAt s 0).2.err ≠ 0 := toksF_nz s _ 0 (by omega) (by omega) (by omega)

theorem toksF_len (s : List UInt8) : ∀ (n : Nat) (i : Int), (toksF s n i).1.length ≤ n
  | 0, i => by simp [toksF]
  | n + 1, i => by
    simp only [toksF]; split
    · have := toksF_len s n (nxt s i).2.1; simp; omega
    · simp
theorem toks_len (s : List UInt8) : (toks s).1.length ≤ 1000000 := by
  unfold toks
  split
  · simp
  · split
    · have := toksF_len s (s.length + 1 - (0 : Int).toNat) 0
      simp only [toksAt]; omega
    · simp

/-- What the rounds that go on have collected. -/
structure TksJ (s : List UInt8) (h : Hp) (pre : List (List SV)) (o : List (Option SObj)) (h' : Hp) : Prop where
  ex : ∃ l : List (Tok × Flt), pre = l.map tfEnc ∧ (∀ y ∈ l, y.2.err = 0) ∧ l.length ≤ s.length + 2 ∧
    o = [some (.cells 23 [.slc none 0 0]), some (.cells 26 [.int .i64 0, .int .i64 0]), some (.cells 23 [.loc 4]), none,
      some (.olist 30 3 l.length (toksCells (l.map (·.1))))] ∧ h' = h

theorem tf_inj {x y : Tok × Flt} (h : tfEnc x = tfEnc y) : x = y := by
  obtain ⟨⟨a, b, c⟩, ⟨d, f⟩⟩ := x
  obtain ⟨⟨a', b', c'⟩, ⟨d', f'⟩⟩ := y
  simpa [tfEnc, Tok.sv, Flt.sv, and_assoc] using h

/-- If the rounds have seen the fault, they have seen all. -/
theorem tf_pre {s : List UInt8} {l : List (Tok × Flt)} {x : Tok × Flt} (hl : ∀ y ∈ l, y.2.err = 0) (hx : x.2.err ≠ 0) (hp : l.map tfEnc ++ [tfEnc x] <+: tfAll s) : l.map (·.1) = (toksAt s 0).1 ∧ x.2 = (toksAt s 0).2 := by
  have hall : tfAll s = (((toksAt s 0).1.map fun t => (t, flt0)) ++ [(tok0, (toksAt s 0).2)]).map tfEnc := by simp [tfAll]
  have h1 : l.map tfEnc ++ [tfEnc x] = (l ++ [x]).map tfEnc := by simp
  rw [hall, h1] at hp
  obtain ⟨r, hr⟩ := hp
  have hlen := congrArg List.length hr
  simp only [List.length_append, List.length_map, List.length_cons, List.length_nil] at hlen
  have key : ∀ (i : Nat) (hi : i < l.length + 1), (l ++ [x])[i]'(by simp; omega) = (((toksAt s 0).1.map fun t => (t, flt0)) ++ [(tok0, (toksAt s 0).2)])[i]'(by simp; omega) := fun i hi => by
    have := congrArg (fun q : List (List SV) => q[i]?) hr
    rw [List.getElem?_append_left (by simp; omega), List.getElem?_map, List.getElem?_map, List.getElem?_eq_getElem (by simp; omega), List.getElem?_eq_getElem (by simp; omega)] at this
    exact tf_inj (by simpa using this)
  have hll : l.length = (toksAt s 0).1.length := by
    rcases Nat.lt_or_ge l.length (toksAt s 0).1.length with h | h
    · have := key l.length (by omega)
      rw [List.getElem_append_right (by omega), List.getElem_append_left (by simp; omega)] at this
      simp at this
      rw [this] at hx
      simp [flt0] at hx
    · omega
  refine ⟨List.ext_getElem (by simp [hll]) (fun i h1 h2 => ?_), ?_⟩
  · have := key i (by simp at h1; omega)
    rw [List.getElem_append_left (by simpa using h1), List.getElem_append_left (by simpa using h2)] at this
    simp at this
    simp [this]
  · have := key l.length (by omega)
    rw [List.getElem_append_right (by omega), List.getElem_append_right (by simp; omega)] at this
    simp at this
    rw [this]

set_option maxRecDepth 10000 in
theorem Tokens_ok (s : List UInt8) (he : (toks s).2.err = 0) (h : Hp) :
    CSpec Try.prog 9 [.str s] [] h (fun sv o h' => sv = .tuple [.loc 0, flt0.sv] ∧ o = [some (okToks (toks s).1)] ∧ h' = h) := by
  have hlen : s.length ≤ 400 := by
    unfold toks at he; split at he
    · simp at he
    · omega
  have h5 : (toksAt s 0).2.err = 5 := by
    unfold toks at he; rw [if_neg (by omega)] at he; split at he
    · assumption
    · exact absurd he (toksAt_nz s)
  refine spec_of_swpF { ann := [(5, { slots := [], lists := [(.cell 2 0, 30, 3)] })], pull := [(8, [0, 1])] } Try.func9 (enters_of Try.func9 (by kernel_rfl) rfl) rfl ?_
  repeat' (
      (conv => whnf)
      first
        | exact closedB (by kernel_rfl)
        | refine And.intro ?_ ?_
        | (refine ⟨_, tokens_c _ _, ?_⟩; rintro sv o' h' _ ⟨rfl, rfl, rfl⟩)
        | intro _)
  all_goals try (first | rfl | omega | (exfalso; simp at *; omega))
  conv => whnf
  refine ⟨_, _, _, _, _, tokens1_i s (by omega) _, TksJ s _, ⟨rfl, [], rfl, by simp, by simp, rfl, rfl⟩, ?_, ?_⟩
  · rintro pre x o2 h1 _ hN hsp ⟨l, rfl, hl0, hll, rfl, rfl⟩
    rw [List.length_map] at hN
    repeat' (
        (conv => whnf)
        first
          | exact closedB (by kernel_rfl)
          | refine And.intro ?_ ?_
          | intro _)
    all_goals (try simp only [Bool.and_eq_true, Bool.or_eq_true, Bool.not_eq_true', Bool.not_eq_false', decide_eq_true_eq, decide_eq_false_iff_not, beq_iff_eq, bne_iff_ne, bne_eq_false_iff_eq, beq_eq_false_iff_ne, Bool.false_eq_true, Bool.true_eq_false, ne_eq] at *)
    all_goals first
      | rfl
      | (simp only [maxLen]; omega)
      | (show (l.length + 1) * 32 ≤ _; omega)
      | (refine ⟨l ++ [x], by simp, ?_, by simp; omega, by simp [toksCells, Tok.cells]; rfl, rfl⟩
         intro y hy
         rcases List.mem_append.1 hy with hy | hy
         · exact hl0 y hy
         · simp at hy; subst hy; assumption)
      | (have h6 := tf_pre hl0 (by assumption) hsp
         rw [← h6.2] at h5; contradiction)
      | (have h6 := tf_pre hl0 (by assumption) hsp
         have h7 : toks s = ((toksAt s 0).1, flt0) := by unfold toks; rw [if_neg (by omega), if_pos h5]
         rw [h7, ← h6.1]; simp [okToks])
  · rintro xs o2 h1 _ hS ⟨l, rfl, hl0, hll, rfl, rfl⟩
    exfalso
    have h1 : tfEnc (tok0, (toksAt s 0).2) ∈ l.map tfEnc := by rw [hS]; simp [tfAll]
    obtain ⟨y, hy, hye⟩ := List.mem_map.1 h1
    have h2 := hl0 y hy
    rw [tf_inj hye] at h2
    exact toksAt_nz s h2

set_option maxRecDepth 10000 in
theorem Tokens_bad (s : List UInt8) (hs : s.length ≤ 1000000) (he : (toks s).2.err ≠ 0) (h : Hp) :
    CSpec Try.prog 9 [.str s] [] h (fun sv o h' => sv = .tuple [.slc none 0 0, (toks s).2.sv] ∧ o = [] ∧ h' = h) := by
  by_cases hlen : 400 < s.length
  · have h7 : toks s = ([], ⟨4, 400⟩) := by unfold toks; rw [if_pos hlen]
    rw [h7]
    refine spec_of_swpF { ann := [(5, { slots := [], lists := [(.cell 2 0, 30, 3)] })], pull := [(8, [0, 1])] } Try.func9 (enters_of Try.func9 (by kernel_rfl) rfl) rfl ?_
    repeat' (
        (conv => whnf)
        first
          | exact closedB (by kernel_rfl)
          | refine And.intro ?_ ?_
          | intro _)
    all_goals try (first | rfl | omega | (exfalso; simp at *; omega))
  · have h5 : (toksAt s 0).2.err ≠ 5 := by
      intro h5
      unfold toks at he; rw [if_neg (by omega), if_pos h5] at he
      exact he rfl
    have h7 : toks s = ([], (toksAt s 0).2) := by unfold toks; rw [if_neg (by omega), if_neg h5]
    rw [h7]
    refine spec_of_swpF { ann := [(5, { slots := [], lists := [(.cell 2 0, 30, 3)] })], pull := [(8, [0, 1])] } Try.func9 (enters_of Try.func9 (by kernel_rfl) rfl) rfl ?_
    repeat' (
        (conv => whnf)
        first
          | exact closedB (by kernel_rfl)
          | refine And.intro ?_ ?_
          | (refine ⟨_, tokens_c _ _, ?_⟩; rintro sv o' h' _ ⟨rfl, rfl, rfl⟩)
          | intro _)
    all_goals try (first | rfl | omega | (exfalso; simp at *; omega))
    conv => whnf
    refine ⟨_, _, _, _, _, tokens1_i s (by omega) _, TksJ s _, ⟨rfl, [], rfl, by simp, by simp, rfl, rfl⟩, ?_, ?_⟩
    · rintro pre x o2 h1 _ hN hsp ⟨l, rfl, hl0, hll, rfl, rfl⟩
      rw [List.length_map] at hN
      repeat' (
          (conv => whnf)
          first
            | exact closedB (by kernel_rfl)
            | refine And.intro ?_ ?_
            | intro _)
      all_goals (try simp only [Bool.and_eq_true, Bool.or_eq_true, Bool.not_eq_true', Bool.not_eq_false', decide_eq_true_eq, decide_eq_false_iff_not, beq_iff_eq, bne_iff_ne, bne_eq_false_iff_eq, beq_eq_false_iff_ne, Bool.false_eq_true, Bool.true_eq_false, ne_eq] at *)
      all_goals first
        | rfl
        | (simp only [maxLen]; omega)
        | (show (l.length + 1) * 32 ≤ _; omega)
        | (refine ⟨l ++ [x], by simp, ?_, by simp; omega, by simp [toksCells, Tok.cells]; rfl, rfl⟩
           intro y hy
           rcases List.mem_append.1 hy with hy | hy
           · exact hl0 y hy
           · simp at hy; subst hy; assumption)
        | (have h6 := tf_pre hl0 (by assumption) hsp
           rw [← h6.2] at h5; contradiction)
        | (have h6 := tf_pre hl0 (by assumption) hsp
           rw [← h6.2]; rfl)
    · rintro xs o2 h1 _ hS ⟨l, rfl, hl0, hll, rfl, rfl⟩
      exfalso
      have h1 : tfEnc (tok0, (toksAt s 0).2) ∈ l.map tfEnc := by rw [hS]; simp [tfAll]
      obtain ⟨y, hy, hye⟩ := List.mem_map.1 h1
      have h2 := hl0 y hy
      rw [tf_inj hye] at h2
      exact toksAt_nz s h2
end Go.Proofs.Ytdpoebadaomfgaa
