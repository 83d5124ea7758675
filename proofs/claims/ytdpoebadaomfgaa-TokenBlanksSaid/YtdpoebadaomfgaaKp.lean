/-
  Tokens with more blanks between them, in plain Lean.
-/
import Derived.Test.YtdpoebadaomfgaaKm
set_option linter.unusedSimpArgs false
set_option linter.unusedVariables false
namespace Go.Pw
open Go Go.RowKit

def isBl (x : UInt8) : Bool := decide (cls x.toNat = 5)

section
variable {x : UInt8} (hx : cls x.toNat = 5)
include hx
theorem rlx_app {k : Int} (hk : k ≠ 5) (r : List UInt8) : ∀ l, rl k (l ++ x :: r) = rl k l
  | [] => by simp only [List.nil_append, rl, hx]; rw [if_neg (Ne.symm hk)]
  | c :: l => by simp only [List.cons_append, rl, rlx_app hk r l]
omit hx in
theorem isPrex_app (r : List UInt8) : ∀ (y l : List UInt8), x ∉ y → y.isPrefixOf (l ++ x :: r) = y.isPrefixOf l
  | [], l, _ => by simp
  | c :: y, [], h => by
    have hc : c ≠ x := fun hc => h (by simp [hc])
    simp [List.isPrefixOf, hc]
  | c :: y, d :: l, h => by
    have := isPrex_app r y l (fun hx => h (List.mem_cons_of_mem _ hx))
    simp only [List.cons_append, List.isPrefixOf, this]
omit hx in
theorem sgs_nobl : ∀ y ∈ sgs, ∀ c ∈ y, cls (c.toNat : Int) ≠ 5 := by decide
theorem sgLenx_app (l r : List UInt8) : sgLen (l ++ x :: r) = sgLen l := by
  have : ∀ q : List (List UInt8), (∀ y ∈ q, x ∉ y) → q.find? (fun y => y.isPrefixOf (l ++ x :: r)) = q.find? (fun y => y.isPrefixOf l) := by
    intro q
    induction q with
    | nil => intro _; rfl
    | cons y q ih =>
      intro h
      simp only [List.find?_cons, isPrex_app r y l (h y (by simp)), ih (fun z hz => h z (List.mem_cons_of_mem _ hz))]
  unfold sgLen
  rw [this sgs (fun y hy hxy => sgs_nobl y hy x hxy hx)]
theorem nNegx_app (l r : List UInt8) : nNeg (l ++ x :: r) = nNeg l := rlx_app hx (by decide) r l
theorem nDigx_app (l r : List UInt8) : nDig (l ++ x :: r) = nDig l := by
  have h := nNegx_app hx l r
  have h1 := rl_le 4 l
  show rl 3 ((l ++ x :: r).drop (nNeg (l ++ x :: r))) = rl 3 (l.drop (nNeg l))
  rw [h, List.drop_append_of_le_length h1]
  exact rlx_app hx (by decide) r _
theorem numBx_app (l r : List UInt8) : numB (l ++ x :: r) = numB l := by
  unfold numB
  rw [nNegx_app hx, nDigx_app hx]
  by_cases h : 0 < nDig l
  · have h1 : nNeg l < l.length := by
      have := rl_le 3 (l.drop (nNeg l))
      simp only [List.length_drop] at this
      have h' : 0 < rl 3 (l.drop (nNeg l)) := h
      omega
    have : gb (l ++ x :: r) (nNeg l : Nat) = gb l (nNeg l : Nat) := by
      simp only [gb, Int.toNat_natCast, List.getD_eq_getElem?_getD]
      rw [List.getElem?_append_left h1]
    rw [this]
  · have h0 : decide (0 < nDig l) = false := decide_eq_false h
    rw [h0]; simp
theorem begx_app (l r : List UInt8) (hl : l ≠ []) : beg (l ++ x :: r) = beg l := by
  cases l with
  | nil => exact absurd rfl hl
  | cons c l =>
    have h1 := rlx_app hx (k := 1) (by decide) r (c :: l)
    have h2 := numBx_app hx (c :: l) r
    have h3 := nNegx_app hx (c :: l) r
    have h4 := nDigx_app hx (c :: l) r
    have h5 := sgLenx_app hx (c :: l) r
    simp only [List.cons_append] at *
    simp only [beg, h1, h2, h3, h4, h5]
end

/-! ### A token's text is read as that token -/
theorem rl_take (k : Int) : ∀ (l : List UInt8) (n : Nat), rl k l ≤ n → rl k (l.take n) = rl k l
  | [], n, _ => by simp
  | c :: l, 0, h => by
    simp only [rl] at h ⊢
    split at h
    · omega
    · rename_i hc; rw [if_neg hc]; rfl
  | c :: l, n + 1, h => by
    simp only [List.take_succ_cons, rl] at h ⊢
    split
    · rename_i hc
      rw [if_pos hc] at h
      rw [rl_take k l n (by omega)]
    · rfl

theorem sgs_self : ∀ y ∈ sgs, sgLen y = y.length := by decide
theorem sgLen_self (l : List UInt8) (h : 0 < sgLen l) : sgLen (l.take (sgLen l)) = sgLen l := by
  have hd : sgLen l = match sgs.find? (fun x => x.isPrefixOf l) with | some x => x.length | none => 0 := rfl
  cases hf : sgs.find? (fun x => x.isPrefixOf l) with
  | none => rw [hd, hf] at h; simp at h
  | some y =>
    have hl : sgLen l = y.length := by rw [hd, hf]
    have hp : y <+: l := List.isPrefixOf_iff_prefix.1 (by have := List.find?_some hf; exact this)
    have hy : l.take y.length = y := (List.prefix_iff_eq_take.1 hp).symm
    rw [hl, hy]
    exact sgs_self y (List.mem_of_find?_eq_some hf)

theorem nNeg_take (l : List UInt8) (n : Nat) (h : nNeg l ≤ n) : nNeg (l.take n) = nNeg l := rl_take 4 l n h
theorem nDig_take (l : List UInt8) (n : Nat) (h : nNeg l + nDig l ≤ n) : nDig (l.take n) = nDig l := by
  show rl 3 ((l.take n).drop (nNeg (l.take n))) = rl 3 (l.drop (nNeg l))
  rw [nNeg_take l n (by omega), List.drop_take]
  exact rl_take 3 _ _ (by show nDig l ≤ _; omega)

theorem beg_self (l : List UInt8) (h : 0 < (beg l).2) : beg (l.take (beg l).2) = beg l := by
  cases l with
  | nil => simp [beg] at h
  | cons c l =>
    obtain ⟨m, hm⟩ : ∃ m, (beg (c :: l)).2 = m + 1 := ⟨(beg (c :: l)).2 - 1, by omega⟩
    by_cases c1 : cls c.toNat = 1
    · have hb : beg (c :: l) = (1, rl 1 (c :: l)) := by simp only [beg, if_pos c1]
      rw [hb] at hm ⊢
      simp only at hm ⊢
      have := rl_take 1 (c :: l) _ (Nat.le_refl _)
      rw [hm, List.take_succ_cons] at this ⊢
      simp only [beg, if_pos c1, this]
    · by_cases c2 : cls c.toNat = 2
      · have hb : beg (c :: l) = (2, 1) := by simp only [beg, if_neg c1, if_pos c2]
        rw [hb]
        simp only [List.take_succ_cons, List.take_zero, beg, if_neg c1, if_pos c2]
      · by_cases c3 : cls c.toNat = 3 ∨ cls c.toNat = 4
        · have hb : beg (c :: l) = if numB (c :: l) then (3, nNeg (c :: l) + nDig (c :: l)) else (0, 0) := by simp only [beg, if_neg c1, if_neg c2, if_pos c3]
          by_cases hn : numB (c :: l) = true
          · rw [if_pos hn] at hb
            rw [hb] at hm ⊢
            simp only at hm ⊢
            have e1 := nNeg_take (c :: l) (nNeg (c :: l) + nDig (c :: l)) (by omega)
            have e2 := nDig_take (c :: l) (nNeg (c :: l) + nDig (c :: l)) (by omega)
            have e3 : numB ((c :: l).take (nNeg (c :: l) + nDig (c :: l))) = true := by
              have hn' := hn
              unfold numB at hn ⊢
              rw [e1, e2]
              by_cases h0 : 0 < nDig (c :: l)
              · have : gb ((c :: l).take (nNeg (c :: l) + nDig (c :: l))) (nNeg (c :: l) : Nat) = gb (c :: l) (nNeg (c :: l) : Nat) := by
                  simp only [gb, Int.toNat_natCast, List.getD_eq_getElem?_getD]
                  rw [List.getElem?_take_of_lt (by omega)]
                rw [this]; exact hn
              · rw [decide_eq_false h0] at hn; simp at hn
            rw [hm, List.take_succ_cons] at e1 e2 e3 ⊢
            simp only [beg, if_neg c1, if_neg c2, if_pos c3, e1, e2, e3, if_true, hm]
          · rw [if_neg hn] at hb
            rw [hb] at hm; simp at hm
        · have hb : beg (c :: l) = if 0 < sgLen (c :: l) then (4, sgLen (c :: l)) else (0, 0) := by simp only [beg, if_neg c1, if_neg c2, if_neg c3]
          by_cases hn : 0 < sgLen (c :: l)
          · rw [if_pos hn] at hb
            rw [hb] at hm ⊢
            simp only at hm ⊢
            have e1 := sgLen_self (c :: l) hn
            rw [hm, List.take_succ_cons] at e1 ⊢
            simp only [beg, if_neg c1, if_neg c2, if_neg c3, e1]
            simp
          · rw [if_neg hn] at hb
            rw [hb] at hm; simp at hm

/-- Tokens as Next gives them: what is read is read again. -/
structure TokOk (t : Tok) : Prop where
  ne : t.text ≠ []
  bg : beg t.text = (t.kind, t.text.length)
  hd : ∀ r, rl 5 (t.text ++ r) = 0

theorem beg_hd (l : List UInt8) (h : 0 < (beg l).2) : rl 5 l = 0 := by
  cases l with
  | nil => rfl
  | cons c l =>
    simp only [rl]
    split
    · rename_i hc
      exfalso
      have hs : sgLen (c :: l) = 0 := by
        have : ∀ q : List (List UInt8), (∀ y ∈ q, y ≠ [] ∧ ∀ z ∈ y, cls (z.toNat : Int) ≠ 5) → q.find? (fun y => y.isPrefixOf (c :: l)) = none := by
          intro q hq
          rw [List.find?_eq_none]
          intro y hy hp
          obtain ⟨h1, h2⟩ := hq y hy
          cases y with
          | nil => exact h1 rfl
          | cons z y =>
            simp only [List.isPrefixOf, Bool.and_eq_true, beq_iff_eq] at hp
            exact h2 z (by simp) (by rw [hp.1]; exact hc)
        unfold sgLen
        rw [this sgs (fun y hy => ⟨by revert y; decide, sgs_nobl y hy⟩)]
      simp [beg, hc, hs] at h
    · rfl

theorem tokOk_nxt (s : List UInt8) (i : Int) (h : (nxt s i).2.2.err = 0) : TokOk (nxt s i).1 := by
  revert h
  unfold nxt
  split
  · intro h; simp at h
  · simp only
    split
    · intro h; simp at h
    · split
      · intro h; simp at h
      · rename_i h0 h1 h2
        intro _
        generalize s.drop (i.toNat + rl 5 (s.drop i.toNat)) = l at *
        have hle := beg_le l
        have hself := beg_self l (by omega)
        have hlen : (l.take (beg l).2).length = (beg l).2 := by simp; omega
        refine ⟨?_, ?_, ?_⟩
        · intro hc
          have := congrArg List.length hc
          rw [hlen] at this; exact h2 (by simpa using this)
        · show beg (l.take (beg l).2) = ((beg l).1, (l.take (beg l).2).length)
          rw [hself, hlen]
        · intro r
          have hh := beg_hd (l.take (beg l).2) (by rw [hself]; omega)
          show rl 5 (l.take (beg l).2 ++ r) = 0
          cases hl : l.take (beg l).2 with
          | nil => rw [hl] at hlen; simp at hlen; omega
          | cons c q =>
            rw [hl] at hh
            simp only [rl] at hh
            simp only [List.cons_append, rl]
            split at hh
            · omega
            · rename_i hc; rw [if_neg hc]

theorem toksF_ok (s : List UInt8) : ∀ (n : Nat) (i : Int), ∀ t ∈ (toksF s n i).1, TokOk t
  | 0, i, t, h => by simp [toksF] at h
  | n + 1, i, t, h => by
    simp only [toksF] at h
    split at h
    · rename_i he
      rcases List.mem_cons.1 h with rfl | h
      · exact tokOk_nxt s i he
      · exact toksF_ok s n _ t h
    · simp at h

/-- How long the texts are together. -/
def txtLen (l : List Tok) : Nat := (l.map (fun t => t.text.length)).sum
theorem toksF_txt (s : List UInt8) : ∀ (n : Nat) (i : Int), 0 ≤ i → i ≤ s.length → txtLen (toksF s n i).1 + i.toNat ≤ s.length
  | 0, i, h0, h1 => by simp [toksF, txtLen]; omega
  | n + 1, i, h0, h1 => by
    simp only [toksF]
    split
    · rename_i he
      have hn := nxt_next he
      have ih := toksF_txt s n _ (by omega) hn.2.2
      have hl : i.toNat + (nxt s i).1.text.length ≤ (nxt s i).2.1.toNat := by
        revert he
        unfold nxt
        split
        · intro h; simp at h
        · simp only
          split
          · intro h; simp at h
          · split
            · intro h; simp at h
            · intro _; simp only [List.length_take]; omega
      simp only [txtLen, List.map_cons, List.sum_cons] at ih ⊢
      omega
    · simp [txtLen]; omega
theorem txtLen_count (l : List Tok) (h : ∀ t ∈ l, TokOk t) : l.length ≤ txtLen l := by
  induction l with
  | nil => simp
  | cons t l ih =>
    have h1 := (h t (by simp)).ne
    have h2 : 0 < t.text.length := List.length_pos_iff.2 h1
    have := ih (fun t ht => h t (List.mem_cons_of_mem _ ht))
    simp only [txtLen, List.map_cons, List.sum_cons, List.length_cons] at *; omega

theorem rl5_bl : ∀ (bl r : List UInt8), (∀ c ∈ bl, cls (c.toNat : Int) = 5) → rl 5 (bl ++ r) = bl.length + rl 5 r
  | [], r, _ => by simp
  | c :: bl, r, h => by
    simp only [List.cons_append, rl, if_pos (h c (by simp)), rl5_bl bl r (fun z hz => h z (List.mem_cons_of_mem _ hz)), List.length_cons]; omega

/-- The texts of tokens, with blanks ahead of each. -/
def joinB : List (List UInt8 × Tok) → List UInt8
  | [] => []
  | (b, t) :: l => b ++ t.text ++ joinB l
structure BlOk (b : List UInt8) : Prop where
  ne : b ≠ []
  bl : ∀ c ∈ b, cls (c.toNat : Int) = 5

theorem join_hd (l : List (List UInt8 × Tok)) (tail : List UInt8) (hl : ∀ p ∈ l, BlOk p.1) (ht : BlOk tail) : ∃ x r, joinB l ++ tail = x :: r ∧ cls (x.toNat : Int) = 5 := by
  cases l with
  | nil =>
    cases tail with
    | nil => exact absurd rfl ht.ne
    | cons x r => exact ⟨x, r, rfl, ht.bl x (by simp)⟩
  | cons p l =>
    obtain ⟨b, t⟩ := p
    have hb := hl (b, t) (by simp)
    cases b with
    | nil => exact absurd rfl hb.ne
    | cons x r => exact ⟨x, r ++ t.text ++ joinB l ++ tail, by simp [joinB], hb.bl x (by simp)⟩

theorem toksAt_join (tail : List UInt8) (ht : BlOk tail) : ∀ (l : List (List UInt8 × Tok)) (pre : List UInt8), (∀ p ∈ l, BlOk p.1 ∧ TokOk p.2) →
    (toksAt (pre ++ (joinB l ++ tail)) pre.length).2.err = 5 ∧ (toksAt (pre ++ (joinB l ++ tail)) pre.length).1.map (fun t => (t.kind, t.text)) = l.map (fun p => (p.2.kind, p.2.text))
  | [], pre, _ => by
    have hr : rl 5 ((pre ++ (joinB [] ++ tail)).drop pre.length) = tail.length := by
      rw [List.drop_left]
      have := rl5_bl tail [] ht.bl
      simpa [joinB, rl] using this
    have hn : nxt (pre ++ (joinB [] ++ tail)) pre.length = Prod.mk tok0 (Prod.mk (0 : Int) (Flt.mk 5 (pre.length + tail.length : Nat))) := by
      rw [nxt_end _ pre.length (pre.length + tail.length) (by simp) (by rw [hr]), if_pos (by simp [joinB])]
    rw [toksAt_step (by omega) (by simp; omega), hn]
    simp
  | (b, t) :: l, pre, h => by
    obtain ⟨hb, hk⟩ := h (b, t) (by simp)
    obtain ⟨x, r, hxr, hx⟩ := join_hd l tail (fun p hp => (h p (List.mem_cons_of_mem _ hp)).1) ht
    have hs : pre ++ (joinB ((b, t) :: l) ++ tail) = (pre ++ b ++ t.text) ++ (joinB l ++ tail) := by simp [joinB]
    have ih := toksAt_join tail ht l (pre ++ b ++ t.text) (fun p hp => h p (List.mem_cons_of_mem _ hp))
    rw [hs]
    generalize hful : (pre ++ b ++ t.text) ++ (joinB l ++ tail) = full at *
    have hd1 : full.drop pre.length = b ++ (t.text ++ (joinB l ++ tail)) := by
      rw [← hful]; simp
    have hd2 : full.drop (pre.length + b.length) = t.text ++ (joinB l ++ tail) := by
      rw [← List.drop_drop, hd1, List.drop_left]
    have hr : rl 5 (full.drop pre.length) = b.length := by
      rw [hd1, rl5_bl b _ hb.bl, hk.hd]; rfl
    have hlen : full.length = pre.length + b.length + t.text.length + (joinB l ++ tail).length := by rw [← hful]; simp only [List.length_append]
    have hpos : 0 < t.text.length := List.length_pos_iff.2 hk.ne
    have hbeg : beg (full.drop (pre.length + b.length)) = (t.kind, t.text.length) := by
      rw [hd2, hxr, begx_app hx _ _ hk.ne, hk.bg]
    have hn : nxt full pre.length = Prod.mk (Tok.mk t.kind t.text (pre.length + b.length : Nat)) (Prod.mk (((pre ++ b ++ t.text).length : Nat) : Int) flt0) := by
      rw [nxt_end full pre.length (pre.length + b.length) (by omega) (by rw [hr]), if_neg (by omega), if_neg (by rw [hbeg]; simp only; omega), hbeg, hd2]
      simp [flt0]; omega
    rw [toksAt_step (by omega) (by omega), hn]
    simp only [flt0, if_true, List.map_cons]
    exact ⟨ih.1, by rw [ih.2]⟩

theorem toks_join (tail : List UInt8) (ht : BlOk tail) (l : List (List UInt8 × Tok)) (h : ∀ p ∈ l, BlOk p.1 ∧ TokOk p.2) (hl : (joinB l ++ tail).length ≤ 400) :
    (toks (joinB l ++ tail)).2 = flt0 ∧ (toks (joinB l ++ tail)).1.map (fun t => (t.kind, t.text)) = l.map (fun p => (p.2.kind, p.2.text)) := by
  have := toksAt_join tail ht l [] h
  simp only [List.nil_append, List.length_nil, Int.natCast_zero] at this
  rw [toks_of hl, if_pos this.1]
  exact ⟨rfl, this.2⟩
theorem joinB_len : ∀ (l : List (List UInt8 × Tok)), (∀ p ∈ l, p.1.length ≤ 3) → (joinB l).length ≤ 3 * l.length + txtLen (l.map (·.2))
  | [], _ => by simp [joinB]
  | (b, t) :: l, h => by
    have h1 := h (b, t) (by simp)
    have := joinB_len l (fun p hp => h p (List.mem_cons_of_mem _ hp))
    simp only [joinB, txtLen, List.length_append, List.map_cons, List.sum_cons, List.length_cons] at *; omega
end Go.Pw
