/-
  The law's helpers: equal, awake.
-/
import Derived.Test.YtdpoebadaomfgaaKh
set_option linter.unusedSimpArgs false
set_option linter.unusedVariables false
namespace Go.Proofs.Ytdpoebadaomfgaa
open Go Go.Pw

theorem toksCells_part : ∀ (l : List Tok) (n : Nat), n < l.length → ((toksCells l).drop (n * 3)).take 3 = (l.getD n tok0).cells
  | [], n, h => by simp at h
  | x :: l, 0, _ => by simp [toksCells, Tok.cells]
  | x :: l, n + 1, h => by
    have := toksCells_part l n (by simpa using h)
    have e : (n + 1) * 3 = 3 + n * 3 := by omega
    simp only [toksCells, List.map_cons, List.flatten_cons] at *
    rw [e, ← List.drop_drop]
    simpa [Tok.cells] using this
theorem cells_rd (l : List Tok) (n : Nat) (h : n < l.length) : ORdN (toksCells l) (n * 3) 3 (l.getD n tok0).sv := by
  refine ⟨by rw [toksCells_length]; omega, fun e => ?_, rfl⟩
  rw [toksCells_part l n h]
  simp [Tok.sv, den, denL, Tok.cells]

def tokB (x y : Tok) : Bool := x.kind == y.kind && (x.text == y.text && (x.pos == y.pos && true))
theorem tokB_iff (x y : Tok) : tokB x y = true ↔ x = y := by
  obtain ⟨a, b, c⟩ := x
  obtain ⟨a', b', c'⟩ := y
  simp [tokB]

structure EqJ (la lb : List Tok) (h : Hp) (vs : List SV) (o : List (Option SObj)) (h' : Hp) : Prop where
  ex : ∃ n : Nat, n ≤ la.length ∧ (∀ i, i < n → la.getD i tok0 = lb.getD i tok0) ∧ vs = [.int .i64 n] ∧ o = [some (okToks la), some (okToks lb)] ∧ h' = h

theorem list_getD {la lb : List Tok} (hl : la.length = lb.length) (h : ∀ i, i < la.length → la.getD i tok0 = lb.getD i tok0) : la = lb := by
  refine List.ext_getElem hl (fun i h1 h2 => ?_)
  have := h i h1
  simpa [List.getD, h1, h2] using this

set_option maxRecDepth 10000 in
theorem equal_ll (la lb : List Tok) (hla : la.length ≤ 1000000) (h : Hp) :
    CSpec Try.prog 10 [.loc 0, .loc 1] [okToks la, okToks lb] h (fun sv o h' => sv = .bexp (decide (la = lb)) ∧ o = [some (okToks la), some (okToks lb)] ∧ h' = h) := by
  refine spec_of_swpF { ann := [(4, { slots := [5] })] } Try.func10 (enters_of Try.func10 (by kernel_rfl) rfl) rfl ?_
  repeat' (
      (conv => whnf)
      first
        | exact closedB (by kernel_rfl)
        | refine And.intro ?_ ?_
        | ((refine ⟨EqJ la lb _, fun vs _ _ => match vs with | [.int _ n] => la.length - n.toNat | _ => 0, ⟨rfl, 0, by omega, by simp, rfl, rfl, rfl⟩, ?_⟩; rintro vs o1 h1 _ ⟨n, hn, hno, rfl, rfl, rfl⟩))
        | ((refine ⟨(la.getD n tok0).sv, cells_rd la n (by simp at *; omega), ?_⟩))
        | ((refine ⟨(lb.getD n tok0).sv, cells_rd lb n (by simp at *; omega), ?_⟩))
        | intro _)
  all_goals (try simp only [Bool.and_eq_true, Bool.or_eq_true, Bool.not_eq_true', Bool.not_eq_false', decide_eq_true_eq, decide_eq_false_iff_not, beq_iff_eq, bne_iff_ne, bne_eq_false_iff_eq, beq_eq_false_iff_ne, Bool.false_eq_true, Bool.true_eq_false, ne_eq] at *)
  all_goals first
    | rfl
    | omega
    | (refine congrArg SV.bexp (Eq.symm (decide_eq_false ?_)); rintro rfl; contradiction)
    | (refine congrArg SV.bexp (Eq.symm (decide_eq_false ?_)); rintro rfl; simp at *; done)
    | (have hq := (tokB_iff (la.getD n tok0) (lb.getD n tok0)).1 (by simp only [tokB, Bool.and_eq_true, beq_iff_eq]; assumption)
       refine ⟨n + 1, by omega, fun i hi => ?_, by simp, rfl, rfl⟩
       by_cases h : i = n
       · subst h; exact hq
       · exact hno i (by omega))
    | (refine congrArg SV.bexp (Eq.symm (decide_eq_true ?_)); exact list_getD (by omega) (fun i hi => hno i (by omega)))

set_option maxRecDepth 10000 in
theorem equal_nn (h : Hp) : CSpec Try.prog 10 [.slc none 0 0, .slc none 0 0] [] h (fun sv o h' => sv = .bexp true ∧ o = [] ∧ h' = h) := by
  refine spec_of_swpF { ann := [(4, { slots := [5] })] } Try.func10 (enters_of Try.func10 (by kernel_rfl) rfl) rfl ?_
  repeat' (
      (conv => whnf)
      first
        | exact closedB (by kernel_rfl)
        | refine And.intro ?_ ?_
        | ((refine ⟨fun vs o h' => vs = [.int .i64 0] ∧ o = [] ∧ h' = h, fun vs _ _ => 0, ⟨rfl, rfl, rfl, rfl⟩, ?_⟩; rintro vs o1 h1 _ ⟨rfl, rfl, rfl⟩))
        | intro _)
  all_goals (try simp only [Bool.and_eq_true, Bool.or_eq_true, Bool.not_eq_true', Bool.not_eq_false', decide_eq_true_eq, decide_eq_false_iff_not, beq_iff_eq, bne_iff_ne, bne_eq_false_iff_eq, beq_eq_false_iff_ne, Bool.false_eq_true, Bool.true_eq_false, ne_eq] at *)
  all_goals first
    | rfl
    | omega
    | (exfalso; simp at *; done)

def awk : List UInt8 := [65, 59, 110, 111, 116, 32, 66, 32, 119, 105, 116, 104, 105, 110, 32, 49, 48]
def awkL : List Tok := [⟨2, [65], 0⟩, ⟨4, [59], 1⟩, ⟨1, [110, 111, 116], 2⟩, ⟨2, [66], 6⟩, ⟨1, [119, 105, 116, 104, 105, 110], 8⟩, ⟨3, [49, 48], 15⟩]
theorem awk_toks : toks awk = (awkL, flt0) := by kernel_rfl

set_option maxRecDepth 10000 in
theorem awake_c (h : Hp) : CSpec Try.prog 8 [] [] h (fun sv o h' => sv = .bexp true ∧ o = [] ∧ h' = h) := by
  have hT := fun h => Tokens_ok awk (by rw [awk_toks]; rfl) h
  simp only [awk_toks] at hT
  refine spec_of_swpF {} Try.func8 (enters_of Try.func8 (by kernel_rfl) rfl) rfl ?_
  repeat' (
      (conv => whnf)
      first
        | exact closedB (by kernel_rfl)
        | refine And.intro ?_ ?_
        | (refine ⟨_, hT _, ?_⟩; rintro sv o' h' _ ⟨rfl, rfl, rfl⟩)
        | (refine ⟨_, equal_ll awkL awkL (by simp [awkL]) _, ?_⟩; rintro sv o' h' _ ⟨rfl, rfl, rfl⟩)
        | intro _)
  all_goals (try simp only [Bool.and_eq_true, Bool.or_eq_true, Bool.not_eq_true', Bool.not_eq_false', decide_eq_true_eq, decide_eq_false_iff_not, beq_iff_eq, bne_iff_ne, bne_eq_false_iff_eq, beq_eq_false_iff_ne, Bool.false_eq_true, Bool.true_eq_false, ne_eq] at *)
  all_goals first
    | rfl
    | omega
    | (exfalso; simp [flt0] at *; done)
end Go.Proofs.Ytdpoebadaomfgaa
