/-
  token.Same: whether two lists of tokens have the same kinds and texts.
-/
import Derived.Test.YtdpoebadaomfgaaKi
import Derived.Test.YtdpoebadaomfgaaKp
set_option linter.unusedSimpArgs false
set_option linter.unusedVariables false
namespace Go.Proofs.Ytdpoebadaomfgaa
open Go Go.Pw

def kt (t : Tok) : Int × List UInt8 := (t.kind, t.text)
set_option maxRecDepth 10000 in
theorem same1_c (x y : Tok) (h : Hp) : CSpec Try.prog 43 [x.sv, y.sv] [] h (fun sv o h' => sv = .bexp (decide (kt x = kt y)) ∧ o = [] ∧ h' = h) := by
  refine spec_of_swpF {} Try.func43 (enters_of Try.func43 (by kernel_rfl) rfl) rfl ?_
  repeat' (
      (conv => whnf)
      first
        | exact closedB (by kernel_rfl)
        | refine And.intro ?_ ?_
        | intro _)
  all_goals (try simp only [Bool.and_eq_true, Bool.or_eq_true, Bool.not_eq_true', Bool.not_eq_false', decide_eq_true_eq, decide_eq_false_iff_not, beq_iff_eq, bne_iff_ne, bne_eq_false_iff_eq, beq_eq_false_iff_ne, Bool.false_eq_true, Bool.true_eq_false, ne_eq] at *)
  all_goals (refine congrArg SV.bexp ?_; rw [Bool.eq_iff_iff]; simp_all [kt])

structure SameJ (la lb : List Tok) (h : Hp) (vs : List SV) (o : List (Option SObj)) (h' : Hp) : Prop where
  ex : ∃ n : Nat, n ≤ la.length ∧ (∀ i, i < n → kt (la.getD i tok0) = kt (lb.getD i tok0)) ∧ vs = [.int .i64 n] ∧ o = [some (okToks la), some (okToks lb)] ∧ h' = h

theorem list_getD_kt {la lb : List Tok} (hl : la.length = lb.length) (h : ∀ i, i < la.length → kt (la.getD i tok0) = kt (lb.getD i tok0)) : la.map kt = lb.map kt := by
  refine List.ext_getElem (by simpa using hl) (fun i h1 h2 => ?_)
  simp only [List.length_map] at h1 h2
  have := h i h1
  simpa [List.getD, h1, h2] using this
theorem kt_of_map {la lb : List Tok} (he : la.map kt = lb.map kt) (n : Nat) : kt (la.getD n tok0) = kt (lb.getD n tok0) := by
  have := congrArg (fun l => l[n]?) he
  simp only [List.getElem?_map] at this
  simp only [List.getD_eq_getElem?_getD]
  cases h1 : la[n]? <;> cases h2 : lb[n]? <;> simp_all

set_option maxRecDepth 10000 in
theorem eqf_c (la lb : List Tok) (hla : la.length ≤ 1000000) (h : Hp) :
    CSpec Try.prog 42 [.loc 0, .loc 1, .func (.func 43) [] []] [okToks la, okToks lb] h
      (fun sv o h' => sv = .bexp (decide (la.map kt = lb.map kt)) ∧ o = [some (okToks la), some (okToks lb)] ∧ h' = h) := by
  refine spec_of_swpF { ann := [(4, { slots := [17] })] } Try.func42 (enters_of Try.func42 (by kernel_rfl) rfl) rfl ?_
  repeat' (
      (conv => whnf)
      first
        | exact closedB (by kernel_rfl)
        | refine And.intro ?_ ?_
        | (refine ⟨_, same1_c _ _ _, ?_⟩; rintro sv o' h' _ ⟨rfl, rfl, rfl⟩)
        | ((refine ⟨SameJ la lb _, fun vs _ _ => match vs with | [.int _ n] => la.length - n.toNat | _ => 0, ⟨rfl, 0, by omega, by simp, rfl, rfl, rfl⟩, ?_⟩; rintro vs o1 h1 _ ⟨n, hn, hno, rfl, rfl, rfl⟩))
        | ((refine ⟨(la.getD n tok0).sv, cells_rd la n (by (try simp only [Bool.and_eq_true, Bool.or_eq_true, Bool.not_eq_true', Bool.not_eq_false', decide_eq_true_eq, decide_eq_false_iff_not, beq_iff_eq, bne_iff_ne, bne_eq_false_iff_eq, beq_eq_false_iff_ne, Bool.false_eq_true, Bool.true_eq_false, ne_eq] at *); omega), ?_⟩))
        | ((refine ⟨(lb.getD n tok0).sv, cells_rd lb n (by (try simp only [Bool.and_eq_true, Bool.or_eq_true, Bool.not_eq_true', Bool.not_eq_false', decide_eq_true_eq, decide_eq_false_iff_not, beq_iff_eq, bne_iff_ne, bne_eq_false_iff_eq, beq_eq_false_iff_ne, Bool.false_eq_true, Bool.true_eq_false, ne_eq] at *); omega), ?_⟩))
        | intro _)
  all_goals (try simp only [Bool.and_eq_true, Bool.or_eq_true, Bool.not_eq_true', Bool.not_eq_false', decide_eq_true_eq, decide_eq_false_iff_not, beq_iff_eq, bne_iff_ne, bne_eq_false_iff_eq, beq_eq_false_iff_ne, Bool.false_eq_true, Bool.true_eq_false, ne_eq] at *)
  all_goals first
    | rfl
    | omega
    | (refine congrArg SV.bexp (Eq.symm (decide_eq_false ?_)); intro he; exact absurd (by simpa using congrArg List.length he) (by assumption))
    | (refine congrArg SV.bexp (Eq.symm (decide_eq_false ?_)); intro he; have := congrArg List.length he; simp at this; omega)
    | (refine congrArg SV.bexp (Eq.symm (decide_eq_false ?_)); intro he; exact absurd (kt_of_map he n) (by assumption))
    | (refine ⟨⟨n + 1, by omega, fun i hi => ?_, rfl, rfl, rfl⟩⟩
       by_cases h : i = n
       · subst h; assumption
       · exact hno i (by omega))
    | (refine congrArg SV.bexp (Eq.symm (decide_eq_true ?_)); exact list_getD_kt (by omega) (fun i hi => hno i (by omega)))

set_option maxRecDepth 10000 in
theorem Same_c (la lb : List Tok) (hla : la.length ≤ 1000000) (h : Hp) :
    CSpec Try.prog 16 [.loc 0, .loc 1] [okToks la, okToks lb] h
      (fun sv o h' => sv = .bexp (decide (la.map kt = lb.map kt)) ∧ o = [some (okToks la), some (okToks lb)] ∧ h' = h) := by
  refine spec_of_swpF {} Try.func16 (enters_of Try.func16 (by kernel_rfl) rfl) rfl ?_
  repeat' (
      (conv => whnf)
      first
        | exact closedB (by kernel_rfl)
        | refine And.intro ?_ ?_
        | (refine ⟨_, eqf_c _ _ hla _, ?_⟩; rintro sv o' h' _ ⟨rfl, rfl, rfl⟩)
        | intro _)
  all_goals (try simp only [Bool.and_eq_true, Bool.or_eq_true, Bool.not_eq_true', Bool.not_eq_false', decide_eq_true_eq, decide_eq_false_iff_not, beq_iff_eq, bne_iff_ne, bne_eq_false_iff_eq, beq_eq_false_iff_ne, Bool.false_eq_true, Bool.true_eq_false, ne_eq] at *)
  all_goals rfl
end Go.Proofs.Ytdpoebadaomfgaa
