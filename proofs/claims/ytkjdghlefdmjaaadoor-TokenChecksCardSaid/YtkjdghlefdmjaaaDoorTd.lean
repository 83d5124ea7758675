import Derived.Test.YtkjdghlefdmjaaaDoorTc
set_option linter.unusedSimpArgs false
set_option linter.unusedVariables false
set_option maxRecDepth 100000
namespace Go.Proofs.YtkjdghlefdmjaaaDoor
open Go Go.Cx
def Sfx (s : List Nat) (n : Nat) (i : Int) : Prop := n ≤ (toksAt s 0).1.length ∧ toksAt s i = ((toksAt s 0).1.drop n, (toksAt s 0).2)
theorem Sfx.zero (s : List Nat) : Sfx s 0 0 := ⟨Nat.zero_le _, rfl⟩
section
variable {s : List Nat} {n : Nat} {i : Int}
theorem Sfx.more (h : Sfx s n i) (h0 : 0 ≤ i) (h1 : i ≤ s.length) (he : (nxt s i).2.2.err = 0) : n < (toksAt s 0).1.length ∧ (toksAt s 0).1.getD n default = (nxt s i).1 ∧ Sfx s (n + 1) (nxt s i).2.1 := by
 have hs := toksAt_step h0 h1
 rw [if_pos he, h.2] at hs
 have h2 : (toksAt s 0).1.drop n = (nxt s i).1 :: (toksAt s (nxt s i).2.1).1 := (Prod.ext_iff.1 hs).1
 have h3 : (toksAt s 0).2 = (toksAt s (nxt s i).2.1).2 := (Prod.ext_iff.1 hs).2
 have hl : n < (toksAt s 0).1.length := by
  rcases Nat.lt_or_ge n (toksAt s 0).1.length with hl | hl
  ·exact hl
  ·rw [List.drop_eq_nil_of_le hl] at h2; cases h2
 rw [List.drop_eq_getElem_cons hl] at h2
 refine ⟨hl, ?_, hl, ?_⟩
 ·rw [List.getD_eq_getElem?_getD, List.getElem?_eq_getElem hl]; exact (List.cons.inj h2).1
 ·rw [(List.cons.inj h2).2, h3]
theorem Sfx.last (h : Sfx s n i) (h0 : 0 ≤ i) (h1 : i ≤ s.length) (he : (nxt s i).2.2.err ≠ 0) : n = (toksAt s 0).1.length ∧ (toksAt s 0).2 = (nxt s i).2.2 := by
 have hs := toksAt_step h0 h1
 rw [if_neg he, h.2] at hs
 have h2 : (toksAt s 0).1.drop n = [] := congrArg Prod.fst hs
 have h3 : (toksAt s 0).2 = (nxt s i).2.2 := congrArg Prod.snd hs
 have := List.drop_eq_nil_iff.1 h2
 exact ⟨by have := h.1; omega, h3⟩
end
theorem take_snoc {A : Type} [Inhabited A] {l : List A} {j : Nat} (h : j < l.length) : l.take (j + 1) = l.take j ++ [l.getD j default] := by
 rw [List.take_add_one, List.getD_eq_getElem?_getD, List.getElem?_eq_getElem h]; rfl
noncomputable def wholeB (t : Tok) : Bool := (nxt t.text 0).2.2.err == 0 && ((nxt t.text 0).1.pos == 0 && ((nxt t.text 0).2.1 == t.text.length && (nxt t.text 0).1.kind == t.kind))
noncomputable def chkT (t : Tok) : Int := if t.kind < 1 ∨ 4 < t.kind then 11 else if wholeB t then (if t.pos < 0 then 2 else 0) else 3
theorem chkT_kind {t : Tok} (h : t.kind < 1 ∨ 4 < t.kind) : chkT t = 11 := if_pos h
theorem chkT_form {t : Tok} (h : ¬ (t.kind < 1 ∨ 4 < t.kind)) (hw : wholeB t = false) : chkT t = 3 := by unfold chkT; rw [if_neg h, hw]; rfl
theorem chkT_neg {t : Tok} (h : ¬ (t.kind < 1 ∨ 4 < t.kind)) (hw : wholeB t = true) (hp : t.pos < 0) : chkT t = 2 := by unfold chkT; rw [if_neg h, hw, if_pos rfl, if_pos hp]
theorem chkT_ok {t : Tok} (h : ¬ (t.kind < 1 ∨ 4 < t.kind)) (hw : wholeB t = true) (hp : ¬ t.pos < 0) : chkT t = 0 := by unfold chkT; rw [if_neg h, hw, if_pos rfl, if_neg hp]
theorem whole_no {t : Tok} (h : (nxt t.text 0).2.2.err ≠ 0 ∨ (nxt t.text 0).1.pos ≠ 0 ∨ (nxt t.text 0).2.1 ≠ t.text.length ∨ (nxt t.text 0).1.kind ≠ t.kind) : wholeB t = false := by
 unfold wholeB
 rw [Bool.eq_false_iff]
 simp only [ne_eq, Bool.and_eq_true, beq_iff_eq, not_and]
 rintro h1 h2 h3 h4
 rcases h with h | h | h | h <;> contradiction
theorem whole_yes {t : Tok} (h1 : (nxt t.text 0).2.2.err = 0) (h2 : (nxt t.text 0).1.pos = 0) (h3 : (nxt t.text 0).2.1 = t.text.length) (h4 : (nxt t.text 0).1.kind = t.kind) : wholeB t = true := by
 unfold wholeB
 simp only [h1, h2, h3, h4, beq_self_eq_true, Bool.and_self]
theorem Check_t (t : Tok) (hs : t.text.length ≤ 1000000) : DSpec Tryd.prog axX axG 13 [.agg (tokS t)] [] (fun v O => v = .cv (.int .i64 (chkT t)) ∧ O = []) := by
 refine dspec_of { glb := axG } true Tryd.func13 (by kernel_rfl) rfl ?_
 repeat' (
   (conv => whnf)
   first
    | exact closedB (by kernel_rfl)
    | refine And.intro ?_ ?_
    | refine splitB_intro ?_ ?_
    | (refine ⟨_, Next_d t.text 0 hs, ?_⟩; rintro v O' ⟨rfl, rfl⟩)
    | intro _)
 all_goals first
  | rfl
  | omega
  | (simp only [zz] at *; omega)
  | (exfalso; (simp only [zz] at *; omega))
  | exact congrArg (fun x => SV.cv (.int .i64 x)) (chkT_kind (by (simp only [zz] at *; omega))).symm
  | exact congrArg (fun x => SV.cv (.int .i64 x)) (chkT_form (by (simp only [zz] at *; omega)) (whole_no (.inl (by (simp only [zz] at *; omega))))).symm
  | exact congrArg (fun x => SV.cv (.int .i64 x)) (chkT_form (by (simp only [zz] at *; omega)) (whole_no (.inr (.inl (by (simp only [zz] at *; omega)))))).symm
  | exact congrArg (fun x => SV.cv (.int .i64 x)) (chkT_form (by (simp only [zz] at *; omega)) (whole_no (.inr (.inr (.inl (by (simp only [zz] at *; omega))))))).symm
  | exact congrArg (fun x => SV.cv (.int .i64 x)) (chkT_form (by (simp only [zz] at *; omega)) (whole_no (.inr (.inr (.inr (by (simp only [zz] at *; omega))))))).symm
  | exact congrArg (fun x => SV.cv (.int .i64 x)) (chkT_neg (by (simp only [zz] at *; omega)) (whole_yes (by (simp only [zz] at *; omega)) (by (simp only [zz] at *; omega)) (by (simp only [zz] at *; omega)) (by (simp only [zz] at *; omega))) (by (simp only [zz] at *; omega))).symm
  | exact congrArg (fun x => SV.cv (.int .i64 x)) (chkT_ok (by (simp only [zz] at *; omega)) (whole_yes (by (simp only [zz] at *; omega)) (by (simp only [zz] at *; omega)) (by (simp only [zz] at *; omega)) (by (simp only [zz] at *; omega))) (by (simp only [zz] at *; omega))).symm
end Go.Proofs.YtkjdghlefdmjaaaDoor
