import Derived.Test.YtkjdghlefdmjaaaDoorTr
import Derived.Test.YtkjdghlefdmjaaaDoorTq
set_option linter.unusedSimpArgs false
set_option linter.unusedVariables false
set_option maxRecDepth 100000
namespace Go.Proofs.YtkjdghlefdmjaaaDoor
open Go Go.Cx
theorem stood_tok : StoodNo Tryd.prog 32 := ⟨by kernel_rfl⟩
theorem beqL_self (s : List Nat) : beqL s s = true := by rw [beqL_eq]; simp
theorem tok_self (t : Tok) : ¬ (!(t.kind == t.kind && (beqL t.text t.text && t.pos == t.pos))) = true := by
 rw [beqL_self, beq_self_eq_true, beq_self_eq_true]; decide
theorem txt_self (s : List Nat) : ¬ (!beqL s s) = true := by rw [beqL_self]; decide
theorem bool_self (c : Bool) : ¬ (!c == c) = true := by cases c <;> decide
theorem len_self (n : Int) : ¬ (n != n) = true := by simp
theorem equal_d (a : List Tok) (ha : a.length ≤ 1000000) : DSpec Tryd.prog axX axG 10 [.isl 3 a.length (elF tokS a), .isl 3 a.length (elF tokS a)] [] (fun v O => v = ab true ∧ O = []) := by
 refine dspec_of { glb := axG, ann := [(4, [5])] } true Tryd.func10 (by kernel_rfl) rfl ?_
 repeat' (
   (conv => whnf)
   first
    | exact closedB (by kernel_rfl)
    | refine And.intro ?_ ?_
    | refine splitB_intro ?_ ?_
    | ((refine ⟨fun vs O _ => ∃ k : Nat, k ≤ a.length ∧ vs = [ai k] ∧ O = [], fun vs O => match vs with | [.cv (.int _ k)] => a.length - k.toNat | _ => 0, ⟨0, Nat.zero_le _, rfl, rfl⟩, ?_⟩; rintro vs O _ ⟨k, hk, rfl, rfl⟩))
    | intro _)
 all_goals first
  | rfl
  | exact stood_tok
  | omega
  | (simp only [zz] at *; omega)
  | (exfalso; (simp only [zz] at *; omega))
  | (rename_i hz; exact absurd hz (len_self _))
  | (rename_i hz; exact absurd hz (tok_self _))
  | exact ⟨k + 1, by (simp only [zz] at *; omega), rfl, rfl⟩
theorem few_of {l : List Tok} (h : fewB l = true) : l.length ≤ 20 ∧ ∀ t ∈ l, t.text.length ≤ 60 := by
 unfold fewB at h
 rw [Bool.and_eq_true, decide_eq_true_eq, List.all_eq_true] at h
 exact ⟨h.1, fun t ht => by have := h.2 t ht; rwa [decide_eq_true_eq] at this⟩
theorem same_copy (a : List Tok) (e0 : Nat → List SV) : Same (.isl 3 (0 + a.length) (catEl 0 e0 (elF tokS a))) (.isl 3 a.length (elF tokS a)) := by
 rw [Nat.zero_add]
 exact .isl fun i hi => by unfold catEl; rw [if_neg (by omega)]; rfl
set_option maxHeartbeats 4000000 in
theorem TokenChecks_d (a b : List Tok) (lo hi : Int) (hal : a.length ≤ 9223372036854775807) (hbl : b.length ≤ 9223372036854775807) (hw : DSpec Tryd.prog axX axG 5 [] [] (fun v O => v = ab true ∧ O = [])) :
  DSpec Tryd.prog axX axG 3 [.isl 3 a.length (elF tokS a), .isl 3 b.length (elF tokS b), ai lo, ai hi] [] (fun v _ => v = .cv (.bool true)) := by
 have ha := few_d a hal
 have hb := few_d b hbl
 by_cases hf : fewB a = true ∧ fewB b = true
 ·obtain ⟨h1, h2⟩ := few_of hf.1
  obtain ⟨h3, h4⟩ := few_of hf.2
  rw [hf.1] at ha
  rw [hf.2] at hb
  have hj : (joinL [32] (a.map Tok.text)).length ≤ 1000000 := by
   have := join_len h2 a.length (Nat.le_refl _)
   rw [List.take_length] at this; omega
  have hX := Text_d a (by omega) (fun t ht => Nat.le_trans (h2 t ht) (by decide)) hj
  have hS := Same_d a b (by omega)
  have hE := equal_d a (by omega)
  have hX' := fun e0 => hX.arg (.cons (same_copy a e0) .nil)
  have hS' := fun e0 => hS.arg (.cons (same_copy a e0) (.cons (.refl _) .nil))
  have hE' := fun e0 => hE.arg (.cons (same_copy a e0) (.cons (.refl _) .nil))
  have hlt : ∀ t ∈ a, t.text.length ≤ 1000000 := fun t ht => Nat.le_trans (h2 t ht) (by decide)
  clear hX hS hE
  refine dspec_of { glb := axG, ann := [(9, [14])] } true Tryd.func3 (by kernel_rfl) rfl ?_
  repeat' (
    (conv => whnf)
    first
     | exact closedB (by kernel_rfl)
     | refine And.intro ?_ ?_
     | refine splitB_intro ?_ ?_
     | (refine ⟨_, hw, ?_⟩; rintro v O' ⟨rfl, rfl⟩)
     | (refine ⟨_, ha, ?_⟩; rintro v O' ⟨rfl, rfl⟩)
     | (refine ⟨_, hb, ?_⟩; rintro v O' ⟨rfl, rfl⟩)
     | (refine ⟨_, rText_d a h1 h2, ?_⟩; rintro v O' ⟨rfl, rfl⟩)
     | (refine ⟨_, rSame_d a b (by omega), ?_⟩; rintro v O' ⟨rfl, rfl⟩)
     | (refine ⟨_, hX' _, ?_⟩; rintro v O' ⟨rfl, rfl⟩)
     | (refine ⟨_, hS' _, ?_⟩; rintro v O' ⟨rfl, rfl⟩)
     | (refine ⟨_, hE' _, ?_⟩; rintro v O' ⟨rfl, rfl⟩)
     | (refine ⟨_, Number_d (a.getD _ default) lo hi (hlt _ (getD_mem (by (simp only [zz] at *; omega)))), ?_⟩; rintro v O' ⟨rfl, rfl⟩)
     | (refine ⟨_, rNumber_d (a.getD _ default) lo hi (hlt _ (getD_mem (by (simp only [zz] at *; omega)))), ?_⟩; rintro v O' ⟨rfl, rfl⟩)
     | (refine ⟨_, Check_t (a.getD _ default) (hlt _ (getD_mem (by (simp only [zz] at *; omega)))), ?_⟩; rintro v O' ⟨rfl, rfl⟩)
     | (refine ⟨_, rCheck_d (a.getD _ default) (hlt _ (getD_mem (by (simp only [zz] at *; omega)))), ?_⟩; rintro v O' ⟨rfl, rfl⟩)
     | ((refine ⟨fun vs O _ => ∃ k : Nat, k ≤ a.length ∧ vs = [ai k] ∧ O = [], fun vs O => match vs with | [.cv (.int _ k)] => a.length - k.toNat | _ => 0, ⟨0, Nat.zero_le _, rfl, rfl⟩, ?_⟩; rintro vs O _ ⟨k, hk, rfl, rfl⟩))
     | intro _)
  all_goals first
   | rfl
   | omega
   | (simp only [zz] at *; omega)
   | (rename_i hz; exact absurd hz (txt_self _))
   | (rename_i hz; exact absurd hz (len_self _))
   | (rename_i hz; exact absurd hz (bool_self _))
   | exact ⟨k + 1, by (simp only [zz] at *; omega), rfl, rfl⟩
 ·cases hfa : fewB a with
  | false =>
   rw [hfa] at ha
   refine dspec_of { glb := axG, ann := [(9, [14])] } true Tryd.func3 (by kernel_rfl) rfl ?_
   repeat' (
     (conv => whnf)
     first
      | exact closedB (by kernel_rfl)
      | refine And.intro ?_ ?_
      | refine splitB_intro ?_ ?_
      | (refine ⟨_, hw, ?_⟩; rintro v O' ⟨rfl, rfl⟩)
      | (refine ⟨_, ha, ?_⟩; rintro v O' ⟨rfl, rfl⟩)
      | intro _)
   all_goals first
    | rfl
  | true =>
   have hfb : fewB b = false := by
    cases h : fewB b with
    | false => rfl
    | true => exact absurd ⟨hfa, h⟩ hf
   rw [hfa] at ha
   rw [hfb] at hb
   refine dspec_of { glb := axG, ann := [(9, [14])] } true Tryd.func3 (by kernel_rfl) rfl ?_
   repeat' (
     (conv => whnf)
     first
      | exact closedB (by kernel_rfl)
      | refine And.intro ?_ ?_
      | refine splitB_intro ?_ ?_
      | (refine ⟨_, hw, ?_⟩; rintro v O' ⟨rfl, rfl⟩)
      | (refine ⟨_, ha, ?_⟩; rintro v O' ⟨rfl, rfl⟩)
      | (refine ⟨_, hb, ?_⟩; rintro v O' ⟨rfl, rfl⟩)
      | intro _)
   all_goals first
    | rfl
end Go.Proofs.YtkjdghlefdmjaaaDoor
