import Derived.Test.YtdhgpmhlnechbaaGreatDoorNl
import Derived.Test.YtdhgpmhlnechbaaGreatDoorNd
/-
  Below a label.
-/
set_option linter.unusedSimpArgs false
set_option linter.unusedVariables false
namespace Go.Proofs.YtdhgpmhlnechbaaGreatDoor
open Go Go.Cx

noncomputable def belowC (c : ConfM) (top : Int) : ConfM := { c with cl := c.cl.filter fun x => belowB x.lab top, rl := c.rl.filter fun x => belowB x.auth top }
/-- An own list, its elements by words. -/
def LEl {A : Type} [Inhabited A] (g : A → List SV) (l : List A) (n : Nat) (el : Nat → List SV) : Prop := n = l.length ∧ ∀ i, i < n → el i = g (l.getD i default)
theorem LEl.nil {A : Type} [Inhabited A] {g : A → List SV} : LEl g [] 0 fun _ => [] := ⟨rfl, fun i h => absurd h (by omega)⟩
theorem LEl.snoc {A : Type} [Inhabited A] {g : A → List SV} {l : List A} {n sz : Nat} {el : Nat → List SV} {x : A} {cs : List SV} (h : LEl g l n el) (hc : cs = g x) (hl : cs.length = sz) : LEl g (l ++ [x]) (n + 1) (catEl n el (cutEl sz cs)) := by
  obtain ⟨rfl, h⟩ := h
  refine ⟨by simp, fun i hi => ?_⟩
  unfold catEl
  split
  · rename_i hq
    rw [h i hq, List.getD_eq_getElem?_getD, List.getD_eq_getElem?_getD, List.getElem?_append_left hq]
  · have : i = l.length := by omega
    subst this
    rw [← hl]
    simp [cutEl, ← hc]
theorem filt_in {A : Type} [Inhabited A] {p : A → Bool} {l : List A} {k : Nat} (hk : k < l.length) (h : p (l.getD k default) = true) : (l.take (k + 1)).filter p = (l.take k).filter p ++ [l.getD k default] := by
  rw [List.getD_eq_getElem?_getD, List.getElem?_eq_getElem hk] at h ⊢
  rw [List.take_add_one, List.getElem?_eq_getElem hk, List.filter_append]
  simp only [Option.getD_some] at h ⊢
  simp [h]
theorem filt_out {A : Type} [Inhabited A] {p : A → Bool} {l : List A} {k : Nat} (hk : k < l.length) (h : p (l.getD k default) = false) : (l.take (k + 1)).filter p = (l.take k).filter p := by
  rw [List.getD_eq_getElem?_getD, List.getElem?_eq_getElem hk] at h
  rw [List.take_add_one, List.getElem?_eq_getElem hk, List.filter_append]
  simp only [Option.getD_some] at h
  simp [h]
theorem below_same {c : ConfM} {top : Int} {k1 k2 n1 n2 : Nat} {el1 el2 : Nat → List SV} (h1 : k1 = c.cl.length) (h2 : k2 = c.rl.length) (hn1 : LEl clsS ((c.cl.take k1).filter fun x => belowB x.lab top) n1 el1) (hn2 : LEl ruleS ((c.rl.take k2).filter fun x => belowB x.auth top) n2 el2) :
    Same (.tup [.agg (confW c (.isl 3 n1 el1) (.isl 7 n2 el2)), ci 0]) (.tup [.agg (confS (belowC c top)), ci 0]) := by
  subst h1 h2
  rw [List.take_of_length_le (Nat.le_refl _)] at hn1 hn2
  obtain ⟨rfl, h1⟩ := hn1
  obtain ⟨rfl, h2⟩ := hn2
  refine .tup (.cons (.agg (.cons (.isl h1) ?_)) (.cons (.refl _) .nil))
  repeat (first | exact SameL.cons (.isl h2) SameL.all | refine SameL.cons (.refl _) ?_)
set_option maxRecDepth 100000 in
set_option maxHeartbeats 8000000 in
theorem rBelow_d (c : ConfM) (hc1 : c.cl.length ≤ 8) (hc2 : c.rl.length ≤ 8) (hk : (chk c).1 = 0) (top : Int) (hok : DSpec Tryz.prog noX [] 21 [.agg (confS c)] [] (fun v O => v = ci (chk c).1 ∧ O = [])) : DSpec Tryz.prog noX [] 6 [.agg (confS c), cu top] [] (fun v O => v = .tup [.agg (confS (belowC c top)), ci 0] ∧ O = []) := by
  rw [hk] at hok
  refine DSpec.same (post := fun v O => Same v (.tup [.agg (confS (belowC c top)), ci 0]) ∧ O = []) ?_ fun v O h => ⟨_, h.1, rfl, h.2⟩
  refine dspec_of { ann := [(6, [8]), (11, [9])], nils := [(6, [(.cell 2 0, 56, 3)]), (11, [(.cell 2 31, 58, 7)])] } true Tryz.func6 (by kernel_rfl) rfl ?_
  repeat' (
      (conv => whnf)
      first
        | exact closedB (by kernel_rfl)
        | refine And.intro ?_ ?_
        | refine splitB_intro ?_ ?_
        | (refine ⟨_, hok, ?_⟩; rintro v O' ⟨rfl, rfl⟩)
        | (refine ⟨_, below_d _ _, ?_⟩; rintro v O' ⟨rfl, rfl⟩)
        | ((have := hn1; refine ⟨fun vs O _ => ∃ (k n : Nat) (el : Nat → List SV), k ≤ c.rl.length ∧ LEl ruleS ((c.rl.take k).filter fun x => belowB x.auth top) n el ∧ vs = [ci k] ∧ O = [.cells 30 (confS c), .cells 30 (cfW 0 0 (.cv .nils) (.cv .nils) (cu 0)), .cells 30 (confW c (.lst 3) (.lst 4)), .list 56 3 n1 el1, .list 58 7 n el], fun vs O => match vs with | [.cv (.int _ k)] => c.rl.length - k.toNat | _ => 0, ⟨0, _, _, Nat.zero_le _, LEl.nil, rfl, rfl⟩, ?_⟩; rintro vs O _ ⟨k2, n2, el2, hk2, hn2, rfl, rfl⟩))
        | ((refine ⟨fun vs O _ => ∃ (k n : Nat) (el : Nat → List SV), k ≤ c.cl.length ∧ LEl clsS ((c.cl.take k).filter fun x => belowB x.lab top) n el ∧ vs = [ci k] ∧ O = [.cells 30 (confS c), .cells 30 (cfW 0 0 (.cv .nils) (.cv .nils) (cu 0)), .cells 30 (confW c (.lst 3) (.cv .nils)), .list 56 3 n el], fun vs O => match vs with | [.cv (.int _ k)] => c.cl.length - k.toNat | _ => 0, ⟨0, _, _, Nat.zero_le _, LEl.nil, rfl, rfl⟩, ?_⟩; rintro vs O _ ⟨k1, n1, el1, hk1, hn1, rfl, rfl⟩))
        | intro _)
  all_goals first
    | rfl
    | omega
    | (simp only [inB, List.getD_eq_getElem?_getD, Bool.and_eq_true, Bool.or_eq_true, Bool.and_eq_false_iff, Bool.or_eq_false_iff, Bool.not_eq_true', Bool.not_eq_false', decide_eq_true_eq, decide_eq_false_iff_not, beq_iff_eq, bne_iff_ne, bne_eq_false_iff_eq, beq_eq_false_iff_ne, Bool.false_eq_true, Bool.true_eq_false, ne_eq, true_iff, iff_true, false_iff, iff_false, Bool.not_eq_true, Bool.not_eq_false] at *; omega)
    | (rename_i hz; exact ⟨k2 + 1, _, _, by (simp only [inB, List.getD_eq_getElem?_getD, Bool.and_eq_true, Bool.or_eq_true, Bool.and_eq_false_iff, Bool.or_eq_false_iff, Bool.not_eq_true', Bool.not_eq_false', decide_eq_true_eq, decide_eq_false_iff_not, beq_iff_eq, bne_iff_ne, bne_eq_false_iff_eq, beq_eq_false_iff_ne, Bool.false_eq_true, Bool.true_eq_false, ne_eq, true_iff, iff_true, false_iff, iff_false, Bool.not_eq_true, Bool.not_eq_false] at *; omega), by rw [filt_in (by (simp only [inB, List.getD_eq_getElem?_getD, Bool.and_eq_true, Bool.or_eq_true, Bool.and_eq_false_iff, Bool.or_eq_false_iff, Bool.not_eq_true', Bool.not_eq_false', decide_eq_true_eq, decide_eq_false_iff_not, beq_iff_eq, bne_iff_ne, bne_eq_false_iff_eq, beq_eq_false_iff_ne, Bool.false_eq_true, Bool.true_eq_false, ne_eq, true_iff, iff_true, false_iff, iff_false, Bool.not_eq_true, Bool.not_eq_false] at *; omega)) hz]; exact hn2.snoc rfl rfl, rfl, rfl⟩)
    | (rename_i hz; exact ⟨k2 + 1, _, _, by (simp only [inB, List.getD_eq_getElem?_getD, Bool.and_eq_true, Bool.or_eq_true, Bool.and_eq_false_iff, Bool.or_eq_false_iff, Bool.not_eq_true', Bool.not_eq_false', decide_eq_true_eq, decide_eq_false_iff_not, beq_iff_eq, bne_iff_ne, bne_eq_false_iff_eq, beq_eq_false_iff_ne, Bool.false_eq_true, Bool.true_eq_false, ne_eq, true_iff, iff_true, false_iff, iff_false, Bool.not_eq_true, Bool.not_eq_false] at *; omega), by rw [filt_out (by (simp only [inB, List.getD_eq_getElem?_getD, Bool.and_eq_true, Bool.or_eq_true, Bool.and_eq_false_iff, Bool.or_eq_false_iff, Bool.not_eq_true', Bool.not_eq_false', decide_eq_true_eq, decide_eq_false_iff_not, beq_iff_eq, bne_iff_ne, bne_eq_false_iff_eq, beq_eq_false_iff_ne, Bool.false_eq_true, Bool.true_eq_false, ne_eq, true_iff, iff_true, false_iff, iff_false, Bool.not_eq_true, Bool.not_eq_false] at *; omega)) hz]; exact hn2, rfl, rfl⟩)
    | (rename_i hz; exact ⟨k1 + 1, _, _, by (simp only [inB, List.getD_eq_getElem?_getD, Bool.and_eq_true, Bool.or_eq_true, Bool.and_eq_false_iff, Bool.or_eq_false_iff, Bool.not_eq_true', Bool.not_eq_false', decide_eq_true_eq, decide_eq_false_iff_not, beq_iff_eq, bne_iff_ne, bne_eq_false_iff_eq, beq_eq_false_iff_ne, Bool.false_eq_true, Bool.true_eq_false, ne_eq, true_iff, iff_true, false_iff, iff_false, Bool.not_eq_true, Bool.not_eq_false] at *; omega), by rw [filt_in (by (simp only [inB, List.getD_eq_getElem?_getD, Bool.and_eq_true, Bool.or_eq_true, Bool.and_eq_false_iff, Bool.or_eq_false_iff, Bool.not_eq_true', Bool.not_eq_false', decide_eq_true_eq, decide_eq_false_iff_not, beq_iff_eq, bne_iff_ne, bne_eq_false_iff_eq, beq_eq_false_iff_ne, Bool.false_eq_true, Bool.true_eq_false, ne_eq, true_iff, iff_true, false_iff, iff_false, Bool.not_eq_true, Bool.not_eq_false] at *; omega)) hz]; exact hn1.snoc rfl rfl, rfl, rfl⟩)
    | (rename_i hz; exact ⟨k1 + 1, _, _, by (simp only [inB, List.getD_eq_getElem?_getD, Bool.and_eq_true, Bool.or_eq_true, Bool.and_eq_false_iff, Bool.or_eq_false_iff, Bool.not_eq_true', Bool.not_eq_false', decide_eq_true_eq, decide_eq_false_iff_not, beq_iff_eq, bne_iff_ne, bne_eq_false_iff_eq, beq_eq_false_iff_ne, Bool.false_eq_true, Bool.true_eq_false, ne_eq, true_iff, iff_true, false_iff, iff_false, Bool.not_eq_true, Bool.not_eq_false] at *; omega), by rw [filt_out (by (simp only [inB, List.getD_eq_getElem?_getD, Bool.and_eq_true, Bool.or_eq_true, Bool.and_eq_false_iff, Bool.or_eq_false_iff, Bool.not_eq_true', Bool.not_eq_false', decide_eq_true_eq, decide_eq_false_iff_not, beq_iff_eq, bne_iff_ne, bne_eq_false_iff_eq, beq_eq_false_iff_ne, Bool.false_eq_true, Bool.true_eq_false, ne_eq, true_iff, iff_true, false_iff, iff_false, Bool.not_eq_true, Bool.not_eq_false] at *; omega)) hz]; exact hn1, rfl, rfl⟩)
    | exact below_same (by (simp only [inB, List.getD_eq_getElem?_getD, Bool.and_eq_true, Bool.or_eq_true, Bool.and_eq_false_iff, Bool.or_eq_false_iff, Bool.not_eq_true', Bool.not_eq_false', decide_eq_true_eq, decide_eq_false_iff_not, beq_iff_eq, bne_iff_ne, bne_eq_false_iff_eq, beq_eq_false_iff_ne, Bool.false_eq_true, Bool.true_eq_false, ne_eq, true_iff, iff_true, false_iff, iff_false, Bool.not_eq_true, Bool.not_eq_false] at *; omega)) (by (simp only [inB, List.getD_eq_getElem?_getD, Bool.and_eq_true, Bool.or_eq_true, Bool.and_eq_false_iff, Bool.or_eq_false_iff, Bool.not_eq_true', Bool.not_eq_false', decide_eq_true_eq, decide_eq_false_iff_not, beq_iff_eq, bne_iff_ne, bne_eq_false_iff_eq, beq_eq_false_iff_ne, Bool.false_eq_true, Bool.true_eq_false, ne_eq, true_iff, iff_true, false_iff, iff_false, Bool.not_eq_true, Bool.not_eq_false] at *; omega)) hn1 hn2
    | (have h1 := hn2.1; have h2 := List.length_filter_le (fun x : RuleM => belowB x.auth top) (c.rl.take k2); rw [List.length_take] at h2; (simp only [inB, List.getD_eq_getElem?_getD, Bool.and_eq_true, Bool.or_eq_true, Bool.and_eq_false_iff, Bool.or_eq_false_iff, Bool.not_eq_true', Bool.not_eq_false', decide_eq_true_eq, decide_eq_false_iff_not, beq_iff_eq, bne_iff_ne, bne_eq_false_iff_eq, beq_eq_false_iff_ne, Bool.false_eq_true, Bool.true_eq_false, ne_eq, true_iff, iff_true, false_iff, iff_false, Bool.not_eq_true, Bool.not_eq_false] at *; omega))
    | (have h1 := hn1.1; have h2 := List.length_filter_le (fun x : ClsM => belowB x.lab top) (c.cl.take k1); rw [List.length_take] at h2; (simp only [inB, List.getD_eq_getElem?_getD, Bool.and_eq_true, Bool.or_eq_true, Bool.and_eq_false_iff, Bool.or_eq_false_iff, Bool.not_eq_true', Bool.not_eq_false', decide_eq_true_eq, decide_eq_false_iff_not, beq_iff_eq, bne_iff_ne, bne_eq_false_iff_eq, beq_eq_false_iff_ne, Bool.false_eq_true, Bool.true_eq_false, ne_eq, true_iff, iff_true, false_iff, iff_false, Bool.not_eq_true, Bool.not_eq_false] at *; omega))
end Go.Proofs.YtdhgpmhlnechbaaGreatDoor
