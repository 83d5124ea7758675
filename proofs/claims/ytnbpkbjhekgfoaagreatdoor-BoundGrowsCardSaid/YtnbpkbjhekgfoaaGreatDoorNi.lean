import Derived.Test.YtnbpkbjhekgfoaaGreatDoorNh
set_option linter.unusedSimpArgs false
set_option linter.unusedVariables false
namespace Go.Proofs.YtnbpkbjhekgfoaaGreatDoor
open Go Go.Cx
@[reducible] noncomputable def allR (c : ConfM) : SV := .tup [cb ((horOf c).2 == 0 && decide (c.hz ≥ (horOf c).1)), ci (horOf c).2]
theorem hor_in {c : ConfM} (h : ((horOf c).2 == 0) = true) : 0 ≤ (horOf c).1 ∧ (horOf c).1 ≤ 3000 := by
 cases hq : (chk c).1 != 0 with
 | true => rw [horOf_err hq] at h; simp at h; simp [h] at hq
 | false =>
  rw [horOf_ok hq]
  have hp := fun i hi => pat_in (ten_ok (i := i) hq hi) (pl_bd c).1 (pl_bd c).2
  have : ∀ k, k ≤ 6 → 0 ≤ maxF (fun i => pat (c.ten i) (pl c)) k ∧ maxF (fun i => pat (c.ten i) (pl c)) k ≤ 3000 := by
   intro k
   induction k with
   | zero => intro _; simp [maxF]
   | succ k ih =>
    intro hk
    have h1 := ih (by omega)
    have h2 := hp k (by omega)
    unfold maxF
    omega
  exact this 6 (Nat.le_refl _)
set_option maxRecDepth 100000 in
theorem All_d (c : ConfM) (hc : Lim c) : DSpec Tryz.prog noX [] 10 [.agg (confS c)] [] (fun v O => v = allR c ∧ O = []) := by
 refine dspec_of {} true Tryz.func10 (by kernel_rfl) rfl ?_
 repeat' (
   (conv => whnf)
   first
    | exact closedB (by kernel_rfl)
    | refine And.intro ?_ ?_
    | refine splitB_intro ?_ ?_
    | (refine ⟨_, Horizon_d c hc, ?_⟩; rintro v O' ⟨rfl, rfl⟩)
    | intro _)
 all_goals first
  | rfl
  | (have := hor_in (c := c) (by assumption); omega)
  | (unfold allR; simp only [*]; rfl)
def fEl (f : Nat → Int) : Nat → List SV := fun i => [ci (f i)]
def Ints (f : Nat → Int) (n : Nat) (el : Nat → List SV) : Prop := ∀ i, i < n → el i = fEl f i
theorem Ints.snoc {f : Nat → Int} {n : Nat} {el : Nat → List SV} (h : Ints f n el) : Ints f (n + 1) (catEl n el (cutEl 1 [ci (f n)])) := fun i hi => by
 unfold catEl
 split
 ·rename_i hq; exact h i hq
 ·rename_i hq
  have : i = n := by omega
  subst this
  simp [cutEl, fEl]
end Go.Proofs.YtnbpkbjhekgfoaaGreatDoor
