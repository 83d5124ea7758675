import Derived.Test.YtkjdghlefdmjaaaDoorTp
set_option linter.unusedSimpArgs false
set_option linter.unusedVariables false
set_option maxRecDepth 100000
namespace Go.Proofs.YtkjdghlefdmjaaaDoor
open Go Go.Cx
theorem value_num {s : List Nat} (hn : numB s = true) (hl : nNeg s + nDig s = s.length) (hs : s.length ≤ 1000000) : DSpec Tryd.prog axX axG 20 [.cv (.str s)] [] (fun v O => valS (numV s) v ∧ O = []) := by
 have conv : ∀ {l : List Nat}, (∀ c ∈ l.map UInt8.ofNat, 48 ≤ c.toNat ∧ c.toNat ≤ 57) → ∀ c ∈ l, 48 ≤ c % 256 ∧ c % 256 ≤ 57 := fun {l} h c hc => dig_mod (h _ (List.mem_map_of_mem hc))
 rcases num_form hn hl with ⟨r, h1, h2, h3⟩ | ⟨h2, h3⟩
 ·cases s with
  | nil => cases h1
  | cons a q =>
   rw [List.map_cons, List.cons.injEq] at h1
   obtain ⟨ha, rfl⟩ := h1
   exact value_minus rfl ha (fun hq => h2 (by rw [hq]; rfl)) hs (conv h3)
 ·have h2' : s ≠ [] := fun hq => h2 (by rw [hq]; rfl)
  refine value_plain h2' hs (conv h3) ?_
  cases s with
  | nil => exact absurd rfl h2'
  | cons a q =>
   have := conv h3 a (by simp)
   show ((a % 256 : Nat) : Int) ≠ 45
   omega
theorem rNumber_d (t : Tok) (lo hi : Int) (hs : t.text.length ≤ 1000000) : DSpec Tryd.prog axX axG 12 [.agg (tokS t), ai lo, ai hi] [] (fun v O => v = numRS (numR t lo hi) ∧ O = []) := by
 have hval : (chkT t != 0) = false → (t.kind != 3) = false → DSpec Tryd.prog axX axG 20 [.cv (.str t.text)] [] (fun v O => valS (numV t.text) v ∧ O = []) := fun h hk => by
  obtain ⟨h1, h2⟩ := whole_num (t := t) (by simpa using h) (by simpa using hk)
  exact value_num h1 h2 hs
 cases hv : numV t.text with
 | none =>
  rw [hv] at hval
  refine dspec_of { glb := axG } true Tryd.func12 (by kernel_rfl) rfl ?_
  repeat' (
    (conv => whnf)
    first
     | exact closedB (by kernel_rfl)
     | refine And.intro ?_ ?_
     | refine splitB_intro ?_ ?_
     | (refine ⟨_, rCheck_d t hs, ?_⟩; rintro v O' ⟨rfl, rfl⟩)
     | (refine ⟨_, hval (by assumption) (by assumption), ?_⟩; rintro v O' ⟨⟨x, rfl⟩, rfl⟩)
     | intro _)
  all_goals first
   | rfl
   | exact numRE (p := (0, _)) (numR_bad (by assumption))
   | exact numRE (p := (0, _)) (numR_kind (by assumption) (by assumption))
   | exact numRE (p := (0, _)) (numR_none (by assumption) (by assumption) hv)
 | some v =>
  rw [hv] at hval
  refine dspec_of { glb := axG } true Tryd.func12 (by kernel_rfl) rfl ?_
  repeat' (
    (conv => whnf)
    first
     | exact closedB (by kernel_rfl)
     | refine And.intro ?_ ?_
     | refine splitB_intro ?_ ?_
     | (refine ⟨_, rCheck_d t hs, ?_⟩; rintro v O' ⟨rfl, rfl⟩)
     | (refine ⟨_, hval (by assumption) (by assumption), ?_⟩; rintro v O' ⟨rfl, rfl⟩)
     | intro _)
  all_goals first
   | rfl
   | exact numRE (p := (0, _)) (numR_bad (by assumption))
   | exact numRE (p := (0, _)) (numR_kind (by assumption) (by assumption))
   | exact numRE (p := (0, _)) (numR_out (by assumption) (by assumption) hv (.inl (by (simp only [zz] at *; omega))))
   | exact numRE (p := (0, _)) (numR_out (by assumption) (by assumption) hv (.inr (by (simp only [zz] at *; omega))))
   | exact numRE (p := (v, 0)) (numR_in (by assumption) (by assumption) hv (by (simp only [zz] at *; omega)))
end Go.Proofs.YtkjdghlefdmjaaaDoor
