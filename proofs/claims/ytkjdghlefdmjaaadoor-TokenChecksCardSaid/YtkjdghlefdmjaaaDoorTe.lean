import Derived.Test.YtkjdghlefdmjaaaDoorTd
set_option linter.unusedSimpArgs false
set_option linter.unusedVariables false
set_option maxRecDepth 100000
namespace Go.Proofs.YtkjdghlefdmjaaaDoor
open Go Go.Cx
noncomputable def fstE : List Tok → Int
 | [] => 0
 | t :: r => if chkT t = 0 then fstE r else chkT t
theorem fstE_at : ∀ {l : List Tok} {k : Nat}, k < l.length → (∀ i, i < k → chkT (l.getD i default) = 0) → chkT (l.getD k default) ≠ 0 → fstE l = chkT (l.getD k default)
 | [], k, hk, _, _ => by simp at hk
 | t :: r, 0, hk, _, h => by
  have h : chkT t ≠ 0 := h
  show (if chkT t = 0 then fstE r else chkT t) = chkT t
  rw [if_neg h]
 | t :: r, k + 1, hk, h0, h => by
  have h1 : chkT t = 0 := h0 0 (by omega)
  show (if chkT t = 0 then fstE r else chkT t) = _
  rw [if_pos h1]
  exact fstE_at (l := r) (k := k) (by simpa using hk) (fun i hi => h0 (i + 1) (by omega)) h
theorem fstE_all : ∀ {l : List Tok}, (∀ i, i < l.length → chkT (l.getD i default) = 0) → fstE l = 0
 | [], _ => rfl
 | t :: r, h0 => by
  have h1 : chkT t = 0 := h0 0 (by simp)
  show (if chkT t = 0 then fstE r else chkT t) = _
  rw [if_pos h1]
  exact fstE_all fun i hi => h0 (i + 1) (by simpa using hi)
noncomputable def txt (l : List Tok) : List Nat × Int := if fstE l = 0 then (joinL [32] (l.map Tok.text), 0) else ([], fstE l)
def stS (t : Tok) : List SV := [.cv (.str t.text)]
noncomputable def txtS (p : List Nat × Int) : SV := .tup [.cv (.str p.1), .cv (.int .i64 p.2)]
theorem txt_at {l : List Tok} {k : Nat} (hk : k < l.length) (h0 : ∀ i, i < k → chkT (l.getD i default) = 0) (h : chkT (l.getD k default) ≠ 0) : txt l = ([], chkT (l.getD k default)) := by
 unfold txt; rw [fstE_at hk h0 h, if_neg h]
theorem txt_all {l : List Tok} (h0 : ∀ i, i < l.length → chkT (l.getD i default) = 0) : txt l = (joinL [32] (l.map Tok.text), 0) := by
 unfold txt; rw [fstE_all h0, if_pos rfl]
theorem txtE {p q : List Nat × Int} (h : q = p) : SV.tup [.cv (.str p.1), .cv (.int .i64 p.2)] = txtS q := by rw [h]; rfl
theorem getD_mem {A : Type} [Inhabited A] {l : List A} {k : Nat} (hk : k < l.length) : l.getD k default ∈ l := by
 rw [List.getD_eq_getElem?_getD, List.getElem?_eq_getElem hk]; exact List.getElem_mem hk
theorem stepK {l : List Tok} {k : Nat} (h0 : ∀ i, i < k → chkT (l.getD i default) = 0) (h : chkT (l.getD k default) = 0) : ∀ i, i < k + 1 → chkT (l.getD i default) = 0 := fun i hi => by
 rcases Nat.lt_succ_iff_lt_or_eq.1 hi with h1 | rfl
 ·exact h0 _ h1
 ·exact h
theorem Text_d (l : List Tok) (hl : l.length ≤ 1000) (ht : ∀ t ∈ l, t.text.length ≤ 1000000) (hj : (joinL [32] (l.map Tok.text)).length ≤ 1000000) : DSpec Tryd.prog axX axG 6 [.isl 3 l.length (elF tokS l)] [] (fun v O => v = txtS (txt l) ∧ O = []) := by
 have hjoin : ∀ (k : Nat) (el : Nat → List SV), ¬ k < l.length → k ≤ l.length → LElA stS (l.take k) k el → DSpec Tryd.prog axX axG 16 [.isl 1 k el, .cv (.str [32])] [] (fun v O => v = .cv (.str (joinL [32] (l.map Tok.text))) ∧ O = []) := fun k el h1 h2 he => by
  obtain rfl : k = l.length := by omega
  rw [List.take_length] at he
  have := join_d (P := Tryd.prog) (X := axX) (gl := axG) (fj := 16) rfl l.length el (fun i => (l.getD i default).text) (fun i hi => he.2 i hi) [32] (by omega) (by rw [range_getD]; exact hj)
  rwa [range_getD] at this
 have hnil : ¬ 0 < l.length → txt l = ([], 0) := fun h => by
  have h2 : l = [] := List.length_eq_zero_iff.1 (by omega)
  rw [txt_all fun i hi => absurd hi (by omega), h2]; rfl
 refine dspec_of { glb := axG, ann := [(3, [10, 4])] } true Tryd.func6 (by kernel_rfl) rfl ?_
 repeat' (
   (conv => whnf)
   first
    | exact closedB (by kernel_rfl)
    | refine And.intro ?_ ?_
    | refine splitB_intro ?_ ?_
    | ((refine ⟨fun vs O _ => ∃ k : Nat, k ≤ l.length ∧ (∀ i, i < k → chkT (l.getD i default) = 0) ∧ ((k = 0 ∧ vs = [ai 0, .cv .nils] ∧ O = []) ∨ (∃ el, 0 < k ∧ LElA stS (l.take k) k el ∧ vs = [ai k, .lst 2] ∧ O = [.dead, .dead, .list 9 1 k el])), fun vs O => match vs with | [.cv (.int _ k), _] => l.length - k.toNat | _ => 0, ⟨0, Nat.zero_le _, fun i hi => absurd hi (by omega), .inl ⟨rfl, rfl, rfl⟩⟩, ?_⟩; rintro vs O _ ⟨k, hk, h0, ⟨rfl, rfl, rfl⟩ | ⟨el, hk0, hel, rfl, rfl⟩⟩))
    | (refine ⟨_, Check_t (l.getD _ default) (ht _ (getD_mem (by (simp only [zz] at *; omega)))), ?_⟩; rintro v O' ⟨rfl, rfl⟩)
    | (refine ⟨_, hjoin k el (by (simp only [zz] at *; omega)) hk hel, ?_⟩; rintro v O' ⟨rfl, rfl⟩)
    | (refine ⟨_, join_d0 rfl _, ?_⟩; rintro v O' ⟨rfl, rfl⟩)
    | intro _)
 all_goals first
  | rfl
  | omega
  | (simp only [zz] at *; omega)
  | exact txtE (p := ([], 0)) (hnil (by (simp only [zz] at *; omega)))
  | exact txtE (p := (_, 0)) (txt_all fun i hi => h0 i (by (simp only [zz] at *; omega)))
  | (rename_i hz; exact txtE (p := ([], _)) (txt_at (k := 0) (by (simp only [zz] at *; omega)) h0 (by simpa using hz)))
  | (rename_i hz; exact txtE (p := ([], _)) (txt_at (k := k) (by (simp only [zz] at *; omega)) h0 (by simpa using hz)))
  | (rename_i hz; exact ⟨0 + 1, by (simp only [zz] at *; omega), stepK h0 (by simpa using hz), .inr ⟨_, by omega, by rw [take_snoc (by (simp only [zz] at *; omega))]; exact LElA.one rfl rfl, rfl, rfl⟩⟩)
  | (rename_i hz; exact ⟨k + 1, by (simp only [zz] at *; omega), stepK h0 (by simpa using hz), .inr ⟨_, by omega, by rw [take_snoc (by (simp only [zz] at *; omega))]; exact hel.snoc rfl rfl, rfl, rfl⟩⟩)
noncomputable def sameT (x y : Tok) : Bool := x.kind == y.kind && beqL x.text y.text
theorem Same1_d (x y : Tok) : DSpec Tryd.prog axX axG 18 [.agg (tokS x), .agg (tokS y)] [] (fun v O => v = ab (sameT x y) ∧ O = []) := by
 refine dspec_of { glb := axG } true Tryd.func18 (by kernel_rfl) rfl ?_
 repeat' (
   (conv => whnf)
   first
    | exact closedB (by kernel_rfl)
    | refine And.intro ?_ ?_
    | refine splitB_intro ?_ ?_
    | intro _)
 all_goals first
  | rfl
  | (rename_i h; exact congrArg ab (by unfold sameT; rw [h]; rfl))
noncomputable def sameB : List Tok → List Tok → Bool
 | [], [] => true
 | x :: a, y :: b => sameT x y && sameB a b
 | [], _ :: _ => false
 | _ :: _, [] => false
theorem sameB_len : ∀ {a b : List Tok}, a.length ≠ b.length → sameB a b = false
 | [], [], h => absurd rfl h
 | x :: a, y :: b, h => by
  show (sameT x y && sameB a b) = false
  rw [sameB_len (a := a) (b := b) (by simpa using h), Bool.and_false]
 | [], _ :: _, _ => rfl
 | _ :: _, [], _ => rfl
theorem sameB_at : ∀ {a b : List Tok} {k : Nat}, k < a.length → a.length = b.length → sameT (a.getD k default) (b.getD k default) = false → sameB a b = false
 | [], _, k, hk, _, _ => by simp at hk
 | x :: a, [], k, _, h, _ => by simp at h
 | x :: a, y :: b, 0, hk, _, h => by
  have h : sameT x y = false := h
  show (sameT x y && sameB a b) = false
  rw [h]; rfl
 | x :: a, y :: b, k + 1, hk, hl, h => by
  show (sameT x y && sameB a b) = false
  rw [sameB_at (a := a) (b := b) (k := k) (by simpa using hk) (by simpa using hl) h, Bool.and_false]
theorem sameB_all : ∀ {a b : List Tok}, a.length = b.length → (∀ i, i < a.length → sameT (a.getD i default) (b.getD i default) = true) → sameB a b = true
 | [], [], _, _ => rfl
 | x :: a, y :: b, hl, h => by
  have h0 : sameT x y = true := h 0 (by simp)
  show (sameT x y && sameB a b) = true
  rw [h0, sameB_all (a := a) (b := b) (by simpa using hl) fun i hi => h (i + 1) (by simpa using hi)]; rfl
 | [], _ :: _, h, _ => by simp at h
 | _ :: _, [], h, _ => by simp at h
theorem EqF_d (a b : List Tok) (ha : a.length ≤ 1000000) : DSpec Tryd.prog axX axG 17 [.isl 3 a.length (elF tokS a), .isl 3 b.length (elF tokS b), .fn 18 [] []] [] (fun v O => v = ab (sameB a b) ∧ O = []) := by
 refine dspec_of { glb := axG, ann := [(4, [17])] } true Tryd.func17 (by kernel_rfl) rfl ?_
 repeat' (
   (conv => whnf)
   first
    | exact closedB (by kernel_rfl)
    | refine And.intro ?_ ?_
    | refine splitB_intro ?_ ?_
    | ((refine ⟨fun vs O _ => ∃ k : Nat, k ≤ a.length ∧ (∀ i, i < k → sameT (a.getD i default) (b.getD i default) = true) ∧ vs = [ai k] ∧ O = [], fun vs O => match vs with | [.cv (.int _ k)] => a.length - k.toNat | _ => 0, ⟨0, Nat.zero_le _, fun i hi => absurd hi (by omega), rfl, rfl⟩, ?_⟩; rintro vs O _ ⟨k, hk, h0, rfl, rfl⟩))
    | (refine ⟨_, Same1_d (a.getD k default) (b.getD k default), ?_⟩; rintro v O' ⟨rfl, rfl⟩)
    | intro _)
 all_goals first
  | rfl
  | omega
  | (simp only [zz] at *; omega)
  | exact congrArg ab (sameB_len (by (simp only [zz] at *; omega))).symm
  | exact congrArg ab (sameB_at (k := k) (by (simp only [zz] at *; omega)) (by (simp only [zz] at *; omega)) (by ((try (refine congrArg (fun b => SV.cv (CV.bool b)) ?_)); (try rw [Bool.eq_iff_iff]); simp only [zz] at *; first | done | omega))).symm
  | exact congrArg ab (sameB_all (by (simp only [zz] at *; omega)) fun i hi => h0 i (by (simp only [zz] at *; omega))).symm
  | (rename_i hz; exact ⟨k + 1, by (simp only [zz] at *; omega), fun i hi => by rcases Nat.lt_succ_iff_lt_or_eq.1 hi with h | rfl; exact h0 _ h; simpa using hz, rfl, rfl⟩)
theorem Same_d (a b : List Tok) (ha : a.length ≤ 1000000) : DSpec Tryd.prog axX axG 8 [.isl 3 a.length (elF tokS a), .isl 3 b.length (elF tokS b)] [] (fun v O => v = ab (sameB a b) ∧ O = []) := by
 refine dspec_of { glb := axG } true Tryd.func8 (by kernel_rfl) rfl ?_
 repeat' (
   (conv => whnf)
   first
    | exact closedB (by kernel_rfl)
    | refine And.intro ?_ ?_
    | refine splitB_intro ?_ ?_
    | (refine ⟨_, EqF_d a b ha, ?_⟩; rintro v O' ⟨rfl, rfl⟩)
    | intro _)
 all_goals first
  | rfl
end Go.Proofs.YtkjdghlefdmjaaaDoor
