import Derived.Test.YtkjdghlefdmjaaaDoorTj
import Derived.Test.YtkjdghlefdmjaaaDoorTe
set_option linter.unusedSimpArgs false
set_option linter.unusedVariables false
set_option maxRecDepth 100000
namespace Go.Proofs.YtkjdghlefdmjaaaDoor
open Go Go.Cx
theorem sameT_1 {x y : Tok} (h : (x.kind != y.kind) = true) : sameT x y = false := by
 unfold sameT; rw [bne_iff_ne] at h; rw [beq_eq_false_iff_ne.2 h]; rfl
theorem sameT_2 {x y : Tok} (h : (!beqL x.text y.text) = true) : sameT x y = false := by
 unfold sameT
 cases hb : beqL x.text y.text with
 | true => rw [hb] at h; cases h
 | false => exact Bool.and_false _
theorem sameT_3 {x y : Tok} (h : (x.kind != y.kind) = false) (h2 : (!beqL x.text y.text) = false) : sameT x y = true := by
 unfold sameT
 have : x.kind = y.kind := by simpa using h
 cases hb : beqL x.text y.text with
 | true => rw [this]; simp
 | false => rw [hb] at h2; cases h2
theorem stepT {a b : List Tok} {k : Nat} (h0 : ∀ i, i < k → sameT (a.getD i default) (b.getD i default) = true) (h : ((a.getD k default).kind != (b.getD k default).kind) = false) (h2 : (!beqL (a.getD k default).text (b.getD k default).text) = false) : ∀ i, i < k + 1 → sameT (a.getD i default) (b.getD i default) = true := fun i hi => by
 rcases Nat.lt_succ_iff_lt_or_eq.1 hi with h1 | rfl
 ·exact h0 _ h1
 ·exact sameT_3 h h2
theorem rSame_d (a b : List Tok) (ha : a.length ≤ 1000000) : DSpec Tryd.prog axX axG 9 [.isl 3 a.length (elF tokS a), .isl 3 b.length (elF tokS b)] [] (fun v O => v = ab (sameB a b) ∧ O = []) := by
 refine dspec_of { glb := axG, ann := [(4, [5])] } true Tryd.func9 (by kernel_rfl) rfl ?_
 repeat' (
   (conv => whnf)
   first
    | exact closedB (by kernel_rfl)
    | refine And.intro ?_ ?_
    | refine splitB_intro ?_ ?_
    | ((refine ⟨fun vs O _ => ∃ k : Nat, k ≤ a.length ∧ (∀ i, i < k → sameT (a.getD i default) (b.getD i default) = true) ∧ vs = [ai k] ∧ O = [], fun vs O => match vs with | [.cv (.int _ k)] => a.length - k.toNat | _ => 0, ⟨0, Nat.zero_le _, fun i hi => absurd hi (by omega), rfl, rfl⟩, ?_⟩; rintro vs O _ ⟨k, hk, h0, rfl, rfl⟩))
    | intro _)
 all_goals first
  | rfl
  | omega
  | (simp only [zz] at *; omega)
  | exact congrArg ab (sameB_len (by (simp only [zz] at *; omega))).symm
  | exact congrArg ab (sameB_all (by (simp only [zz] at *; omega)) fun i hi => h0 i (by (simp only [zz] at *; omega))).symm
  | (rename_i hz; exact congrArg ab (sameB_at (k := k) (by (simp only [zz] at *; omega)) (by (simp only [zz] at *; omega)) (sameT_1 hz)).symm)
  | (rename_i hz; exact congrArg ab (sameB_at (k := k) (by (simp only [zz] at *; omega)) (by (simp only [zz] at *; omega)) (sameT_2 hz)).symm)
  | (rename_i hz hy; exact ⟨k + 1, by (simp only [zz] at *; omega), stepT h0 hz hy, rfl, rfl⟩)
noncomputable def fewB (l : List Tok) : Bool := decide (l.length ≤ 20) && l.all fun t => decide (t.text.length ≤ 60)
theorem few_out {l : List Tok} {k : Nat} (hk : k < l.length) (h : 60 < (l.getD k default).text.length) : fewB l = false := by
 unfold fewB
 have : (l.all fun t => decide (t.text.length ≤ 60)) = false := by
  rw [Bool.eq_false_iff, Ne, List.all_eq_true]
  intro hh
  have := hh _ (getD_mem hk)
  rw [decide_eq_true_eq] at this; omega
 rw [this, Bool.and_false]
theorem few_many {l : List Tok} (h : ¬ l.length ≤ 20) : fewB l = false := by
 unfold fewB; rw [decide_eq_false h]; rfl
theorem few_yes {l : List Tok} (h : l.length ≤ 20) (h0 : ∀ i, i < l.length → (l.getD i default).text.length ≤ 60) : fewB l = true := by
 unfold fewB
 rw [decide_eq_true h, Bool.true_and, List.all_eq_true]
 intro t ht
 obtain ⟨i, hi, rfl⟩ := List.mem_iff_getElem.1 ht
 have := h0 i hi
 rw [List.getD_eq_getElem?_getD, List.getElem?_eq_getElem hi] at this
 simpa using this
theorem stepW {l : List Tok} {k : Nat} (h0 : ∀ i, i < k → (l.getD i default).text.length ≤ 60) (h : ¬ ((l.getD k default).text.length : Int) > 60) : ∀ i, i < k + 1 → (l.getD i default).text.length ≤ 60 := fun i hi => by
 rcases Nat.lt_succ_iff_lt_or_eq.1 hi with h1 | rfl
 ·exact h0 _ h1
 ·omega
theorem few_end {l : List Tok} {k : Nat} (hk : k ≤ l.length) (hk2 : k ≤ 21) (h0 : ∀ i, i < k → (l.getD i default).text.length ≤ 60) (he : k = l.length ∨ 21 ≤ k) : fewB l = decide ((l.length : Int) ≤ 20) := by
 by_cases h : l.length ≤ 20
 ·rw [few_yes h fun i hi => h0 i (by omega), decide_eq_true (by omega)]
 ·rw [few_many h, decide_eq_false (by omega)]
theorem few_d (l : List Tok) (hl : l.length ≤ 9223372036854775807) : DSpec Tryd.prog axX axG 4 [.isl 3 l.length (elF tokS l)] [] (fun v O => v = ab (fewB l) ∧ O = []) := by
 refine dspec_of { glb := axG, ann := [(2, [3])] } true Tryd.func4 (by kernel_rfl) rfl ?_
 repeat' (
   (conv => whnf)
   first
    | exact closedB (by kernel_rfl)
    | refine And.intro ?_ ?_
    | refine splitB_intro ?_ ?_
    | ((refine ⟨fun vs O _ => ∃ k : Nat, k ≤ l.length ∧ k ≤ 21 ∧ (∀ i, i < k → (l.getD i default).text.length ≤ 60) ∧ vs = [ai k] ∧ O = [], fun vs O => match vs with | [.cv (.int _ k)] => l.length - k.toNat | _ => 0, ⟨0, Nat.zero_le _, by decide, fun i hi => absurd hi (by omega), rfl, rfl⟩, ?_⟩; rintro vs O _ ⟨k, hk, hk2, h0, rfl, rfl⟩))
    | intro _)
 all_goals first
  | rfl
  | omega
  | (simp only [zz] at *; omega)
  | (rename_i hz; exact congrArg ab (few_out (k := k) (by (simp only [zz] at *; omega)) (by have := of_decide_eq_true hz; show 60 < (l.getD k default).text.length; have h : ((l.getD k default).text.length : Int) > 60 := this; omega)).symm)
  | (rename_i hz; exact ⟨k + 1, by (simp only [zz] at *; omega), by (simp only [zz] at *; omega), stepW h0 (of_decide_eq_false hz), rfl, rfl⟩)
  | exact congrArg ab (few_end hk hk2 h0 (by (simp only [zz] at *; omega))).symm
  | exact congrArg ab (few_end hk hk2 h0 (by (simp only [zz] at *; omega)))
theorem joinL_snoc (sep : List Nat) : ∀ (l : List (List Nat)) (x : List Nat), l ≠ [] → joinL sep (l ++ [x]) = (joinL sep l ++ sep) ++ x
 | [], _, h => absurd rfl h
 | [a], x, _ => by show a ++ (sep ++ x) = (a ++ sep) ++ x; rw [List.append_assoc]
 | a :: b :: r, x, _ => by
  have ih := joinL_snoc sep (b :: r) x (by simp)
  show a ++ (sep ++ joinL sep ((b :: r) ++ [x])) = ((a ++ (sep ++ joinL sep (b :: r))) ++ sep) ++ x
  rw [ih]; simp only [List.append_assoc]
theorem join_step {l : List Tok} {k : Nat} (hk : k < l.length) (h0 : 0 < k) : joinL [32] ((l.take (k + 1)).map Tok.text) = (joinL [32] ((l.take k).map Tok.text) ++ [32]) ++ (l.getD k default).text := by
 rw [take_snoc hk, List.map_append, List.map_cons, List.map_nil]
 refine joinL_snoc _ _ _ fun h => ?_
 have := congrArg List.length h
 rw [List.length_map, List.length_take] at this
 simp only [List.length_nil] at this; omega
theorem join_first {l : List Tok} (hk : 0 < l.length) : joinL [32] ((l.take (0 + 1)).map Tok.text) = (l.getD 0 default).text := by
 rw [take_snoc hk]; rfl
theorem join_len {l : List Tok} (ht : ∀ t ∈ l, t.text.length ≤ 60) : ∀ k, k ≤ l.length → (joinL [32] ((l.take k).map Tok.text)).length ≤ k * 61
 | 0, _ => by simp [joinL]
 | k + 1, hk => by
  have h1 := ht _ (getD_mem (l := l) (k := k) (by omega))
  rcases Nat.lt_or_ge 0 k with h | h
  ·rw [join_step (by omega) h, List.length_append, List.length_append]
   have := join_len ht k (by omega)
   show _ + 1 + _ ≤ _
   omega
  ·obtain rfl : k = 0 := by omega
   rw [join_first (by omega)]; omega
theorem rText_d (l : List Tok) (hl : l.length ≤ 20) (ht : ∀ t ∈ l, t.text.length ≤ 60) : DSpec Tryd.prog axX axG 7 [.isl 3 l.length (elF tokS l)] [] (fun v O => v = txtS (txt l) ∧ O = []) := by
 refine dspec_of { glb := axG, ann := [(3, [5, 4])] } true Tryd.func7 (by kernel_rfl) rfl ?_
 repeat' (
   (conv => whnf)
   first
    | exact closedB (by kernel_rfl)
    | refine And.intro ?_ ?_
    | refine splitB_intro ?_ ?_
    | ((refine ⟨fun vs O _ => ∃ k : Nat, k ≤ l.length ∧ (∀ i, i < k → chkT (l.getD i default) = 0) ∧ vs = [ai k, .cv (.str (joinL [32] ((l.take k).map Tok.text)))] ∧ O = [], fun vs O => match vs with | [.cv (.int _ k), _] => l.length - k.toNat | _ => 0, ⟨0, Nat.zero_le _, fun i hi => absurd hi (by omega), rfl, rfl⟩, ?_⟩; rintro vs O _ ⟨k, hk, h0, rfl, rfl⟩))
    | (refine ⟨_, rCheck_d (l.getD _ default) (Nat.le_trans (ht _ (getD_mem (by (simp only [zz] at *; omega)))) (by decide)), ?_⟩; rintro v O' ⟨rfl, rfl⟩)
    | intro _)
 all_goals try have hb := join_len ht k hk
 all_goals try have hb2 := ht _ (getD_mem (l := l) (k := k) (by (simp only [zz] at *; omega)))
 all_goals first
  | rfl
  | omega
  | (simp only [zz] at *; omega)
  | (show _ + 1 ≤ 1000000; omega)
  | (rw [List.length_append]; show _ + 1 + (l.getD k default).text.length ≤ 1000000; omega)
  | (show _ + (l.getD k default).text.length ≤ 1000000; omega)
  | (exact txtE (p := (_, 0)) ((txt_all fun i hi => h0 i (by (simp only [zz] at *; omega))).trans (by rw [List.take_of_length_le (by (simp only [zz] at *; omega))])))
  | (rename_i hz; exact txtE (p := ([], _)) (txt_at (k := k) (by (simp only [zz] at *; omega)) h0 (by simpa using hz)))
  | (rename_i hz hp; exact ⟨k + 1, by (simp only [zz] at *; omega), stepK h0 (by simpa using hz), congrArg (fun x => [ai ((k : Int) + 1), SV.cv (.str x)]) (join_step (by (simp only [zz] at *; omega)) (by (simp only [zz] at *; omega))).symm, rfl⟩)
  | (rename_i hz hp; obtain rfl : k = 0 := by (simp only [zz] at *; omega)
     exact ⟨0 + 1, by (simp only [zz] at *; omega), stepK h0 (by simpa using hz), congrArg (fun x => [ai ((0 : Int) + 1), SV.cv (.str x)]) (join_first (by (simp only [zz] at *; omega))).symm, rfl⟩)
end Go.Proofs.YtkjdghlefdmjaaaDoor
