import Derived.Test.YtkjdghlefdmjaaaDoorTi
set_option linter.unusedSimpArgs false
set_option linter.unusedVariables false
set_option maxRecDepth 100000
namespace Go.Proofs.YtkjdghlefdmjaaaDoor
open Go Go.Cx
theorem sgs_head : ∀ x ∈ sgs, x ≠ [] ∧ cls ((x.headD 0 % 256 : Nat) : Int) ≠ 5 := by decide
theorem sg_head {s : List Nat} (h : 0 < s.length) (h5 : cls (gbN s 0) = 5) : sgLen s = 0 := by
 unfold sgLen
 split
 ·rename_i x hx
  exfalso
  have h1 := List.find?_some hx
  have h2 := sgs_head x (List.mem_of_find?_eq_some hx)
  simp only [isPre, Bool.and_eq_true, decide_eq_true_eq] at h1
  have hb := h1.2
  rw [beqL_eq, beq_iff_eq] at hb
  have hb2 := congrArg List.head? hb
  obtain ⟨c, r, rfl⟩ : ∃ c r, s = c :: r := by cases s with
   | nil => simp at h
   | cons c r => exact ⟨c, r, rfl⟩
  cases x with
  | nil => exact h2.1 rfl
  | cons a q =>
   have hb3 : UInt8.ofNat c = UInt8.ofNat a := Option.some.inj hb2
   have hb4 : c % 256 = a % 256 := by have := congrArg UInt8.toNat hb3; simpa using this
   have hg : gbN (c :: r) 0 = ((c % 256 : Nat) : Int) := rfl
   rw [hg, hb4] at h5
   exact h2.2 h5
 ·rfl
theorem whole_rb {t t' : Tok} (h : 0 < t.text.length) (hr : RB t.text t') : wholeB t = (t'.kind == t.kind && beqL t'.text t.text) := by
 have hnil : (beg t.text).1 = 0 → (t'.kind == t.kind && beqL t'.text t.text) = false := fun hb => by
  rw [hr.no hb]
  have : beqL [] t.text = false := by
   rw [beqL_eq]
   cases ht : t.text with
   | nil => rw [ht] at h; simp at h
   | cons a r => rfl
  rw [this, Bool.and_false]
 have h0 : (0 : Nat) ≤ t.text.length := Nat.zero_le _
 have hd : t.text.drop 0 = t.text := List.drop_zero
 by_cases h5 : cls (gbN t.text 0) = 5
 ·have hb : (beg t.text).1 = 0 := by
   rw [beg_4 (by rw [head0 h, h5]; decide), sg_head h h5]; rfl
  rw [hnil hb]
  have hp : 0 < rl 5 t.text := rl_pos h (by rw [head0 h]; exact h5)
  by_cases hl : 0 + rl 5 (t.text.drop 0) = t.text.length
  ·exact whole_no (.inl (by have := nxt_end h0 hl; rw [Int.natCast_zero] at this; rw [this]; show ¬ (5 : Int) = 0; decide))
  ·by_cases hz : (beg (t.text.drop (0 + rl 5 (t.text.drop 0)))).1 = 0
   ·exact whole_no (.inl (by have := nxt_none h0 hl hz; rw [Int.natCast_zero] at this; rw [this]; show ¬ (3 : Int) = 0; decide))
   ·exact whole_no (.inr (.inl (by have := nxt_some h0 hl hz; rw [Int.natCast_zero] at this; rw [this]; show ((0 + rl 5 (t.text.drop 0) : Nat) : Int) ≠ 0; rw [hd]; omega)))
 ·have hr0 : rl 5 (t.text.drop 0) = 0 := by rw [rl_drop 5 _ 0 h, if_neg (show ¬ cls (gbN t.text (0 : Nat)) = 5 from h5)]
  have hl : 0 + rl 5 (t.text.drop 0) ≠ t.text.length := by omega
  by_cases hb : (beg t.text).1 = 0
  ·rw [hnil hb]
   exact whole_no (.inl (by have := nxt_none h0 hl (by rw [hr0]; exact hb); rw [Int.natCast_zero] at this; rw [this]; show ¬ (3 : Int) = 0; decide))
  ·have hn := nxt_some h0 hl (by rw [hr0]; exact hb)
   rw [Int.natCast_zero, hr0] at hn
   obtain ⟨k1, k2⟩ := hr.yes hb
   have hle := beg_le t.text h
   have hbq : beqL t'.text t.text = ((beg t.text).2 == t.text.length) := by
    rw [beqL_eq] at k2 ⊢
    rw [beq_iff_eq] at k2
    rw [k2, Bool.eq_iff_iff, beq_iff_eq, beq_iff_eq]
    constructor
    ·intro hh
     have := congrArg List.length hh
     rw [List.length_map, List.length_map, List.length_take] at this; omega
    ·intro hh
     rw [hh, List.take_length]
   unfold wholeB
   rw [hn, k1, hbq]
   show ((0 : Int) == 0 && (((0 + 0 : Nat) : Int) == 0 && (((0 + 0 : Nat) : Int) + (beg (t.text.drop (0 + 0))).2 == (t.text.length : Int) && (beg (t.text.drop (0 + 0))).1 == t.kind))) = _
   rw [hd]
   rw [Bool.eq_iff_iff]
   simp only [Bool.and_eq_true, beq_iff_eq]
   constructor
   ·rintro ⟨_, _, h3, h4⟩; exact ⟨h4, by omega⟩
   ·rintro ⟨h4, h3⟩; exact ⟨trivial, rfl, by omega, h4⟩
theorem rbE1 {a b : Int} {c : Bool} (h : (a != b) = true) : (a == b && c) = false := by
 rw [bne_iff_ne] at h
 rw [beq_eq_false_iff_ne.2 h]; rfl
theorem rbE2 {a b : Int} {c : Bool} (h : (!c) = true) : (a == b && c) = false := by
 cases c with
 | true => cases h
 | false => exact Bool.and_false _
theorem rbE3 {a b : Int} {c : Bool} (h : (a != b) = false) (hc : (!c) = false) : (a == b && c) = true := by
 cases c with
 | true =>
  have : a = b := by simpa using h
  rw [this]; simp
 | false => cases hc
theorem rCheck_d (t : Tok) (hs : t.text.length ≤ 1000000) : DSpec Tryd.prog axX axG 14 [.agg (tokS t)] [] (fun v O => v = .cv (.int .i64 (chkT t)) ∧ O = []) := by
 have hne : beqL t.text [] = false → 0 < t.text.length := fun h => by
  cases ht : t.text with
  | nil => rw [ht] at h; cases h
  | cons a r => simp
 have hem : beqL t.text [] = true → wholeB t = false := fun h => by
  have : t.text = [] := by
   cases ht : t.text with
   | nil => rfl
   | cons a r => rw [ht] at h; cases h
  exact whole_no (.inl (by rw [this]; decide +kernel))
 refine dspec_of { glb := axG } true Tryd.func14 (by kernel_rfl) rfl ?_
 repeat' (
   (conv => whnf)
   first
    | exact closedB (by kernel_rfl)
    | refine And.intro ?_ ?_
    | refine splitB_intro ?_ ?_
    | (refine ⟨_, begins_d t.text (hne (by assumption)) hs, ?_⟩; rintro v O' ⟨t', rfl, rfl, hr⟩)
    | intro _)
 all_goals first
  | rfl
  | omega
  | (simp only [zz] at *; omega)
  | (exfalso; (simp only [zz] at *; omega))
  | exact congrArg (fun x => SV.cv (.int .i64 x)) (chkT_kind (by (simp only [zz] at *; omega))).symm
  | exact congrArg (fun x => SV.cv (.int .i64 x)) (chkT_form (by (simp only [zz] at *; omega)) (hem (by assumption))).symm
  | (rename_i hz; exact congrArg (fun x => SV.cv (.int .i64 x)) (chkT_form (by (simp only [zz] at *; omega)) ((whole_rb (hne (by assumption)) hr).trans (rbE1 hz))).symm)
  | (rename_i hk hz; exact congrArg (fun x => SV.cv (.int .i64 x)) (chkT_form (by (simp only [zz] at *; omega)) ((whole_rb (hne (by assumption)) hr).trans (rbE2 hz))).symm)
  | (rename_i hk hz hp; exact congrArg (fun x => SV.cv (.int .i64 x)) (chkT_neg (by (simp only [zz] at *; omega)) ((whole_rb (hne (by assumption)) hr).trans (rbE3 hk hz)) (by (simp only [zz] at *; omega))).symm)
  | (rename_i hk hz hp; exact congrArg (fun x => SV.cv (.int .i64 x)) (chkT_ok (by (simp only [zz] at *; omega)) ((whole_rb (hne (by assumption)) hr).trans (rbE3 hk hz)) (by (simp only [zz] at *; omega))).symm)
end Go.Proofs.YtkjdghlefdmjaaaDoor
