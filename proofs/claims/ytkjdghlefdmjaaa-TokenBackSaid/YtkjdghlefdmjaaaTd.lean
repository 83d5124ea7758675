import Derived.Test.YtkjdghlefdmjaaaTc
set_option linter.unusedSimpArgs false
set_option linter.unusedVariables false
set_option maxRecDepth 100000
namespace Go.Proofs.Ytkjdghlefdmjaaa
open Go Go.Cx
theorem nxt_flt {s : List Nat} {i : Int} (h : (nxt s i).2.2.err = 0) : (nxt s i).2.2 = flt0 := by
 revert h; unfold nxt
 split
 ·intro h; simp at h
 ·simp only
  split
  ·intro h; simp at h
  ·split
   ·intro h; simp at h
   ·intro _; rfl
theorem nxt_tok {s : List Nat} {i : Int} (h : (nxt s i).2.2.err ≠ 0) : (nxt s i).1 = tok0 := by
 revert h; unfold nxt
 split
 ·intro _; rfl
 ·simp only
  split
  ·intro _; rfl
  ·split
   ·intro _; rfl
   ·intro h; exact absurd rfl h
noncomputable def ysK (s : List Nat) : Nat → Option (List SV) := fun n =>
 if n < (toksAt s 0).1.length then some [.agg (tokS ((toksAt s 0).1.getD n default)), .agg (fltS flt0)]
 else if n = (toksAt s 0).1.length then some [.agg (tokS tok0), .agg (fltS (toksAt s 0).2)] else none
theorem ysK_some {s : List Nat} {n : Nat} {vs : List SV} (h : ysK s n = some vs) : (n < (toksAt s 0).1.length ∧ vs = [.agg (tokS ((toksAt s 0).1.getD n default)), .agg (fltS flt0)]) ∨ (n = (toksAt s 0).1.length ∧ vs = [.agg (tokS tok0), .agg (fltS (toksAt s 0).2)]) := by
 unfold ysK at h
 split at h
 ·cases h; exact .inl ⟨by assumption, rfl⟩
 ·split at h
  ·cases h; exact .inr ⟨by assumption, rfl⟩
  ·cases h
def Sfx (s : List Nat) (n : Nat) (i : Int) : Prop := n ≤ (toksAt s 0).1.length ∧ toksAt s i = ((toksAt s 0).1.drop n, (toksAt s 0).2)
theorem Sfx.zero (s : List Nat) : Sfx s 0 0 := ⟨Nat.zero_le _, rfl⟩
section
variable {s : List Nat} {n : Nat} {i : Int}
theorem Sfx.more (h : Sfx s n i) (h0 : 0 ≤ i) (h1 : i ≤ s.length) (he : (nxt s i).2.2.err = 0) : n < (toksAt s 0).1.length ∧ (toksAt s 0).1.getD n default = (nxt s i).1 ∧ Sfx s (n + 1) (nxt s i).2.1 := by
 have hs := toksAt_step h0 h1
 rw [if_pos he, h.2] at hs
 have h2 : (toksAt s 0).1.drop n = (nxt s i).1 :: (toksAt s (nxt s i).2.1).1 := (Prod.ext_iff.1 hs).1
 have h3 : (toksAt s 0).2 = (toksAt s (nxt s i).2.1).2 := (Prod.ext_iff.1 hs).2
 have hl : n < (toksAt s 0).1.length := by
  rcases Nat.lt_or_ge n (toksAt s 0).1.length with hl | hl
  ·exact hl
  ·rw [List.drop_eq_nil_of_le hl] at h2; cases h2
 rw [List.drop_eq_getElem_cons hl] at h2
 refine ⟨hl, ?_, hl, ?_⟩
 ·rw [List.getD_eq_getElem?_getD, List.getElem?_eq_getElem hl]; exact (List.cons.inj h2).1
 ·rw [(List.cons.inj h2).2, h3]
theorem Sfx.last (h : Sfx s n i) (h0 : 0 ≤ i) (h1 : i ≤ s.length) (he : (nxt s i).2.2.err ≠ 0) : n = (toksAt s 0).1.length ∧ (toksAt s 0).2 = (nxt s i).2.2 := by
 have hs := toksAt_step h0 h1
 rw [if_neg he, h.2] at hs
 have h2 : (toksAt s 0).1.drop n = [] := congrArg Prod.fst hs
 have h3 : (toksAt s 0).2 = (nxt s i).2.2 := congrArg Prod.snd hs
 have := List.drop_eq_nil_iff.1 h2
 exact ⟨by have := h.1; omega, h3⟩
theorem Sfx.yields (h : Sfx s n i) (h0 : 0 ≤ i) (h1 : i ≤ s.length) : ysK s n = some [.agg (tokS (nxt s i).1), .agg (fltS (nxt s i).2.2)] := by
 unfold ysK
 by_cases he : (nxt s i).2.2.err = 0
 ·obtain ⟨h2, h3, _⟩ := h.more h0 h1 he
  rw [if_pos h2, h3, nxt_flt he]
 ·obtain ⟨h2, h3⟩ := h.last h0 h1 he
  rw [if_neg (by omega), if_pos h2, h3, nxt_tok he]
end
theorem tokens1_d (s : List Nat) (hs : s.length ≤ 1000000) :
  DIter Try.prog axX axG 16 (fun l => [.cv (.yld l), .ipt [.cv (.str s)] 0]) (ysK s) (fun g v => v = .tup [] ∧ (g.st = false → g.n = (toksAt s 0).1.length + 1)) := by
 refine diter_of { glb := axG, ann := [(1, [3])] } Try.func16 (by kernel_rfl) rfl fun l => ?_
 repeat' (
   (conv => whnf)
   first
    | exact closedB (by kernel_rfl)
    | refine And.intro ?_ ?_
    | refine splitB_intro ?_ ?_
    | ((refine ⟨fun vs O g => ∃ (n : Nat) (i : Int), 0 ≤ i ∧ i ≤ s.length ∧ Sfx s n i ∧ vs = [ai i] ∧ O = [] ∧ g = ⟨n, false⟩, fun vs O => match vs with | [.cv (.int _ k)] => s.length - k.toNat | _ => 0, ⟨0, 0, Int.le_refl _, by omega, Sfx.zero s, rfl, rfl, rfl⟩, ?_⟩; rintro vs O g ⟨n, i, h0, h1, hS, rfl, rfl, rfl⟩))
    | (refine ⟨_, Next_d s _ hs, ?_⟩; rintro v O' ⟨rfl, rfl⟩)
    | intro _)
 all_goals try have hm := hS.more h0 h1
 all_goals try have hl := hS.last h0 h1
 all_goals try have hn := nxt_next (s := s) (i := i)
 all_goals first
  | rfl
  | omega
  | (simp only [zz] at *; omega)
  | exact stt (by assumption)
  | (rename_i hh; cases hh; done)
  | exact hS.yields h0 h1
  | (have hz : (nxt s i).2.2.err = 0 := by (simp only [zz] at *; omega)
     exact ⟨n + 1, _, by have := hn hz; omega, by have := hn hz; omega, (hm hz).2.2, rfl, rfl, rfl⟩)
  | (have hz : (nxt s i).2.2.err = 0 := by (simp only [zz] at *; omega)
     have := hn hz; (try dsimp only); omega)
  | (have hz : (nxt s i).2.2.err ≠ 0 := by (simp only [zz] at *; omega)
     have := (hl hz).1; (try dsimp only); omega)
theorem tokens_d (s : List Nat) : DSpec Try.prog axX axG 11 [.cv (.str s)] [] (fun v O => v = .fn 16 [] [.ipt [.cv (.str s)] 0] ∧ O = []) := by
 refine dspec_of { glb := axG } true Try.func11 (by kernel_rfl) rfl ?_
 repeat' (
   (conv => whnf)
   first
    | exact closedB (by kernel_rfl)
    | refine And.intro ?_ ?_
    | refine splitB_intro ?_ ?_
    | intro _)
 all_goals rfl
def toksS (p : List Tok × Flt) : SV := .tup [.isl 3 p.1.length (elF tokS p.1), .agg (fltS p.2)]
theorem toks_long {s : List Nat} (h : 400 < s.length) : toks s = ([], ⟨4, 400⟩) := if_pos h
theorem toks_ok {s : List Nat} (h : ¬ 400 < s.length) (he : (toksAt s 0).2.err = 5) : toks s = ((toksAt s 0).1, flt0) := by unfold toks; rw [if_neg h, if_pos he]
theorem toks_bad {s : List Nat} (h : ¬ 400 < s.length) (he : (toksAt s 0).2.err ≠ 5) : toks s = ([], (toksAt s 0).2) := by unfold toks; rw [if_neg h, if_neg he]
theorem toksAt_nz (s : List Nat) : (toksAt s 0).2.err ≠ 0 := toksF_nz s _ 0 (by omega) (by omega) (by omega)
theorem toksAt_len (s : List Nat) : (toksAt s 0).1.length ≤ s.length + 1 := Nat.le_trans (toksF_len s _ 0) (by omega)
theorem take_snoc {A : Type} [Inhabited A] {l : List A} {j : Nat} (h : j < l.length) : l.take (j + 1) = l.take j ++ [l.getD j default] := by
 rw [List.take_add_one, List.getD_eq_getElem?_getD, List.getElem?_eq_getElem h]; rfl
theorem same_bad {f f' : Flt} {p : List Tok × Flt} (h : p = ([], f)) : Same (.tup [.cv .nils, .agg (fltS f)]) (toksS p) := by
 rw [h]; exact .tup (.cons .nils (.cons (.refl _) .nil))
theorem same_nil {l : List Tok} {f : Flt} {p : List Tok × Flt} (h : p = (l, f)) (hl : l.length = 0) : Same (.tup [.cv .nils, .agg (fltS f)]) (toksS p) := by
 rw [List.length_eq_zero_iff.1 hl] at h
 rw [h]; exact .tup (.cons .nils (.cons (.refl _) .nil))
theorem same_lst {l : List Tok} {f : Flt} {p : List Tok × Flt} {j m : Nat} {el : Nat → List SV} (h : p = (l, f)) (hl : l.length = j) (hj : LElA tokS (l.take j) m el) : Same (.tup [.isl 3 m el, .agg (fltS f)]) (toksS p) := by
 subst hl
 rw [List.take_length] at hj
 rw [h]; exact .tup (.cons hj.same (.cons (.refl _) .nil))
theorem Tokens_d (s : List Nat) (hs : s.length ≤ 1000000) : DSpec Try.prog axX axG 5 [.cv (.str s)] [] (fun v O => v = toksS (toks s) ∧ O = []) := by
 refine DSpec.same (post := fun v O => Same v (toksS (toks s)) ∧ O = []) ?_ fun v O h => ⟨_, h.1, rfl, h.2⟩
 refine dspec_of { glb := axG } true Try.func5 (by kernel_rfl) rfl ?_
 repeat' (
   (conv => whnf)
   first
    | exact closedB (by kernel_rfl)
    | refine And.intro ?_ ?_
    | refine splitB_intro ?_ ?_
    | (refine ⟨_, tokens_d s, ?_⟩; rintro v O' ⟨rfl, rfl⟩)
    | ((refine ⟨_, _, tokens1_d s hs, fun j O => (j = 0 ∧ O = [.cells 23 [.cv .nils], .cells 26 [ai 0, ai 0], .cells 23 [.cv .nils]]) ∨ (∃ m el, 0 < j ∧ j ≤ (toksAt s 0).1.length ∧ LElA tokS ((toksAt s 0).1.take j) m el ∧ O = [.cells 23 [.cv .nils], .cells 26 [ai 0, ai 0], .cells 23 [.lst 6], .dead, .dead, .dead, .list 30 3 m el]), .inl ⟨rfl, rfl⟩, ?_, ?_⟩; rintro j O' vs hj hy; obtain ⟨hk, rfl⟩ | ⟨hk, rfl⟩ := ysK_some hy; obtain ⟨hj, rfl⟩ | ⟨m, el, hj0, hj1, hj, rfl⟩ := hj; rotate_left; rotate_left; obtain ⟨hj, rfl⟩ | ⟨m, el, hj0, hj1, hj, rfl⟩ := hj; rotate_left; rotate_left; rintro j O' v hj hy; obtain ⟨hj, rfl⟩ | ⟨m, el, hj0, hj1, hj, rfl⟩ := hj))
    | intro _)
 all_goals have hnz := toksAt_nz s
 all_goals have hln := toksAt_len s
 all_goals first
  | rfl
  | omega
  | (simp only [zz] at *; omega)
  | (exfalso; (simp only [zz] at *; omega))
  | (exfalso; have h := hy.2 rfl; dsimp only at h; omega)
  | exact same_bad (f' := flt0) (toks_long (by (simp only [zz] at *; omega)))
  | exact same_nil (f := flt0) (toks_ok (by (simp only [zz] at *; omega)) (by (simp only [zz] at *; omega))) (by omega)
  | exact same_lst (f := flt0) (toks_ok (by (simp only [zz] at *; omega)) (by (simp only [zz] at *; omega))) (by omega) hj
  | exact same_bad (f' := flt0) (toks_bad (by (simp only [zz] at *; omega)) (by (simp only [zz] at *; omega)))
  | exact .inr ⟨1, _, by omega, by omega, by rw [take_snoc hk]; subst hj; exact LElA.one rfl rfl, rfl⟩
  | exact .inr ⟨_, _, by omega, by omega, by rw [take_snoc hk]; exact hj.snoc rfl rfl, rfl⟩
  | (have h1 := hj.1; rw [List.length_take] at h1; have h4 : s.length ≤ 400 := by (simp only [zz] at *; omega)
     show _ + 1 ≤ 1000000; omega)
noncomputable def wholeB (t : Tok) : Bool := (nxt t.text 0).2.2.err == 0 && ((nxt t.text 0).1.pos == 0 && ((nxt t.text 0).2.1 == t.text.length && (nxt t.text 0).1.kind == t.kind))
noncomputable def chkT (t : Tok) : Int := if t.kind < 1 ∨ 4 < t.kind then 11 else if wholeB t then (if t.pos < 0 then 2 else 0) else 3
theorem chkT_kind {t : Tok} (h : t.kind < 1 ∨ 4 < t.kind) : chkT t = 11 := if_pos h
theorem chkT_form {t : Tok} (h : ¬ (t.kind < 1 ∨ 4 < t.kind)) (hw : wholeB t = false) : chkT t = 3 := by unfold chkT; rw [if_neg h, hw]; rfl
theorem chkT_neg {t : Tok} (h : ¬ (t.kind < 1 ∨ 4 < t.kind)) (hw : wholeB t = true) (hp : t.pos < 0) : chkT t = 2 := by unfold chkT; rw [if_neg h, hw, if_pos rfl, if_pos hp]
theorem chkT_ok {t : Tok} (h : ¬ (t.kind < 1 ∨ 4 < t.kind)) (hw : wholeB t = true) (hp : ¬ t.pos < 0) : chkT t = 0 := by unfold chkT; rw [if_neg h, hw, if_pos rfl, if_neg hp]
theorem whole_no {t : Tok} (h : (nxt t.text 0).2.2.err ≠ 0 ∨ (nxt t.text 0).1.pos ≠ 0 ∨ (nxt t.text 0).2.1 ≠ t.text.length ∨ (nxt t.text 0).1.kind ≠ t.kind) : wholeB t = false := by
 unfold wholeB
 rw [Bool.eq_false_iff]
 simp only [ne_eq, Bool.and_eq_true, beq_iff_eq, not_and]
 rintro h1 h2 h3 h4
 rcases h with h | h | h | h <;> contradiction
theorem whole_yes {t : Tok} (h1 : (nxt t.text 0).2.2.err = 0) (h2 : (nxt t.text 0).1.pos = 0) (h3 : (nxt t.text 0).2.1 = t.text.length) (h4 : (nxt t.text 0).1.kind = t.kind) : wholeB t = true := by
 unfold wholeB
 simp only [h1, h2, h3, h4, beq_self_eq_true, Bool.and_self]
theorem Check_t (t : Tok) (hs : t.text.length ≤ 1000000) : DSpec Try.prog axX axG 6 [.agg (tokS t)] [] (fun v O => v = .cv (.int .i64 (chkT t)) ∧ O = []) := by
 refine dspec_of { glb := axG } true Try.func6 (by kernel_rfl) rfl ?_
 repeat' (
   (conv => whnf)
   first
    | exact closedB (by kernel_rfl)
    | refine And.intro ?_ ?_
    | refine splitB_intro ?_ ?_
    | (refine ⟨_, Next_d t.text 0 hs, ?_⟩; rintro v O' ⟨rfl, rfl⟩)
    | intro _)
 all_goals first
  | rfl
  | omega
  | (simp only [zz] at *; omega)
  | (exfalso; (simp only [zz] at *; omega))
  | exact congrArg (fun x => SV.cv (.int .i64 x)) (chkT_kind (by (simp only [zz] at *; omega))).symm
  | exact congrArg (fun x => SV.cv (.int .i64 x)) (chkT_form (by (simp only [zz] at *; omega)) (whole_no (.inl (by (simp only [zz] at *; omega))))).symm
  | exact congrArg (fun x => SV.cv (.int .i64 x)) (chkT_form (by (simp only [zz] at *; omega)) (whole_no (.inr (.inl (by (simp only [zz] at *; omega)))))).symm
  | exact congrArg (fun x => SV.cv (.int .i64 x)) (chkT_form (by (simp only [zz] at *; omega)) (whole_no (.inr (.inr (.inl (by (simp only [zz] at *; omega))))))).symm
  | exact congrArg (fun x => SV.cv (.int .i64 x)) (chkT_form (by (simp only [zz] at *; omega)) (whole_no (.inr (.inr (.inr (by (simp only [zz] at *; omega))))))).symm
  | exact congrArg (fun x => SV.cv (.int .i64 x)) (chkT_neg (by (simp only [zz] at *; omega)) (whole_yes (by (simp only [zz] at *; omega)) (by (simp only [zz] at *; omega)) (by (simp only [zz] at *; omega)) (by (simp only [zz] at *; omega))) (by (simp only [zz] at *; omega))).symm
  | exact congrArg (fun x => SV.cv (.int .i64 x)) (chkT_ok (by (simp only [zz] at *; omega)) (whole_yes (by (simp only [zz] at *; omega)) (by (simp only [zz] at *; omega)) (by (simp only [zz] at *; omega)) (by (simp only [zz] at *; omega))) (by (simp only [zz] at *; omega))).symm
end Go.Proofs.Ytkjdghlefdmjaaa
