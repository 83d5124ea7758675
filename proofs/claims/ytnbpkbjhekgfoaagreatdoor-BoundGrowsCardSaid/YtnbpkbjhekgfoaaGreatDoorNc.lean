import Derived.Test.YtnbpkbjhekgfoaaGreatDoorNb
set_option linter.unusedSimpArgs false
set_option linter.unusedVariables false
namespace Go.Proofs.YtnbpkbjhekgfoaaGreatDoor
open Go Go.Cx
def firstE (f : Nat → Int) : Nat → Nat → Option (Int × Nat)
 | 0, _ => none
 | n + 1, i => if f i = 0 then firstE f n (i + 1) else some (f i, i)
theorem firstE_none {f : Nat → Int} : ∀ {n i : Nat}, (∀ j, i ≤ j → j < i + n → f j = 0) → firstE f n i = none
 | 0, _, _ => rfl
 | n + 1, i, h => by
  unfold firstE
  rw [if_pos (h i (Nat.le_refl _) (by omega)), firstE_none fun j h1 h2 => h j (by omega) (by omega)]
theorem firstE_some {f : Nat → Int} {k : Nat} (hk : f k ≠ 0) : ∀ {n i : Nat}, i ≤ k → k < i + n → (∀ j, i ≤ j → j < k → f j = 0) → firstE f n i = some (f k, k)
 | 0, i, h1, h2, _ => by omega
 | n + 1, i, h1, h2, h => by
  unfold firstE
  by_cases hq : i = k
  ·subst hq; rw [if_neg hk]
  ·rw [if_pos (h i (Nat.le_refl _) (by omega)), firstE_some hk (by omega) (by omega) fun j h1 h2 => h j (by omega) h2]
def pairE : Option (Int × Nat) → Int × Int → Int × Int
 | some p, _ => (p.1, p.2)
 | none, q => q
noncomputable def chk (c : ConfM) : Int × Int :=
 if 8 < c.cl.length ∨ 8 < c.rl.length then (6, 0) else
 pairE (firstE (errC c.cl) c.cl.length 0) <|
 pairE (firstE (fun i => errT (c.ten i)) 6 0) <|
 pairE (firstE (fun i => errR (c.rl.getD i default)) c.rl.length 0) <|
 if inB c.hz 1 10000 then (0, 0) else (2, 0)
section
variable {c : ConfM} (ha : decide ((c.cl.length : Int) > 8) = false) (hb : decide ((c.rl.length : Int) > 8) = false)
theorem chk_full1 (h : decide ((c.cl.length : Int) > 8) = true) : chk c = (6, 0) := by
 unfold chk; rw [if_pos (.inl (by (simp only [inB, List.getD_eq_getElem?_getD, Bool.and_eq_true, Bool.or_eq_true, Bool.and_eq_false_iff, Bool.or_eq_false_iff, Bool.not_eq_true', Bool.not_eq_false', decide_eq_true_eq, decide_eq_false_iff_not, beq_iff_eq, bne_iff_ne, bne_eq_false_iff_eq, beq_eq_false_iff_ne, Bool.false_eq_true, Bool.true_eq_false, ne_eq, true_iff, iff_true, false_iff, iff_false, Bool.not_eq_true, Bool.not_eq_false] at *; omega)))]
theorem chk_full2 (h : decide ((c.rl.length : Int) > 8) = true) : chk c = (6, 0) := by
 unfold chk; rw [if_pos (.inr (by (simp only [inB, List.getD_eq_getElem?_getD, Bool.and_eq_true, Bool.or_eq_true, Bool.and_eq_false_iff, Bool.or_eq_false_iff, Bool.not_eq_true', Bool.not_eq_false', decide_eq_true_eq, decide_eq_false_iff_not, beq_iff_eq, bne_iff_ne, bne_eq_false_iff_eq, beq_eq_false_iff_ne, Bool.false_eq_true, Bool.true_eq_false, ne_eq, true_iff, iff_true, false_iff, iff_false, Bool.not_eq_true, Bool.not_eq_false] at *; omega)))]
include ha hb
theorem chk_not : ¬ (8 < c.cl.length ∨ 8 < c.rl.length) := by (simp only [inB, List.getD_eq_getElem?_getD, Bool.and_eq_true, Bool.or_eq_true, Bool.and_eq_false_iff, Bool.or_eq_false_iff, Bool.not_eq_true', Bool.not_eq_false', decide_eq_true_eq, decide_eq_false_iff_not, beq_iff_eq, bne_iff_ne, bne_eq_false_iff_eq, beq_eq_false_iff_ne, Bool.false_eq_true, Bool.true_eq_false, ne_eq, true_iff, iff_true, false_iff, iff_false, Bool.not_eq_true, Bool.not_eq_false] at *; omega)
theorem chk_cl {n : Nat} (hn : n < c.cl.length) (hj : ∀ i, i < n → errC c.cl i = 0) (he : (errC c.cl n != 0) = true) : chk c = (errC c.cl n, (n : Int)) := by
 unfold chk; rw [if_neg (chk_not ha hb), firstE_some (k := n) (by simpa using he) (Nat.zero_le _) (by omega) fun j _ h => hj j h]; rfl
theorem chk_t {n : Nat} (h0 : ∀ i, i < c.cl.length → errC c.cl i = 0) (hn : n < 6) (hj : ∀ i, i < n → errT (c.ten i) = 0) (he : (errT (c.ten n) != 0) = true) : chk c = (errT (c.ten n), (n : Int)) := by
 unfold chk; rw [if_neg (chk_not ha hb), firstE_none fun j _ h => h0 j (by omega)]
 show pairE (firstE (fun i => errT (c.ten i)) 6 0) _ = _
 rw [firstE_some (f := fun i => errT (c.ten i)) (k := n) (by simpa using he) (Nat.zero_le _) (by omega) fun j _ h => hj j h]; rfl
theorem chk_r {n : Nat} (h0 : ∀ i, i < c.cl.length → errC c.cl i = 0) (h1 : ∀ i, i < 6 → errT (c.ten i) = 0) (hn : n < c.rl.length) (hj : ∀ i, i < n → errR (c.rl.getD i default) = 0) (he : (errR (c.rl.getD n default) != 0) = true) : chk c = (errR (c.rl.getD n default), (n : Int)) := by
 unfold chk; rw [if_neg (chk_not ha hb), firstE_none fun j _ h => h0 j (by omega)]
 show pairE (firstE (fun i => errT (c.ten i)) 6 0) _ = _
 rw [firstE_none (f := fun i => errT (c.ten i)) fun j _ h => h1 j (by omega)]
 show pairE (firstE (fun i => errR (c.rl.getD i default)) c.rl.length 0) _ = _
 rw [firstE_some (f := fun i => errR (c.rl.getD i default)) (k := n) (by simpa using he) (Nat.zero_le _) (by omega) fun j _ h => hj j h]; rfl
theorem chk_end (h0 : ∀ i, i < c.cl.length → errC c.cl i = 0) (h1 : ∀ i, i < 6 → errT (c.ten i) = 0) (h2 : ∀ i, i < c.rl.length → errR (c.rl.getD i default) = 0) : chk c = if inB c.hz 1 10000 then (0, 0) else (2, 0) := by
 unfold chk; rw [if_neg (chk_not ha hb), firstE_none fun j _ h => h0 j (by omega)]
 show pairE (firstE (fun i => errT (c.ten i)) 6 0) _ = _
 rw [firstE_none (f := fun i => errT (c.ten i)) fun j _ h => h1 j (by omega)]
 show pairE (firstE (fun i => errR (c.rl.getD i default)) c.rl.length 0) _ = _
 rw [firstE_none (f := fun i => errR (c.rl.getD i default)) fun j _ h => h2 j (by omega)]; rfl
end
def chkS (p : Int × Int) : SV := .tup [ci p.1, ci p.2]
theorem classes_d (c : ConfM) : DSpec Tryz.prog noX [] 33 [.agg (confS c)] [] (fun v O => v = .fn 49 [] [.ipt (confS c) 0] ∧ O = []) := by
 refine dspec_of {} true Tryz.func33 (by kernel_rfl) rfl ?_
 repeat' (
   (conv => whnf)
   first
    | exact closedB (by kernel_rfl)
    | refine And.intro ?_ ?_
    | refine splitB_intro ?_ ?_
    | intro _)
 all_goals rfl
theorem tenants_d (c : ConfM) : DSpec Tryz.prog noX [] 34 [.agg (confS c)] [] (fun v O => v = .fn 51 [] [.ipt (confS c) 0] ∧ O = []) := by
 refine dspec_of {} true Tryz.func34 (by kernel_rfl) rfl ?_
 repeat' (
   (conv => whnf)
   first
    | exact closedB (by kernel_rfl)
    | refine And.intro ?_ ?_
    | refine splitB_intro ?_ ?_
    | intro _)
 all_goals rfl
theorem rules_d (c : ConfM) : DSpec Tryz.prog noX [] 35 [.agg (confS c)] [] (fun v O => v = .fn 52 [] [.ipt (confS c) 0] ∧ O = []) := by
 refine dspec_of {} true Tryz.func35 (by kernel_rfl) rfl ?_
 repeat' (
   (conv => whnf)
   first
    | exact closedB (by kernel_rfl)
    | refine And.intro ?_ ?_
    | refine splitB_intro ?_ ?_
    | intro _)
 all_goals rfl
@[reducible] noncomputable def chkEl (c : ConfM) : Nat → List SV := cutEl 1 [.fn 49 [] [.ipt (confS c) 0], .fn 51 [] [.ipt (confS c) 0], .fn 52 [] [.ipt (confS c) 0]]
@[reducible] noncomputable def chkO (c : ConfM) : List SObj := [.cells 30 (confS c), .cells 33 [ci 0], .cells 3 [ci 0]]
theorem yso {n m : Nat} {x : Int} {vs : List SV} (h : (if n < m then some [ci n, ci x] else none) = some vs) : n < m ∧ vs = [ci n, ci x] := by
 split at h
 ·cases h; exact ⟨by assumption, rfl⟩
 ·cases h
set_option maxRecDepth 100000 in
set_option maxHeartbeats 4000000 in
theorem Check_d (c : ConfM) (h1 : c.cl.length ≤ 9223372036854775807) (h2 : c.rl.length ≤ 9223372036854775807) : DSpec Tryz.prog noX [] 22 [.agg (confS c)] [] (fun v O => v = chkS (chk c) ∧ O = []) := by
 refine dspec_of { ann := [(4, [26, 24])] } true Tryz.func22 (by kernel_rfl) rfl ?_
 repeat' (
   (conv => whnf)
   first
    | exact closedB (by kernel_rfl)
    | refine And.intro ?_ ?_
    | refine splitB_intro ?_ ?_
    | ((refine ⟨fun vs O _ => (vs = [ci 0, .lst 3] ∧ O = chkO c ++ [.list 103 1 3 (chkEl c)]) ∨ ∃ k : Nat, 0 < k ∧ k ≤ 3 ∧ (∀ i, i < c.cl.length → errC c.cl i = 0) ∧ (1 < k → ∀ i, i < 6 → errT (c.ten i) = 0) ∧ (2 < k → ∀ i, i < c.rl.length → errR (c.rl.getD i default) = 0) ∧ vs = [ci k, .isl 1 3 (chkEl c)] ∧ O = chkO c, fun vs O => match vs with | [.cv (.int _ k), _] => 3 - k.toNat | _ => 0, .inl ⟨rfl, rfl⟩, ?_⟩; rintro vs O _ (⟨rfl, rfl⟩ | ⟨k, hk0, hk, hc, ht, hr, rfl, rfl⟩); rotate_left; obtain rfl | rfl | rfl : k = 1 ∨ k = 2 ∨ k = 3 := by omega))
    | (refine ⟨_, classes_d c, ?_⟩; rintro v O' ⟨rfl, rfl⟩)
    | (refine ⟨_, tenants_d c, ?_⟩; rintro v O' ⟨rfl, rfl⟩)
    | (refine ⟨_, rules_d c, ?_⟩; rintro v O' ⟨rfl, rfl⟩)
    | ((refine ⟨_, _, classes1_d c h1, fun n O => (∀ i, i < n → errC c.cl i = 0) ∧ O = chkO c, ⟨fun i hi => absurd hi (by omega), rfl⟩, ?_, ?_⟩; rintro n O' vs ⟨hj, rfl⟩ hy; obtain ⟨hn, rfl⟩ := yso hy; rotate_left; rintro n O' vs ⟨hj, rfl⟩ hy))
    | ((refine ⟨_, _, tenants1_d c, fun n O => (∀ i, i < n → errT (c.ten i) = 0) ∧ O = chkO c, ⟨fun i hi => absurd hi (by omega), rfl⟩, ?_, ?_⟩; rintro n O' vs ⟨hj, rfl⟩ hy; obtain ⟨hn, rfl⟩ := yso hy; rotate_left; rintro n O' vs ⟨hj, rfl⟩ hy))
    | ((refine ⟨_, _, rules1_d c h2, fun n O => (∀ i, i < n → errR (c.rl.getD i default) = 0) ∧ O = chkO c, ⟨fun i hi => absurd hi (by omega), rfl⟩, ?_, ?_⟩; rintro n O' vs ⟨hj, rfl⟩ hy; obtain ⟨hn, rfl⟩ := yso hy; rotate_left; rintro n O' vs ⟨hj, rfl⟩ hy))
    | intro _)
 all_goals first
  | rfl
  | omega
  | exact (congrArg chkS (chk_full1 (by assumption))).symm
  | exact (congrArg chkS (chk_full2 (by assumption))).symm
  | exact (congrArg chkS (chk_cl (by assumption) (by assumption) hn hj (by assumption))).symm
  | exact (congrArg chkS (chk_t (by assumption) (by assumption) hc hn hj (by assumption))).symm
  | exact (congrArg chkS (chk_r (by assumption) (by assumption) hc (ht (by decide)) hn hj (by assumption))).symm
  | exact (congrArg chkS ((chk_end (by assumption) (by assumption) hc (ht (by decide)) (hr (by decide))).trans (if_pos (by ((try (refine congrArg (fun b => SV.cv (CV.bool b)) ?_)); (try rw [Bool.eq_iff_iff]); simp only [inB, List.getD_eq_getElem?_getD, Bool.and_eq_true, Bool.or_eq_true, Bool.and_eq_false_iff, Bool.or_eq_false_iff, Bool.not_eq_true', Bool.not_eq_false', decide_eq_true_eq, decide_eq_false_iff_not, beq_iff_eq, bne_iff_ne, bne_eq_false_iff_eq, beq_eq_false_iff_ne, Bool.false_eq_true, Bool.true_eq_false, ne_eq, true_iff, iff_true, false_iff, iff_false, Bool.not_eq_true, Bool.not_eq_false] at *; first | done | omega))))).symm
  | exact (congrArg chkS ((chk_end (by assumption) (by assumption) hc (ht (by decide)) (hr (by decide))).trans (if_neg (by ((try (refine congrArg (fun b => SV.cv (CV.bool b)) ?_)); (try rw [Bool.eq_iff_iff]); simp only [inB, List.getD_eq_getElem?_getD, Bool.and_eq_true, Bool.or_eq_true, Bool.and_eq_false_iff, Bool.or_eq_false_iff, Bool.not_eq_true', Bool.not_eq_false', decide_eq_true_eq, decide_eq_false_iff_not, beq_iff_eq, bne_iff_ne, bne_eq_false_iff_eq, beq_eq_false_iff_ne, Bool.false_eq_true, Bool.true_eq_false, ne_eq, true_iff, iff_true, false_iff, iff_false, Bool.not_eq_true, Bool.not_eq_false] at *; first | done | omega))))).symm
  | exact .inr ⟨1, by decide, by decide, by have h : n = c.cl.length := hy.2 rfl; exact fun i hi => hj i (by omega), fun h => absurd h (by decide), fun h => absurd h (by decide), rfl, rfl⟩
  | exact .inr ⟨2, by decide, by decide, hc, by have h : n = 6 := hy.2 rfl; exact fun _ i hi => hj i (by omega), fun h => absurd h (by decide), rfl, rfl⟩
  | exact .inr ⟨3, by decide, by decide, hc, fun _ => ht (by decide), by have h : n = c.rl.length := hy.2 rfl; exact fun _ i hi => hj i (by omega), rfl, rfl⟩
  | (rename_i hz hi; rcases Nat.lt_succ_iff_lt_or_eq.1 hi with h | rfl; exact hj _ h; simpa using hz)
  | (rename_i hz _ hi; rcases Nat.lt_succ_iff_lt_or_eq.1 hi with h | rfl; exact hj _ h; simpa using hz)
  | ((try (refine congrArg (fun b => SV.cv (CV.bool b)) ?_)); (try rw [Bool.eq_iff_iff]); simp only [inB, List.getD_eq_getElem?_getD, Bool.and_eq_true, Bool.or_eq_true, Bool.and_eq_false_iff, Bool.or_eq_false_iff, Bool.not_eq_true', Bool.not_eq_false', decide_eq_true_eq, decide_eq_false_iff_not, beq_iff_eq, bne_iff_ne, bne_eq_false_iff_eq, beq_eq_false_iff_ne, Bool.false_eq_true, Bool.true_eq_false, ne_eq, true_iff, iff_true, false_iff, iff_false, Bool.not_eq_true, Bool.not_eq_false] at *; first | done | omega)
end Go.Proofs.YtnbpkbjhekgfoaaGreatDoor
