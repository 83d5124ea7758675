import Derived.Test.YtnbpkbjhekgfoaaGreatDoorNa
import Derived.Test.YtnbpkbjhekgfoaaGreatDoorGh
set_option linter.unusedSimpArgs false
set_option linter.unusedVariables false
namespace Go.Proofs.YtnbpkbjhekgfoaaGreatDoor
open Go Go.Cx
def modI (n m : Int) : Int := if n.tmod m < 0 then n.tmod m + m else n.tmod m
theorem modI_in {n m : Int} (hm : 1 ≤ m) : 0 ≤ modI n m ∧ modI n m < m := by
 have h1 := Int.tmod_lt_of_pos n (show 0 < m by omega)
 have h2 : -m < n.tmod m := by
  have := Int.lt_tmod_of_pos n (show 0 < m by omega)
  exact this
 unfold modI
 split <;> omega
theorem Mod_d (n m : Int) (hm : 1 ≤ m) (hm' : m ≤ 1099511627776) : DSpec Tryz.prog noX [] 6 [ci n, ci m] [] (fun v O => v = ci (modI n m) ∧ O = []) := by
 refine dspec_of {} true Tryz.func6 (by kernel_rfl) rfl ?_
 repeat' (
   (conv => whnf)
   first
    | exact closedB (by kernel_rfl)
    | refine And.intro ?_ ?_
    | refine splitB_intro ?_ ?_
    | intro _)
 all_goals have h1 := Int.tmod_lt_of_pos n (show 0 < m by omega)
 all_goals have h2 := Int.lt_tmod_of_pos n (show 0 < m by omega)
 all_goals first
  | rfl
  | omega
  | (simp only [inB, List.getD_eq_getElem?_getD, Bool.and_eq_true, Bool.or_eq_true, Bool.and_eq_false_iff, Bool.or_eq_false_iff, Bool.not_eq_true', Bool.not_eq_false', decide_eq_true_eq, decide_eq_false_iff_not, beq_iff_eq, bne_iff_ne, bne_eq_false_iff_eq, beq_eq_false_iff_ne, Bool.false_eq_true, Bool.true_eq_false, ne_eq, true_iff, iff_true, false_iff, iff_false, Bool.not_eq_true, Bool.not_eq_false] at *; omega)
  | (unfold modI; rw [if_pos (by (simp only [inB, List.getD_eq_getElem?_getD, Bool.and_eq_true, Bool.or_eq_true, Bool.and_eq_false_iff, Bool.or_eq_false_iff, Bool.not_eq_true', Bool.not_eq_false', decide_eq_true_eq, decide_eq_false_iff_not, beq_iff_eq, bne_iff_ne, bne_eq_false_iff_eq, beq_eq_false_iff_ne, Bool.false_eq_true, Bool.true_eq_false, ne_eq, true_iff, iff_true, false_iff, iff_false, Bool.not_eq_true, Bool.not_eq_false] at *; omega))])
  | (unfold modI; rw [if_neg (by (simp only [inB, List.getD_eq_getElem?_getD, Bool.and_eq_true, Bool.or_eq_true, Bool.and_eq_false_iff, Bool.or_eq_false_iff, Bool.not_eq_true', Bool.not_eq_false', decide_eq_true_eq, decide_eq_false_iff_not, beq_iff_eq, bne_iff_ne, bne_eq_false_iff_eq, beq_eq_false_iff_ne, Bool.false_eq_true, Bool.true_eq_false, ne_eq, true_iff, iff_true, false_iff, iff_false, Bool.not_eq_true, Bool.not_eq_false] at *; omega))])
set_option maxRecDepth 100000 in
theorem Labels_d : DSpec Tryz.prog noX [] 18 [] [] (fun v O => v = .isl 1 5 (wordEl .u64 [0, 1, 2, 3, 5]) ∧ O = []) := by
 refine dspec_of { words := [54] } true Tryz.func18 (by kernel_rfl) rfl ?_
 repeat' (
   (conv => whnf)
   first
    | exact closedB (by kernel_rfl)
    | refine And.intro ?_ ?_
    | refine splitB_intro ?_ ?_
    | intro _)
 all_goals first
  | rfl
def confW (c : ConfM) (v w : SV) : List SV := [v, ci c.t0.bud, ci c.t0.qs, ci c.t0.cap, ci c.t0.out, ci c.t0.aud, ci c.t1.bud, ci c.t1.qs, ci c.t1.cap, ci c.t1.out, ci c.t1.aud, ci c.t2.bud, ci c.t2.qs, ci c.t2.cap, ci c.t2.out, ci c.t2.aud, ci c.t3.bud, ci c.t3.qs, ci c.t3.cap, ci c.t3.out, ci c.t3.aud, ci c.t4.bud, ci c.t4.qs, ci c.t4.cap, ci c.t4.out, ci c.t4.aud, ci c.t5.bud, ci c.t5.qs, ci c.t5.cap, ci c.t5.out, ci c.t5.aud, w, cu c.hz]
set_option maxRecDepth 100000 in
theorem OwnConfig_d (c : ConfM) (h1 : c.cl.length ≤ 1000) (h2 : c.rl.length ≤ 1000) : DSpec Tryz.prog noX [] 8 [.agg (confS c)] [] (fun v O => v = .agg (confW c (.lst 2) (.lst 3)) ∧ O = [.dead, .dead, .list 39 3 (0 + c.cl.length) (catEl 0 (cutEl 3 []) (clsEl c.cl)), .list 57 7 (0 + c.rl.length) (catEl 0 (cutEl 7 []) (rulesEl c.rl))]) := by
 refine dspec_of {} false Tryz.func8 (by kernel_rfl) rfl ?_
 repeat' (
   (conv => whnf)
   first
    | exact closedB (by kernel_rfl)
    | refine And.intro ?_ ?_
    | refine splitB_intro ?_ ?_
    | intro _)
 all_goals first
  | rfl
  | omega
def clsOf (k : Int) (i : Nat) : ClsM := ⟨[0, 1, 2, 3, 5].getD i 0, 1 + (k.tdiv 4 + 3 * i).tmod 7, 1 + (k.tdiv 28 + i).tmod 5⟩
def tnOf (k : Int) (t : Nat) : TenM := ⟨1 + (k.tdiv 140 + t).tmod 9, 1 + (k.tdiv 1260 + t).tmod 3, [64, 8, 3, 20].getD ((k.tdiv 3780 + t).tmod 4).toNat 0, [64, 5, 2, 12].getD ((k.tdiv 15120 + t).tmod 4).toNat 0, [64, 2, 9].getD ((k.tdiv 60480 + t).tmod 3).toNat 0⟩
def tnAt (k : Int) (n t : Nat) : TenM := match Nat.blt t n with
 | true => tnOf k t
 | false => ⟨0, 0, 0, 0, 0⟩
def cfW (k : Int) (n : Nat) (v w h : SV) : List SV := confW ⟨[], tnAt k n 0, tnAt k n 1, tnAt k n 2, tnAt k n 3, tnAt k n 4, tnAt k n 5, [], 0⟩ v w |>.set 32 h
def Els {A : Type} (g : A → List SV) (f : Nat → A) (n : Nat) (el : Nat → List SV) : Prop := ∀ i, i < n → el i = g (f i)
theorem Els.snoc {A : Type} {g : A → List SV} {f : Nat → A} {n sz : Nat} {el : Nat → List SV} {cs : List SV} (h : Els g f n el) (hc : cs = g (f n)) (hl : cs.length = sz) : Els g f (n + 1) (catEl n el (cutEl sz cs)) := fun i hi => by
 unfold catEl
 split
 ·rename_i hq; exact h i hq
 ·have : i = n := by omega
  subst this
  rw [← hc]
  simp [cutEl, ← hl]
noncomputable def ruleOf (K : Int) (n : Nat) (i : Nat) : RuleM :=
 let j := ((K.tdiv 2177280).tdiv 5 + 7 * i).tmod 1000
 let l := [0, 1, 2, 3, 5].getD (j.tmod n).toNat 0
 ⟨1 + (j.tdiv 5).tmod 4, b2 .or .u64 l ((j.tdiv 20).tmod 2), b2 .and .u64 l ((j.tdiv 40).tmod 4), (j.tdiv 160).tmod 2 == 0, if (j.tdiv 160).tmod 2 == 0 then 0 else (j.tdiv 7).tmod 3, -5, 3 + j.tdiv 320⟩
theorem Els.upd {A : Type} {g : A → List SV} {f : Nat → A} {n : Nat} {el : Nat → List SV} {cs : List SV} {x : Nat → List SV} (h : Els g f n el) (hc : cs = g (f n)) : Els g f (n + 1) (updEl n cs (catEl n el x)) := fun i hi => by
 unfold updEl catEl
 split
 ·rename_i hq; subst hq; exact hc
 ·rw [if_pos (by omega)]; exact h i (by omega)
theorem ruleOf_kind0 {K : Int} {n i : Nat} (h : (!((((K.tdiv 2177280).tdiv 5 + 7 * (i : Int)).tmod 1000).tdiv 160).tmod 2 == 0) = false) : (ruleOf K n i).kind = 0 := by
 unfold ruleOf; exact if_pos (by simpa using h)
theorem ruleOf_kind1 {K : Int} {n i : Nat} (h : (!((((K.tdiv 2177280).tdiv 5 + 7 * (i : Int)).tmod 1000).tdiv 160).tmod 2 == 0) = true) : (ruleOf K n i).kind = (((((K.tdiv 2177280).tdiv 5 + 7 * (i : Int)).tmod 1000).tdiv 7).tmod 3) := by
 unfold ruleOf; exact if_neg (by simpa using h)
noncomputable def cfgOf (K : Int) : ConfM := ⟨(List.range (2 + K.tmod 4).toNat).map (clsOf K), tnOf K 0, tnOf K 1, tnOf K 2, tnOf K 3, tnOf K 4, tnOf K 5, (List.range ((K.tdiv 2177280).tmod 5).toNat).map (ruleOf K (2 + K.tmod 4).toNat), 1 + (K.tdiv 181440).tmod 12⟩
theorem SameL.all : ∀ {l : List SV}, SameL l l
 | [] => .nil
 | _ :: _ => .cons (.refl _) SameL.all
theorem cfg_same {K : Int} {i1 i3 : Nat} {el1 el3 : Nat → List SV} (h1 : i1 = (2 + K.tmod 4).toNat) (hk1 : Els clsS (clsOf K) i1 el1) (h3 : i3 = ((K.tdiv 2177280).tmod 5).toNat) (hk3 : Els ruleS (ruleOf K i1) i3 el3) : Same (.agg (confW (cfgOf K) (.isl 3 i1 el1) (.isl 7 i3 el3))) (.agg (confS (cfgOf K))) := by
 subst h1
 have l1 : (cfgOf K).cl.length = (2 + K.tmod 4).toNat := by simp [cfgOf]
 have l3 : (cfgOf K).rl.length = i3 := by simp [cfgOf, h3]
 unfold confW confS
 rw [l1, l3]
 refine .agg (.cons (.isl fun i hi => ?_) ?_)
 ·rw [hk1 i hi]
  unfold clsEl
  simp [cfgOf, hi]
 ·repeat (first | exact SameL.cons (.isl fun i hi => by rw [hk3 i hi]; unfold rulesEl; simp [cfgOf, ← h3, hi]) SameL.all | refine SameL.cons (.refl _) ?_)
set_option maxRecDepth 100000 in
set_option maxHeartbeats 8000000 in
theorem Config_d (n : Int) : DSpec Tryz.prog noX [] 5 [ci n] [] (fun v O => v = .agg (confS (cfgOf (modI n 1099511627776))) ∧ O = []) := by
 obtain ⟨K, hKe, hKd, hK0, hK1⟩ : ∃ K, modI n 1099511627776 = K ∧ DSpec Tryz.prog noX [] 6 [ci n, ci 1099511627776] [] (fun v O => v = ci K ∧ O = []) ∧ 0 ≤ K ∧ K < 1099511627776 := ⟨_, rfl, Mod_d n 1099511627776 (by decide) (by decide), (modI_in (by decide)).1, (modI_in (by decide)).2⟩
 rw [hKe]
 refine DSpec.same (post := fun v O => Same v (.agg (confS (cfgOf K))) ∧ O = []) ?_ fun v O h => ⟨_, h.1, rfl, h.2⟩
 have hr5 : 0 ≤ (K.tdiv 2177280).tmod 5 ∧ (K.tdiv 2177280).tmod 5 < 5 := ⟨Int.tmod_nonneg _ (Int.tdiv_nonneg hK0 (by decide)), Int.tmod_lt_of_pos _ (by decide)⟩
 have hr4 : 0 ≤ K.tmod 4 ∧ K.tmod 4 < 4 := ⟨Int.tmod_nonneg _ hK0, Int.tmod_lt_of_pos _ (by decide)⟩
 refine dspec_of { words := [49], ann := [(5, [6]), (9, [7]), (15, [8])], nils := [(5, [(.cell 1 0, 39, 3)]), (15, [(.cell 1 31, 57, 7)])] } true Tryz.func5 (by kernel_rfl) rfl ?_
 repeat' (
   (conv => whnf)
   first
    | exact closedB (by kernel_rfl)
    | refine And.intro ?_ ?_
    | refine splitB_intro ?_ ?_
    | (refine ⟨_, hKd, ?_⟩; rintro v O' ⟨rfl, rfl⟩)
    | (refine ⟨_, Labels_d, ?_⟩; rintro v O' ⟨rfl, rfl⟩)
    | ((have := hi; refine ⟨fun vs O _ => ∃ (i : Nat) (el : Nat → List SV), i ≤ 4 ∧ (i : Int) ≤ (K.tdiv 2177280).tmod 5 ∧ Els ruleS (ruleOf K i1) i el ∧ vs = [ci i] ∧ O = [.cells 30 (cfW 0 0 (.cv .nils) (.cv .nils) (cu 0)), .cells 30 (cfW K 6 (.lst 2) (.lst 3) (cu (1 + (K.tdiv 181440).tmod 12))), .list 39 3 i1 el1, .list 57 7 i el], fun vs O => match vs with | [.cv (.int _ k)] => 4 - k.toNat | _ => 0, ⟨0, _, by decide, Int.tmod_nonneg _ (Int.tdiv_nonneg hK0 (by decide)), fun j h => absurd h (by omega), rfl, rfl⟩, ?_⟩; rintro vs O _ ⟨i3, el3, hi3, hi3', hk3, rfl, rfl⟩; obtain rfl | rfl | rfl | rfl | rfl : i3 = 0 ∨ i3 = 1 ∨ i3 = 2 ∨ i3 = 3 ∨ i3 = 4 := by omega))
    | ((have := hk1; refine ⟨fun vs O _ => ∃ (i : Nat), i ≤ 6 ∧ vs = [ci i] ∧ O = [.cells 30 (cfW 0 0 (.cv .nils) (.cv .nils) (cu 0)), .cells 30 (cfW K i (.lst 2) (.cv .nils) (cu 0)), .list 39 3 i1 el1], fun vs O => match vs with | [.cv (.int _ k)] => 6 - k.toNat | _ => 0, ⟨0, by decide, rfl, rfl⟩, ?_⟩; rintro vs O _ ⟨i, hi, rfl, rfl⟩; obtain rfl | rfl | rfl | rfl | rfl | rfl | rfl : i = 0 ∨ i = 1 ∨ i = 2 ∨ i = 3 ∨ i = 4 ∨ i = 5 ∨ i = 6 := by omega))
    | ((refine ⟨fun vs O _ => ∃ (i : Nat) (el : Nat → List SV), (i : Int) ≤ 2 + K.tmod 4 ∧ Els clsS (clsOf K) i el ∧ vs = [ci i] ∧ O = [.cells 30 (cfW 0 0 (.cv .nils) (.cv .nils) (cu 0)), .cells 30 (cfW 0 0 (.lst 2) (.cv .nils) (cu 0)), .list 39 3 i el], fun vs O => match vs with | [.cv (.int _ k)] => 5 - k.toNat | _ => 0, ⟨0, _, by omega, fun j h => absurd h (by omega), rfl, rfl⟩, ?_⟩; rintro vs O _ ⟨i1, el1, hi1, hk1, rfl, rfl⟩))
    | intro _)
 all_goals try (have hi12 : 2 ≤ (i1 : Int) ∧ (i1 : Int) ≤ 5 := by (simp only [inB, List.getD_eq_getElem?_getD, Bool.and_eq_true, Bool.or_eq_true, Bool.and_eq_false_iff, Bool.or_eq_false_iff, Bool.not_eq_true', Bool.not_eq_false', decide_eq_true_eq, decide_eq_false_iff_not, beq_iff_eq, bne_iff_ne, bne_eq_false_iff_eq, beq_eq_false_iff_ne, Bool.false_eq_true, Bool.true_eq_false, ne_eq, true_iff, iff_true, false_iff, iff_false, Bool.not_eq_true, Bool.not_eq_false] at *; omega))
 all_goals first
  | rfl
  | omega
  | (simp only [inB, List.getD_eq_getElem?_getD, Bool.and_eq_true, Bool.or_eq_true, Bool.and_eq_false_iff, Bool.or_eq_false_iff, Bool.not_eq_true', Bool.not_eq_false', decide_eq_true_eq, decide_eq_false_iff_not, beq_iff_eq, bne_iff_ne, bne_eq_false_iff_eq, beq_eq_false_iff_ne, Bool.false_eq_true, Bool.true_eq_false, ne_eq, true_iff, iff_true, false_iff, iff_false, Bool.not_eq_true, Bool.not_eq_false] at *; omega)
  | (exfalso; (simp only [inB, List.getD_eq_getElem?_getD, Bool.and_eq_true, Bool.or_eq_true, Bool.and_eq_false_iff, Bool.or_eq_false_iff, Bool.not_eq_true', Bool.not_eq_false', decide_eq_true_eq, decide_eq_false_iff_not, beq_iff_eq, bne_iff_ne, bne_eq_false_iff_eq, beq_eq_false_iff_ne, Bool.false_eq_true, Bool.true_eq_false, ne_eq, true_iff, iff_true, false_iff, iff_false, Bool.not_eq_true, Bool.not_eq_false] at *; omega))
  | exact (by decide : 0 + 4 + 1 ≤ 7)
  | exact Int.tmod_nonneg _ (Int.tmod_nonneg _ (by simp (disch := omega) only [Int.tdiv_eq_ediv_of_nonneg, Int.tmod_eq_emod_of_nonneg] at *; omega))
  | exact Int.le_trans (Int.tmod_lt_of_pos _ (by omega)) (by omega)
  | exact ⟨i1 + 1, _, by (simp only [inB, List.getD_eq_getElem?_getD, Bool.and_eq_true, Bool.or_eq_true, Bool.and_eq_false_iff, Bool.or_eq_false_iff, Bool.not_eq_true', Bool.not_eq_false', decide_eq_true_eq, decide_eq_false_iff_not, beq_iff_eq, bne_iff_ne, bne_eq_false_iff_eq, beq_eq_false_iff_ne, Bool.false_eq_true, Bool.true_eq_false, ne_eq, true_iff, iff_true, false_iff, iff_false, Bool.not_eq_true, Bool.not_eq_false] at *; omega), hk1.snoc rfl rfl, rfl, rfl⟩
  | exact ⟨0 + 1, by decide, rfl, rfl⟩
  | exact ⟨1 + 1, by decide, rfl, rfl⟩
  | exact ⟨2 + 1, by decide, rfl, rfl⟩
  | exact ⟨3 + 1, by decide, rfl, rfl⟩
  | exact ⟨4 + 1, by decide, rfl, rfl⟩
  | exact ⟨5 + 1, by decide, rfl, rfl⟩
  | (rename_i hz; exact ⟨0 + 1, _, by decide, by (simp only [inB, List.getD_eq_getElem?_getD, Bool.and_eq_true, Bool.or_eq_true, Bool.and_eq_false_iff, Bool.or_eq_false_iff, Bool.not_eq_true', Bool.not_eq_false', decide_eq_true_eq, decide_eq_false_iff_not, beq_iff_eq, bne_iff_ne, bne_eq_false_iff_eq, beq_eq_false_iff_ne, Bool.false_eq_true, Bool.true_eq_false, ne_eq, true_iff, iff_true, false_iff, iff_false, Bool.not_eq_true, Bool.not_eq_false] at *; omega), hk3.snoc (by unfold ruleS; rw [ruleOf_kind0 hz]; try rfl) rfl, rfl, rfl⟩)
  | (rename_i hz; exact ⟨0 + 1, _, by decide, by (simp only [inB, List.getD_eq_getElem?_getD, Bool.and_eq_true, Bool.or_eq_true, Bool.and_eq_false_iff, Bool.or_eq_false_iff, Bool.not_eq_true', Bool.not_eq_false', decide_eq_true_eq, decide_eq_false_iff_not, beq_iff_eq, bne_iff_ne, bne_eq_false_iff_eq, beq_eq_false_iff_ne, Bool.false_eq_true, Bool.true_eq_false, ne_eq, true_iff, iff_true, false_iff, iff_false, Bool.not_eq_true, Bool.not_eq_false] at *; omega), hk3.upd (by unfold ruleS; rw [ruleOf_kind1 hz]; rfl), rfl, rfl⟩)
  | (rename_i hz; exact ⟨1 + 1, _, by decide, by (simp only [inB, List.getD_eq_getElem?_getD, Bool.and_eq_true, Bool.or_eq_true, Bool.and_eq_false_iff, Bool.or_eq_false_iff, Bool.not_eq_true', Bool.not_eq_false', decide_eq_true_eq, decide_eq_false_iff_not, beq_iff_eq, bne_iff_ne, bne_eq_false_iff_eq, beq_eq_false_iff_ne, Bool.false_eq_true, Bool.true_eq_false, ne_eq, true_iff, iff_true, false_iff, iff_false, Bool.not_eq_true, Bool.not_eq_false] at *; omega), hk3.snoc (by unfold ruleS; rw [ruleOf_kind0 hz]; try rfl) rfl, rfl, rfl⟩)
  | (rename_i hz; exact ⟨1 + 1, _, by decide, by (simp only [inB, List.getD_eq_getElem?_getD, Bool.and_eq_true, Bool.or_eq_true, Bool.and_eq_false_iff, Bool.or_eq_false_iff, Bool.not_eq_true', Bool.not_eq_false', decide_eq_true_eq, decide_eq_false_iff_not, beq_iff_eq, bne_iff_ne, bne_eq_false_iff_eq, beq_eq_false_iff_ne, Bool.false_eq_true, Bool.true_eq_false, ne_eq, true_iff, iff_true, false_iff, iff_false, Bool.not_eq_true, Bool.not_eq_false] at *; omega), hk3.upd (by unfold ruleS; rw [ruleOf_kind1 hz]; rfl), rfl, rfl⟩)
  | (rename_i hz; exact ⟨2 + 1, _, by decide, by (simp only [inB, List.getD_eq_getElem?_getD, Bool.and_eq_true, Bool.or_eq_true, Bool.and_eq_false_iff, Bool.or_eq_false_iff, Bool.not_eq_true', Bool.not_eq_false', decide_eq_true_eq, decide_eq_false_iff_not, beq_iff_eq, bne_iff_ne, bne_eq_false_iff_eq, beq_eq_false_iff_ne, Bool.false_eq_true, Bool.true_eq_false, ne_eq, true_iff, iff_true, false_iff, iff_false, Bool.not_eq_true, Bool.not_eq_false] at *; omega), hk3.snoc (by unfold ruleS; rw [ruleOf_kind0 hz]; try rfl) rfl, rfl, rfl⟩)
  | (rename_i hz; exact ⟨2 + 1, _, by decide, by (simp only [inB, List.getD_eq_getElem?_getD, Bool.and_eq_true, Bool.or_eq_true, Bool.and_eq_false_iff, Bool.or_eq_false_iff, Bool.not_eq_true', Bool.not_eq_false', decide_eq_true_eq, decide_eq_false_iff_not, beq_iff_eq, bne_iff_ne, bne_eq_false_iff_eq, beq_eq_false_iff_ne, Bool.false_eq_true, Bool.true_eq_false, ne_eq, true_iff, iff_true, false_iff, iff_false, Bool.not_eq_true, Bool.not_eq_false] at *; omega), hk3.upd (by unfold ruleS; rw [ruleOf_kind1 hz]; rfl), rfl, rfl⟩)
  | (rename_i hz; exact ⟨3 + 1, _, by decide, by (simp only [inB, List.getD_eq_getElem?_getD, Bool.and_eq_true, Bool.or_eq_true, Bool.and_eq_false_iff, Bool.or_eq_false_iff, Bool.not_eq_true', Bool.not_eq_false', decide_eq_true_eq, decide_eq_false_iff_not, beq_iff_eq, bne_iff_ne, bne_eq_false_iff_eq, beq_eq_false_iff_ne, Bool.false_eq_true, Bool.true_eq_false, ne_eq, true_iff, iff_true, false_iff, iff_false, Bool.not_eq_true, Bool.not_eq_false] at *; omega), hk3.snoc (by unfold ruleS; rw [ruleOf_kind0 hz]; try rfl) rfl, rfl, rfl⟩)
  | (rename_i hz; exact ⟨3 + 1, _, by decide, by (simp only [inB, List.getD_eq_getElem?_getD, Bool.and_eq_true, Bool.or_eq_true, Bool.and_eq_false_iff, Bool.or_eq_false_iff, Bool.not_eq_true', Bool.not_eq_false', decide_eq_true_eq, decide_eq_false_iff_not, beq_iff_eq, bne_iff_ne, bne_eq_false_iff_eq, beq_eq_false_iff_ne, Bool.false_eq_true, Bool.true_eq_false, ne_eq, true_iff, iff_true, false_iff, iff_false, Bool.not_eq_true, Bool.not_eq_false] at *; omega), hk3.upd (by unfold ruleS; rw [ruleOf_kind1 hz]; rfl), rfl, rfl⟩)
  | exact cfg_same (by (simp only [inB, List.getD_eq_getElem?_getD, Bool.and_eq_true, Bool.or_eq_true, Bool.and_eq_false_iff, Bool.or_eq_false_iff, Bool.not_eq_true', Bool.not_eq_false', decide_eq_true_eq, decide_eq_false_iff_not, beq_iff_eq, bne_iff_ne, bne_eq_false_iff_eq, beq_eq_false_iff_ne, Bool.false_eq_true, Bool.true_eq_false, ne_eq, true_iff, iff_true, false_iff, iff_false, Bool.not_eq_true, Bool.not_eq_false] at *; omega)) hk1 (by (simp only [inB, List.getD_eq_getElem?_getD, Bool.and_eq_true, Bool.or_eq_true, Bool.and_eq_false_iff, Bool.or_eq_false_iff, Bool.not_eq_true', Bool.not_eq_false', decide_eq_true_eq, decide_eq_false_iff_not, beq_iff_eq, bne_iff_ne, bne_eq_false_iff_eq, beq_eq_false_iff_ne, Bool.false_eq_true, Bool.true_eq_false, ne_eq, true_iff, iff_true, false_iff, iff_false, Bool.not_eq_true, Bool.not_eq_false] at *; omega)) hk3
  | (simp (disch := omega) only [Int.tdiv_eq_ediv_of_nonneg, Int.tmod_eq_emod_of_nonneg] at *; omega)
end Go.Proofs.YtnbpkbjhekgfoaaGreatDoor
