import Derived.Test.YtnbpkbjhekgfoaaGreatDoorNe
set_option linter.unusedSimpArgs false
set_option linter.unusedVariables false
namespace Go.Proofs.YtnbpkbjhekgfoaaGreatDoor
open Go Go.Cx
noncomputable def sees (c : ConfM) (top : Int) (k : Nat) : List Nat := (List.range k).filter fun i => belowB (c.cl.getD i default).lab top
def natEl (l : List Nat) : Nat → List SV := fun i => [ci ((l.getD i 0 : Nat) : Int)]
noncomputable def seesN (c : ConfM) (top : Int) : List Nat := if (chk c).1 = 0 then sees c top c.cl.length else []
noncomputable def seesR (c : ConfM) (top : Int) : SV := .tup [.isl 1 (seesN c top).length (natEl (seesN c top)), ci (chk c).1]
theorem sees_in {c : ConfM} {top : Int} {k : Nat} (h : belowB (c.cl.getD k default).lab top = true) : sees c top (k + 1) = sees c top k ++ [k] := by
 unfold sees; rw [List.range_succ, List.filter_append]; simp only [List.filter_cons, List.filter_nil, h]; simp
theorem sees_out {c : ConfM} {top : Int} {k : Nat} (h : belowB (c.cl.getD k default).lab top = false) : sees c top (k + 1) = sees c top k := by
 unfold sees; rw [List.range_succ, List.filter_append]; simp only [List.filter_cons, List.filter_nil, h]; simp
theorem sees_len (c : ConfM) (top : Int) (k : Nat) : (sees c top k).length ≤ k := by
 have := List.length_filter_le (fun i => belowB (c.cl.getD i default).lab top) (List.range k)
 rw [List.length_range] at this; exact this
def Nats (l : List Nat) (n : Nat) (el : Nat → List SV) : Prop := n = l.length ∧ ∀ i, i < n → el i = natEl l i
theorem Nats.nil : Nats [] 0 fun _ => [] := ⟨rfl, fun i h => absurd h (by omega)⟩
theorem Nats.snoc {l : List Nat} {n : Nat} {el : Nat → List SV} (h : Nats l n el) (k : Nat) : Nats (l ++ [k]) (n + 1) (catEl n el (cutEl 1 [ci k])) := by
 obtain ⟨rfl, h⟩ := h
 refine ⟨by simp, fun i hi => ?_⟩
 unfold catEl natEl
 split
 ·rename_i hq
  rw [h i hq]; unfold natEl
  rw [List.getD_eq_getElem?_getD, List.getD_eq_getElem?_getD, List.getElem?_append_left hq]
 ·rename_i hq
  have : i = l.length := by omega
  subst this
  simp [cutEl]
theorem Nats.same {l : List Nat} {n : Nat} {el : Nat → List SV} (h : Nats l n el) {v w : SV} (hv : v = w) : Same (.tup [.isl 1 n el, v]) (.tup [.isl 1 l.length (natEl l), w]) := by
 obtain ⟨rfl, h⟩ := h
 subst hv
 exact .tup (.cons (.isl h) (.cons (.refl _) .nil))
theorem seesN_ok {c : ConfM} {top : Int} (h : ((chk c).1 != 0) = false) : seesN c top = sees c top c.cl.length := by
 unfold seesN; rw [if_pos (by simpa using h)]
theorem seesN_err {c : ConfM} {top : Int} (h : ((chk c).1 != 0) = true) : seesN c top = [] := by
 unfold seesN; rw [if_neg (by simpa using h)]
theorem seesR_err {c : ConfM} {top : Int} (h : ((chk c).1 != 0) = true) : Same (.tup [.cv .nils, ci (chk c).1]) (seesR c top) := by
 unfold seesR; rw [seesN_err h]; exact .tup (.cons .nils (.cons (.refl _) .nil))
theorem seesR_ok {c : ConfM} {top : Int} (h : ((chk c).1 != 0) = false) {k n : Nat} {el : Nat → List SV} (hk : k = c.cl.length) (hn : Nats (sees c top k) n el) : Same (.tup [.isl 1 n el, ci 0]) (seesR c top) := by
 subst hk
 unfold seesR; rw [seesN_ok h]; exact hn.same (congrArg ci (by simpa using h)).symm
set_option maxRecDepth 100000 in
set_option maxHeartbeats 4000000 in
theorem Sees_d (c : ConfM) (hc : Lim c) (top : Int) : DSpec Tryz.prog noX [] 48 [.agg (confS c), cu top] [] (fun v O => v = seesR c top ∧ O = []) := by
 refine DSpec.same (post := fun v O => Same v (seesR c top) ∧ O = []) ?_ fun v O h => ⟨_, h.1, rfl, h.2⟩
 refine dspec_of { ann := [(6, [22, 8])], nils := [(6, [(.slot 8, 3, 1)])] } true Tryz.func48 (by kernel_rfl) rfl ?_
 repeat' (
   (conv => whnf)
   first
    | exact closedB (by kernel_rfl)
    | refine And.intro ?_ ?_
    | refine splitB_intro ?_ ?_
    | ((refine ⟨fun vs O _ => ∃ (k n : Nat) (el : Nat → List SV), k ≤ c.cl.length ∧ Nats (sees c top k) n el ∧ vs = [ci k, .lst 1] ∧ O = [.cells 30 (confS c), .list 3 1 n el], fun vs O => match vs with | [.cv (.int _ k), _] => c.cl.length - k.toNat | _ => 0, ⟨0, _, _, Nat.zero_le _, Nats.nil, rfl, rfl⟩, ?_⟩; rintro vs O _ ⟨k, n, el, hk, hn, rfl, rfl⟩))
    | (refine ⟨_, Check_d c hc.cl hc.rl, ?_⟩; rintro v O' ⟨rfl, rfl⟩)
    | (refine ⟨_, Below_d _ _, ?_⟩; rintro v O' ⟨rfl, rfl⟩)
    | intro _)
 all_goals first
  | rfl
  | omega
  | exact seesR_err (by assumption)
  | exact seesR_ok (by assumption) (by (simp only [inB, List.getD_eq_getElem?_getD, Bool.and_eq_true, Bool.or_eq_true, Bool.and_eq_false_iff, Bool.or_eq_false_iff, Bool.not_eq_true', Bool.not_eq_false', decide_eq_true_eq, decide_eq_false_iff_not, beq_iff_eq, bne_iff_ne, bne_eq_false_iff_eq, beq_eq_false_iff_ne, Bool.false_eq_true, Bool.true_eq_false, ne_eq, true_iff, iff_true, false_iff, iff_false, Bool.not_eq_true, Bool.not_eq_false] at *; omega)) hn
  | exact ⟨k + 1, _, _, by (simp only [inB, List.getD_eq_getElem?_getD, Bool.and_eq_true, Bool.or_eq_true, Bool.and_eq_false_iff, Bool.or_eq_false_iff, Bool.not_eq_true', Bool.not_eq_false', decide_eq_true_eq, decide_eq_false_iff_not, beq_iff_eq, bne_iff_ne, bne_eq_false_iff_eq, beq_eq_false_iff_ne, Bool.false_eq_true, Bool.true_eq_false, ne_eq, true_iff, iff_true, false_iff, iff_false, Bool.not_eq_true, Bool.not_eq_false] at *; omega), by rw [sees_in (by assumption)]; exact hn.snoc k, rfl, rfl⟩
  | exact ⟨k + 1, _, _, by (simp only [inB, List.getD_eq_getElem?_getD, Bool.and_eq_true, Bool.or_eq_true, Bool.and_eq_false_iff, Bool.or_eq_false_iff, Bool.not_eq_true', Bool.not_eq_false', decide_eq_true_eq, decide_eq_false_iff_not, beq_iff_eq, bne_iff_ne, bne_eq_false_iff_eq, beq_eq_false_iff_ne, Bool.false_eq_true, Bool.true_eq_false, ne_eq, true_iff, iff_true, false_iff, iff_false, Bool.not_eq_true, Bool.not_eq_false] at *; omega), by rw [sees_out (by assumption)]; exact hn, rfl, rfl⟩
  | (have := hn.1; have := sees_len c top k; have := (chk_ok (c := c) (by first | simpa using (by assumption : ((chk c).1 != 0) = false) | simpa using (by assumption : ((chk c).1 == 0) = true))).cl; (simp only [inB, List.getD_eq_getElem?_getD, Bool.and_eq_true, Bool.or_eq_true, Bool.and_eq_false_iff, Bool.or_eq_false_iff, Bool.not_eq_true', Bool.not_eq_false', decide_eq_true_eq, decide_eq_false_iff_not, beq_iff_eq, bne_iff_ne, bne_eq_false_iff_eq, beq_eq_false_iff_ne, Bool.false_eq_true, Bool.true_eq_false, ne_eq, true_iff, iff_true, false_iff, iff_false, Bool.not_eq_true, Bool.not_eq_false] at *; omega))
def sumP (c : ConfM) (l : List Nat) : Int := (l.map fun i => (c.cl.getD i default).size).sum
theorem seesN_chk {c : ConfM} {top : Int} {k : Nat} (h : k < (seesN c top).length) : (chk c).1 = 0 := by
 unfold seesN at h
 split at h
 ·assumption
 ·simp at h
theorem seesN_get {c : ConfM} {top : Int} {k : Nat} (h : k < (seesN c top).length) : (seesN c top).getD k 0 < c.cl.length := by
 have hm : (seesN c top).getD k 0 ∈ seesN c top := by
  rw [List.getD_eq_getElem?_getD, List.getElem?_eq_getElem h]; exact List.getElem_mem h
 have hc := seesN_chk h
 have hx : ∀ x ∈ seesN c top, x < c.cl.length := fun x hx => by
  unfold seesN at hx
  rw [if_pos hc] at hx
  unfold sees at hx
  exact List.mem_range.1 (List.mem_filter.1 hx).1
 exact hx _ hm
theorem sumP_succ (c : ConfM) {l : List Nat} {k : Nat} (h : k < l.length) : sumP c (l.take (k + 1)) = sumP c (l.take k) + (c.cl.getD (l.getD k 0) default).size := by
 unfold sumP
 rw [List.take_add_one, List.getElem?_eq_getElem h, List.map_append, List.sum_append, List.getD_eq_getElem?_getD (l := l), List.getElem?_eq_getElem h]
 simp
theorem seesN_pf {c : ConfM} {top : Int} {k : Nat} (h : k < (seesN c top).length) : (seesN c top).getD k 0 < c.cl.length ∧ 1 ≤ (c.cl.getD ((seesN c top).getD k 0) default).size ∧ (c.cl.getD ((seesN c top).getD k 0) default).size ≤ 64 ∧ sumP c ((seesN c top).take (k + 1)) = sumP c ((seesN c top).take k) + (c.cl.getD ((seesN c top).getD k 0) default).size := by
 have hg := seesN_get h
 have ho := (chk_ok (seesN_chk h)).oc _ hg
 unfold okC at ho
 exact ⟨hg, by (simp only [inB, List.getD_eq_getElem?_getD, Bool.and_eq_true, Bool.or_eq_true, Bool.and_eq_false_iff, Bool.or_eq_false_iff, Bool.not_eq_true', Bool.not_eq_false', decide_eq_true_eq, decide_eq_false_iff_not, beq_iff_eq, bne_iff_ne, bne_eq_false_iff_eq, beq_eq_false_iff_ne, Bool.false_eq_true, Bool.true_eq_false, ne_eq, true_iff, iff_true, false_iff, iff_false, Bool.not_eq_true, Bool.not_eq_false] at *; omega), by (simp only [inB, List.getD_eq_getElem?_getD, Bool.and_eq_true, Bool.or_eq_true, Bool.and_eq_false_iff, Bool.or_eq_false_iff, Bool.not_eq_true', Bool.not_eq_false', decide_eq_true_eq, decide_eq_false_iff_not, beq_iff_eq, bne_iff_ne, bne_eq_false_iff_eq, beq_eq_false_iff_ne, Bool.false_eq_true, Bool.true_eq_false, ne_eq, true_iff, iff_true, false_iff, iff_false, Bool.not_eq_true, Bool.not_eq_false] at *; omega), sumP_succ c h⟩
theorem sum_bd {c : ConfM} {top : Int} : ∀ {k : Nat}, k ≤ (seesN c top).length → 0 ≤ sumP c ((seesN c top).take k) ∧ sumP c ((seesN c top).take k) ≤ 64 * k ∧ (seesN c top).length ≤ 8
 | 0, _ => by
  refine ⟨by simp [sumP], by simp [sumP], ?_⟩
  cases hq : (seesN c top).length with
  | zero => omega
  | succ n =>
   have h0 := seesN_chk (c := c) (top := top) (k := 0) (by omega)
   have h1 := (chk_ok h0).cl
   have h2 : (seesN c top).length ≤ c.cl.length := by unfold seesN; rw [if_pos h0]; exact sees_len _ _ _
   omega
 | k + 1, h => by
  obtain ⟨h1, h2, h3⟩ := sum_bd (c := c) (top := top) (k := k) (by omega)
  obtain ⟨p1, p2, p3, p4⟩ := seesN_pf (c := c) (top := top) (k := k) (by omega)
  rw [p4]
  exact ⟨by omega, by omega, h3⟩
theorem sum_end {c : ConfM} {top : Int} {k : Nat} (hk : k ≤ (seesN c top).length) (h : decide ((k : Int) < (seesN c top).length) = false) : sumP c ((seesN c top).take k) = sumP c (seesN c top) := by
 rw [List.take_of_length_le (by (simp only [inB, List.getD_eq_getElem?_getD, Bool.and_eq_true, Bool.or_eq_true, Bool.and_eq_false_iff, Bool.or_eq_false_iff, Bool.not_eq_true', Bool.not_eq_false', decide_eq_true_eq, decide_eq_false_iff_not, beq_iff_eq, bne_iff_ne, bne_eq_false_iff_eq, beq_eq_false_iff_ne, Bool.false_eq_true, Bool.true_eq_false, ne_eq, true_iff, iff_true, false_iff, iff_false, Bool.not_eq_true, Bool.not_eq_false] at *; omega))]
noncomputable def placesOf (c : ConfM) (top : Int) : Int := sumP c (seesN c top)
set_option maxRecDepth 100000 in
set_option maxHeartbeats 4000000 in
theorem Places_d (c : ConfM) (hc : Lim c) (top : Int) : DSpec Tryz.prog noX [] 32 [.agg (confS c), cu top] [] (fun v O => v = .tup [ci (placesOf c top), ci (chk c).1] ∧ O = []) := by
 refine dspec_of { ann := [(4, [19, 8])] } true Tryz.func32 (by kernel_rfl) rfl ?_
 repeat' (
   (conv => whnf)
   first
    | exact closedB (by kernel_rfl)
    | refine And.intro ?_ ?_
    | refine splitB_intro ?_ ?_
    | ((refine ⟨fun vs O _ => ∃ (k : Nat), k ≤ (seesN c top).length ∧ vs = [ci k, .cv (.int .u16 (sumP c ((seesN c top).take k)))] ∧ O = [.cells 30 (confS c)], fun vs O => match vs with | [.cv (.int _ k), _] => (seesN c top).length - k.toNat | _ => 0, ⟨0, Nat.zero_le _, rfl, rfl⟩, ?_⟩; rintro vs O _ ⟨k, hk, rfl, rfl⟩))
    | (refine ⟨_, Sees_d c hc top, ?_⟩; rintro v O' ⟨rfl, rfl⟩)
    | intro _)
 all_goals try (have hlt : k < (seesN c top).length := by (simp only [inB, List.getD_eq_getElem?_getD, Bool.and_eq_true, Bool.or_eq_true, Bool.and_eq_false_iff, Bool.or_eq_false_iff, Bool.not_eq_true', Bool.not_eq_false', decide_eq_true_eq, decide_eq_false_iff_not, beq_iff_eq, bne_iff_ne, bne_eq_false_iff_eq, beq_eq_false_iff_ne, Bool.false_eq_true, Bool.true_eq_false, ne_eq, true_iff, iff_true, false_iff, iff_false, Bool.not_eq_true, Bool.not_eq_false] at *; omega)
                obtain ⟨p1, p2, p3, p4⟩ := seesN_pf hlt)
 all_goals have pb := sum_bd hk
 all_goals try simp only [Int.toNat_natCast] at *
 all_goals first
  | rfl
  | omega
  | (simp only [inB, List.getD_eq_getElem?_getD, Bool.and_eq_true, Bool.or_eq_true, Bool.and_eq_false_iff, Bool.or_eq_false_iff, Bool.not_eq_true', Bool.not_eq_false', decide_eq_true_eq, decide_eq_false_iff_not, beq_iff_eq, bne_iff_ne, bne_eq_false_iff_eq, beq_eq_false_iff_ne, Bool.false_eq_true, Bool.true_eq_false, ne_eq, true_iff, iff_true, false_iff, iff_false, Bool.not_eq_true, Bool.not_eq_false] at *; omega)
  | exact ⟨k + 1, hlt, by rw [p4]; rfl, rfl⟩
  | exact congrArg (fun x => SV.tup [ci x, ci (chk c).1]) (sum_end hk (by assumption))
end Go.Proofs.YtnbpkbjhekgfoaaGreatDoor
