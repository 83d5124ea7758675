import Derived.Test.YtdhgpmhlnechbaaGreatDoorNn
import Derived.Test.YtdhgpmhlnechbaaGreatDoorNm
import Derived.Test.YtdhgpmhlnechbaaGreatDoorNg
/-
  Below a label there is less: plain facts.
-/
set_option linter.unusedSimpArgs false
set_option linter.unusedVariables false
namespace Go.Proofs.YtdhgpmhlnechbaaGreatDoor
open Go Go.Cx

theorem below_top (x : Int) : belowB x 18446744073709551615 = true := by
  have h0 : (BitVec.ofInt 64 x &&& ~~~(BitVec.ofInt 64 18446744073709551615)) = 0#64 := by
    rw [show ~~~(BitVec.ofInt 64 18446744073709551615) = 0#64 by decide]; exact BitVec.and_zero
  show (IntKind.u64.wrap (((BitVec.ofInt 64 x &&& ~~~(BitVec.ofInt 64 18446744073709551615)).toNat : Nat) : Int) == 0) = true
  rw [h0]; decide
theorem sees_sum {c : ConfM} {top : Int} : ∀ {k : Nat}, k ≤ c.cl.length → sumP c (sees c top k) = (((c.cl.take k).filter fun x => belowB x.lab top).map ClsM.size).sum
  | 0, _ => by simp [sees, sumP]
  | k + 1, hk => by
    have ih := sees_sum (c := c) (top := top) (k := k) (by omega)
    cases hb : belowB (c.cl.getD k default).lab top with
    | true =>
      rw [sees_in hb, filt_in (p := fun x : ClsM => belowB x.lab top) (by omega) hb]
      unfold sumP at ih ⊢
      rw [List.map_append, List.map_append, List.sum_append, List.sum_append, ih]
      simp
    | false =>
      rw [sees_out hb, filt_out (p := fun x : ClsM => belowB x.lab top) (by omega) hb]
      exact ih
theorem places_sum {c : ConfM} {top : Int} (h : (chk c).1 = 0) : placesOf c top = ((c.cl.filter fun x => belowB x.lab top).map ClsM.size).sum := by
  unfold placesOf seesN
  rw [if_pos h, sees_sum (Nat.le_refl _), List.take_of_length_le (Nat.le_refl _)]
theorem pl_sum {c : ConfM} (h : (chk c).1 = 0) : pl c = (c.cl.map ClsM.size).sum := by
  unfold pl
  rw [places_sum h]
  congr 2
  rw [List.filter_eq_self]
  exact fun x _ => below_top _
theorem sum_filter_le {p : ClsM → Bool} : ∀ {l : List ClsM}, (∀ x ∈ l, 0 ≤ x.size) → ((l.filter p).map ClsM.size).sum ≤ (l.map ClsM.size).sum
  | [], _ => by simp
  | x :: l, h => by
    have ih := sum_filter_le (p := p) (l := l) fun y hy => h y (List.mem_cons_of_mem _ hy)
    have h0 := h x List.mem_cons_self
    rw [List.filter_cons]
    split <;> simp <;> omega
structure ChkAll (c : ConfM) : Prop extends ChkOk c where
  ec : ∀ i, i < c.cl.length → errC c.cl i = 0
  er : ∀ i, i < c.rl.length → errR (c.rl.getD i default) = 0
  hz : inB c.hz 1 10000 = true
theorem chk_all {c : ConfM} (h : (chk c).1 = 0) : ChkAll c := by
  refine ⟨chk_ok h, ?_, ?_, ?_⟩
  all_goals
    unfold chk at h
    split at h
    · cases h
    obtain ⟨h1, h⟩ := pairE_zero h fun p hp => firstE_ne hp
    obtain ⟨h2, h⟩ := pairE_zero h fun p hp => firstE_ne hp
    obtain ⟨h3, h⟩ := pairE_zero h fun p hp => firstE_ne hp
  · exact fun i hi => firstE_all h1 i (Nat.zero_le _) (by omega)
  · exact fun i hi => firstE_all h3 i (Nat.zero_le _) (by omega)
  · cases hb : inB c.hz 1 10000 with
    | true => rfl
    | false => rw [hb] at h; simp at h
theorem labs_pw {l : List ClsM} (h : ∀ i, i < l.length → errC l i = 0) : l.Pairwise fun a b => a.lab ≠ b.lab := by
  rw [List.pairwise_iff_getElem]
  intro i j hi hj hij hq
  have h1 := h j hj
  unfold errC at h1
  rw [seenB_yes (k := i) hij (by omega) (by rw [List.getD_eq_getElem?_getD, List.getD_eq_getElem?_getD, List.getElem?_eq_getElem hi, List.getElem?_eq_getElem hj]; exact hq)] at h1
  split at h1 <;> simp at h1
theorem errC_of {l : List ClsM} (ho : ∀ x ∈ l, okC x = true) (hp : l.Pairwise fun a b => a.lab ≠ b.lab) (i : Nat) (hi : i < l.length) : errC l i = 0 := by
  refine errC_new ?_ (seenB_no (by omega) fun k hk => ?_)
  · rw [List.getD_eq_getElem?_getD, List.getElem?_eq_getElem hi]; exact ho _ (List.getElem_mem hi)
  · rw [List.getD_eq_getElem?_getD, List.getD_eq_getElem?_getD, List.getElem?_eq_getElem hi, List.getElem?_eq_getElem (by omega)]
    exact List.pairwise_iff_getElem.1 hp k i (by omega) hi hk
theorem getD_mem {A : Type} [Inhabited A] {l : List A} {x : A} (h : x ∈ l) : ∃ i, i < l.length ∧ l.getD i default = x := by
  obtain ⟨i, hi, rfl⟩ := List.mem_iff_getElem.1 h
  exact ⟨i, hi, by rw [List.getD_eq_getElem?_getD, List.getElem?_eq_getElem hi]; rfl⟩
theorem mem_getD {A : Type} [Inhabited A] {l : List A} {i : Nat} (h : i < l.length) : l.getD i default ∈ l := by
  rw [List.getD_eq_getElem?_getD, List.getElem?_eq_getElem h]; exact List.getElem_mem h
theorem low_chk {c : ConfM} {top : Int} (h : (chk c).1 = 0) : chk (belowC c top) = (0, 0) := by
  have hc := chk_all h
  have l1 : (belowC c top).cl.length ≤ c.cl.length := List.length_filter_le _ _
  have l2 : (belowC c top).rl.length ≤ c.rl.length := List.length_filter_le _ _
  have c8 := hc.cl
  have r8 := hc.rl
  rw [chk_end (by simp; omega) (by simp; omega) (errC_of (fun x hx => ?_) ((labs_pw hc.ec).filter _)) (fun i hi => ?_) (fun i hi => ?_)]
  · exact if_pos hc.hz
  · obtain ⟨i, hi, rfl⟩ := getD_mem (List.mem_filter.1 hx).1
    exact hc.oc i hi
  · have : (belowC c top).ten i = c.ten i := by
      unfold ConfM.ten belowC; split <;> rfl
    rw [this]; unfold errT; rw [if_pos (hc.ot i hi)]
  · obtain ⟨j, hj, hq⟩ := getD_mem (List.mem_filter.1 (mem_getD hi)).1
    show errR ((List.filter (fun x => belowB x.auth top) c.rl).getD i default) = 0
    rw [← hq]
    exact hc.er j hj
theorem low_pl {c : ConfM} {top : Int} (h : (chk c).1 = 0) : pl (belowC c top) = placesOf c top ∧ pl (belowC c top) ≤ pl c := by
  have hl := low_chk (top := top) h
  rw [pl_sum (by rw [hl]), places_sum h, pl_sum h]
  refine ⟨rfl, sum_filter_le fun x hx => ?_⟩
  obtain ⟨i, hi, rfl⟩ := getD_mem hx
  have := (chk_all h).oc i hi
  unfold okC at this
  (simp only [inB, List.getD_eq_getElem?_getD, Bool.and_eq_true, Bool.or_eq_true, Bool.and_eq_false_iff, Bool.or_eq_false_iff, Bool.not_eq_true', Bool.not_eq_false', decide_eq_true_eq, decide_eq_false_iff_not, beq_iff_eq, bne_iff_ne, bne_eq_false_iff_eq, beq_eq_false_iff_ne, Bool.false_eq_true, Bool.true_eq_false, ne_eq, true_iff, iff_true, false_iff, iff_false, Bool.not_eq_true, Bool.not_eq_false] at *; omega)
theorem pat_mono {x : TenM} {p q : Int} (hx : okT x = true) (h0 : 0 ≤ p) (h : p ≤ q) : pat x p ≤ pat x q := by
  have hb := okT_bud hx
  have hq : 0 ≤ x.qs := by unfold okT at hx; (simp only [inB, List.getD_eq_getElem?_getD, Bool.and_eq_true, Bool.or_eq_true, Bool.and_eq_false_iff, Bool.or_eq_false_iff, Bool.not_eq_true', Bool.not_eq_false', decide_eq_true_eq, decide_eq_false_iff_not, beq_iff_eq, bne_iff_ne, bne_eq_false_iff_eq, beq_eq_false_iff_ne, Bool.false_eq_true, Bool.true_eq_false, ne_eq, true_iff, iff_true, false_iff, iff_false, Bool.not_eq_true, Bool.not_eq_false] at *; omega)
  have m0 : 0 ≤ x.qs * (p + 1) := Int.mul_nonneg hq (by omega)
  have m1 : x.qs * (p + 1) ≤ x.qs * (q + 1) := Int.mul_le_mul_of_nonneg_left (by omega) hq
  obtain ⟨a1, a2, a3, a4⟩ := dv (a := x.qs * (p + 1) + x.bud - 1) (b := x.bud) (by omega) hb.1
  obtain ⟨b1, b2, b3, b4⟩ := dv (a := x.qs * (q + 1) + x.bud - 1) (b := x.bud) (by omega) hb.1
  have : (x.qs * (p + 1) + x.bud - 1).tdiv x.bud * x.bud < ((x.qs * (q + 1) + x.bud - 1).tdiv x.bud + 1) * x.bud := by rw [Int.add_mul]; omega
  have := Int.lt_of_mul_lt_mul_right this (by omega)
  unfold pat
  omega
end Go.Proofs.YtdhgpmhlnechbaaGreatDoor
