import Derived.Test.YtnbpkbjhekgfoaaGreatDoorNn
import Derived.Test.YtnbpkbjhekgfoaaGreatDoorNm
import Derived.Test.YtnbpkbjhekgfoaaGreatDoorNg
set_option linter.unusedSimpArgs false
set_option linter.unusedVariables false
namespace Go.Proofs.YtnbpkbjhekgfoaaGreatDoor
open Go Go.Cx
theorem below_top (x : Int) : belowB x 18446744073709551615 = true := by
 have h0 : (BitVec.ofInt 64 x &&& ~~~(BitVec.ofInt 64 18446744073709551615)) = 0#64 := by
  rw [show ~~~(BitVec.ofInt 64 18446744073709551615) = 0#64 by decide]; exact BitVec.and_zero
 show (IntKind.u64.wrap (((BitVec.ofInt 64 x &&& ~~~(BitVec.ofInt 64 18446744073709551615)).toNat : Nat) : Int) == 0) = true
 rw [h0]; decide
theorem sees_sum {c : ConfM} {top : Int} : ∀ {k : Nat}, k ≤ c.cl.length → sumP c (sees c top k) = (((c.cl.take k).filter fun x => belowB x.lab top).map ClsM.size).sum
 | 0, _ => by simp [sees, sumP]
 | k + 1, hk => by
  have ih := sees_sum (c := c) (top := top) (k := k) (by omega)
  cases hb : belowB (c.cl.getD k default).lab top with
  | true =>
   rw [sees_in hb, filt_in (p := fun x : ClsM => belowB x.lab top) (by omega) hb]
   unfold sumP at ih ⊢
   rw [List.map_append, List.map_append, List.sum_append, List.sum_append, ih]
   simp
  | false =>
   rw [sees_out hb, filt_out (p := fun x : ClsM => belowB x.lab top) (by omega) hb]
   exact ih
theorem places_sum {c : ConfM} {top : Int} (h : (chk c).1 = 0) : placesOf c top = ((c.cl.filter fun x => belowB x.lab top).map ClsM.size).sum := by
 unfold placesOf seesN
 rw [if_pos h, sees_sum (Nat.le_refl _), List.take_of_length_le (Nat.le_refl _)]
theorem pl_sum {c : ConfM} (h : (chk c).1 = 0) : pl c = (c.cl.map ClsM.size).sum := by
 unfold pl
 rw [places_sum h]
 congr 2
 rw [List.filter_eq_self]
 exact fun x _ => below_top _
structure ChkAll (c : ConfM) : Prop extends ChkOk c where
 ec : ∀ i, i < c.cl.length → errC c.cl i = 0
 er : ∀ i, i < c.rl.length → errR (c.rl.getD i default) = 0
 hz : inB c.hz 1 10000 = true
theorem chk_all {c : ConfM} (h : (chk c).1 = 0) : ChkAll c := by
 refine ⟨chk_ok h, ?_, ?_, ?_⟩
 all_goals
  unfold chk at h
  split at h
  ·cases h
  obtain ⟨h1, h⟩ := pairE_zero h fun p hp => firstE_ne hp
  obtain ⟨h2, h⟩ := pairE_zero h fun p hp => firstE_ne hp
  obtain ⟨h3, h⟩ := pairE_zero h fun p hp => firstE_ne hp
 ·exact fun i hi => firstE_all h1 i (Nat.zero_le _) (by omega)
 ·exact fun i hi => firstE_all h3 i (Nat.zero_le _) (by omega)
 ·cases hb : inB c.hz 1 10000 with
  | true => rfl
  | false => rw [hb] at h; simp at h
theorem labs_pw {l : List ClsM} (h : ∀ i, i < l.length → errC l i = 0) : l.Pairwise fun a b => a.lab ≠ b.lab := by
 rw [List.pairwise_iff_getElem]
 intro i j hi hj hij hq
 have h1 := h j hj
 unfold errC at h1
 rw [seenB_yes (k := i) hij (by omega) (by rw [List.getD_eq_getElem?_getD, List.getD_eq_getElem?_getD, List.getElem?_eq_getElem hi, List.getElem?_eq_getElem hj]; exact hq)] at h1
 split at h1 <;> simp at h1
theorem errC_of {l : List ClsM} (ho : ∀ x ∈ l, okC x = true) (hp : l.Pairwise fun a b => a.lab ≠ b.lab) (i : Nat) (hi : i < l.length) : errC l i = 0 := by
 refine errC_new ?_ (seenB_no (by omega) fun k hk => ?_)
 ·rw [List.getD_eq_getElem?_getD, List.getElem?_eq_getElem hi]; exact ho _ (List.getElem_mem hi)
 ·rw [List.getD_eq_getElem?_getD, List.getD_eq_getElem?_getD, List.getElem?_eq_getElem hi, List.getElem?_eq_getElem (by omega)]
  exact List.pairwise_iff_getElem.1 hp k i (by omega) hi hk
theorem getD_mem {A : Type} [Inhabited A] {l : List A} {x : A} (h : x ∈ l) : ∃ i, i < l.length ∧ l.getD i default = x := by
 obtain ⟨i, hi, rfl⟩ := List.mem_iff_getElem.1 h
 exact ⟨i, hi, by rw [List.getD_eq_getElem?_getD, List.getElem?_eq_getElem hi]; rfl⟩
end Go.Proofs.YtnbpkbjhekgfoaaGreatDoor
