import Derived.Test.YtnbpkbjhekgfoaaGreatDoorNl
import Derived.Test.YtnbpkbjhekgfoaaGreatDoorNd
set_option linter.unusedSimpArgs false
set_option linter.unusedVariables false
namespace Go.Proofs.YtnbpkbjhekgfoaaGreatDoor
open Go Go.Cx
theorem tm_in {a : Int} (m : Int) (ha : 0 ≤ a) (hm : 0 < m) : 0 ≤ a.tmod m ∧ a.tmod m < m := ⟨Int.tmod_nonneg _ ha, Int.tmod_lt_of_pos _ hm⟩
theorem td_in {a : Int} (m : Int) (ha : 0 ≤ a) (hm : 0 ≤ m) : 0 ≤ a.tdiv m := Int.tdiv_nonneg ha hm
theorem inB_mk {x l h : Int} (h1 : l ≤ x) (h2 : x ≤ h) : inB x l h = true := by unfold inB; simp [h1, h2]
variable {K : Int} (hK : 0 ≤ K)
include hK
theorem cfg_len : 2 ≤ (cfgOf K).cl.length ∧ (cfgOf K).cl.length ≤ 5 ∧ (cfgOf K).rl.length ≤ 4 := by
 have h1 := tm_in 4 hK (by decide)
 have h2 := tm_in 5 (td_in 2177280 hK (by decide)) (by decide)
 simp only [cfgOf, List.length_map, List.length_range]
 omega
omit hK in
theorem cfg_cl {i : Nat} (hi : i < (cfgOf K).cl.length) : (cfgOf K).cl.getD i default = clsOf K i := by
 simp only [cfgOf, List.length_map, List.length_range] at hi ⊢
 simp [hi]
omit hK in
theorem cfg_rl {i : Nat} (hi : i < (cfgOf K).rl.length) : (cfgOf K).rl.getD i default = ruleOf K (2 + K.tmod 4).toNat i := by
 simp only [cfgOf, List.length_map, List.length_range] at hi ⊢
 simp [hi]
theorem cls_ok (i : Nat) : okC (clsOf K i) = true := by
 have h1 := td_in 4 hK (by decide)
 have h2 := td_in 28 hK (by decide)
 have h3 := tm_in (a := K.tdiv 4 + 3 * i) 7 (by omega) (by decide)
 have h4 := tm_in (a := K.tdiv 28 + i) 5 (by omega) (by decide)
 unfold okC clsOf
 simp only [Bool.and_eq_true]
 exact ⟨inB_mk (by omega) (by omega), inB_mk (by omega) (by omega)⟩
omit hK in
theorem lab_ne {i j : Nat} (hi : i < 5) (hj : j < i) : (clsOf K j).lab ≠ (clsOf K i).lab := by
 show [0, 1, 2, 3, 5].getD j (0 : Int) ≠ [0, 1, 2, 3, 5].getD i 0
 have : ∀ i, i < 5 → ∀ j, j < i → [0, 1, 2, 3, 5].getD j (0 : Int) ≠ [0, 1, 2, 3, 5].getD i 0 := by decide
 exact this i hi j hj
theorem cfg_errC (i : Nat) (hi : i < (cfgOf K).cl.length) : errC (cfgOf K).cl i = 0 := by
 have hl := cfg_len hK
 refine errC_new (by rw [cfg_cl hi]; exact cls_ok hK i) (seenB_no (by omega) fun k hk => ?_)
 rw [cfg_cl hi, cfg_cl (by omega)]
 exact lab_ne (by omega) hk
theorem tn_ok (t : Nat) : okT (tnOf K t) = true := by
 have a1 := tm_in (a := K.tdiv 140 + t) 9 (by have := td_in 140 hK (by decide); omega) (by decide)
 have a2 := tm_in (a := K.tdiv 1260 + t) 3 (by have := td_in 1260 hK (by decide); omega) (by decide)
 have a3 := tm_in (a := K.tdiv 3780 + t) 4 (by have := td_in 3780 hK (by decide); omega) (by decide)
 have a4 := tm_in (a := K.tdiv 15120 + t) 4 (by have := td_in 15120 hK (by decide); omega) (by decide)
 have a5 := tm_in (a := K.tdiv 60480 + t) 3 (by have := td_in 60480 hK (by decide); omega) (by decide)
 have b3 : ∀ i, i < 4 → 0 ≤ [64, 8, 3, 20].getD i (0 : Int) ∧ [64, 8, 3, 20].getD i (0 : Int) ≤ 64 := by decide
 have b4 : ∀ i, i < 4 → 0 ≤ [64, 5, 2, 12].getD i (0 : Int) ∧ [64, 5, 2, 12].getD i (0 : Int) ≤ 64 := by decide
 have b5 : ∀ i, i < 3 → 0 ≤ [64, 2, 9].getD i (0 : Int) ∧ [64, 2, 9].getD i (0 : Int) ≤ 64 := by decide
 have b3 := b3 ((K.tdiv 3780 + t).tmod 4).toNat (by omega)
 have b4 := b4 ((K.tdiv 15120 + t).tmod 4).toNat (by omega)
 have b5 := b5 ((K.tdiv 60480 + t).tmod 3).toNat (by omega)
 unfold okT tnOf
 simp only [Bool.and_eq_true]
 exact ⟨inB_mk (by omega) (by omega), inB_mk (by omega) (by omega), inB_mk b3.1 b3.2, inB_mk b4.1 b4.2, inB_mk b5.1 b5.2⟩
theorem cfg_errT (i : Nat) (hi : i < 6) : errT ((cfgOf K).ten i) = 0 := by
 have : (cfgOf K).ten i = tnOf K i := by
  match i, hi with
  | 0, _ => rfl
  | 1, _ => rfl
  | 2, _ => rfl
  | 3, _ => rfl
  | 4, _ => rfl
  | 5, _ => rfl
 rw [this]; unfold errT; rw [if_pos (tn_ok hK i)]
omit hK in
theorem below_all : ([0, 1, 2, 3, 5].all fun l => [0, 1, 2, 3].all fun a => [0, 1].all fun b => belowB (b2 .and .u64 l a) (b2 .or .u64 l b)) = true := by kernel_rfl
omit hK in
theorem mem_lit {l : List Int} {x : Int} (h : ∃ i : Nat, i < l.length ∧ x = l.getD i 0) : x ∈ l := by
 obtain ⟨i, h1, rfl⟩ := h
 rw [List.getD_eq_getElem?_getD, List.getElem?_eq_getElem h1]
 exact List.getElem_mem h1
theorem cfg_errR (i : Nat) (hi : i < (cfgOf K).rl.length) : errR ((cfgOf K).rl.getD i default) = 0 := by
 rw [cfg_rl hi]
 have hn := tm_in 4 hK (by decide)
 generalize hN : (2 + K.tmod 4).toNat = n
 have hn2 : 2 ≤ n ∧ n ≤ 5 := by omega
 have h1 := td_in 5 (td_in 2177280 hK (by decide)) (by decide)
 have hj := tm_in (a := (K.tdiv 2177280).tdiv 5 + 7 * i) 1000 (by omega) (by decide)
 unfold ruleOf
 generalize ((K.tdiv 2177280).tdiv 5 + 7 * (i : Int)).tmod 1000 = j at hj ⊢
 have c1 := tm_in (a := j.tdiv 5) 4 (td_in 5 hj.1 (by decide)) (by decide)
 have c2 := tm_in (a := j.tdiv 7) 3 (td_in 7 hj.1 (by decide)) (by decide)
 have c3 := tm_in (a := j.tdiv 20) 2 (td_in 20 hj.1 (by decide)) (by decide)
 have c4 := tm_in (a := j.tdiv 40) 4 (td_in 40 hj.1 (by decide)) (by decide)
 have c5 := td_in 320 hj.1 (by decide)
 have c6 := tm_in (a := j) (n : Int) hj.1 (by omega)
 have hb := below_all
 simp only [List.all_eq_true] at hb
 have hb := hb ([0, 1, 2, 3, 5].getD (j.tmod n).toNat 0) (mem_lit ⟨_, by show _ < 5; omega, rfl⟩) ((j.tdiv 40).tmod 4) (by simp; omega) ((j.tdiv 20).tmod 2) (by simp; omega)
 unfold errR
 rw [if_pos, if_pos hb, if_pos (by show (-5 : Int) ≤ 3 + j.tdiv 320; omega)]
 unfold okR
 cases hz : ((j.tdiv 160).tmod 2 == 0) with
 | true => simp [inB]; omega
 | false => simp [inB]; omega
theorem cfg_chk : chk (cfgOf K) = (0, 0) := by
 have hl := cfg_len hK
 have hh := tm_in (a := K.tdiv 181440) 12 (td_in 181440 hK (by decide)) (by decide)
 rw [chk_end (by simp; omega) (by simp; omega) (cfg_errC hK) (cfg_errT hK) (cfg_errR hK)]
 exact if_pos (inB_mk (by show 1 ≤ 1 + (K.tdiv 181440).tmod 12; omega) (by show 1 + (K.tdiv 181440).tmod 12 ≤ 10000; omega))
end Go.Proofs.YtnbpkbjhekgfoaaGreatDoor
