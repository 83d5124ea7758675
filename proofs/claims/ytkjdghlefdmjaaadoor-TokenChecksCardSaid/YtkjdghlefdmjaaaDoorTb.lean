import Derived.Test.YtkjdghlefdmjaaaDoorAx
import Derived.Test.YtkjdghlefdmjaaaDoorAz
import Derived.Test.YtkjdghlefdmjaaaDoorTa
set_option linter.unusedSimpArgs false
set_option linter.unusedVariables false
set_option maxRecDepth 100000
namespace Go.Proofs.YtkjdghlefdmjaaaDoor
open Go Go.Cx
theorem gbN_bd (s : List Nat) (i : Int) : 0 ≤ gbN s i ∧ gbN s i ≤ 255 := by unfold gbN; omega
theorem class_d (c : Int) (hc : 0 ≤ c ∧ c ≤ 255) : DSpec Tryd.prog axX axG 43 [.cv (.int .u8 c)] [] (fun v O => v = ai (cls c) ∧ O = []) := by
 refine dspec_of { glb := axG } true Tryd.func43 (by kernel_rfl) rfl ?_
 repeat' (
   (conv => whnf)
   first
    | exact closedB (by kernel_rfl)
    | refine And.intro ?_ ?_
    | refine splitB_intro ?_ ?_
    | intro _)
 all_goals first
  | rfl
  | (refine congrArg (fun x => SV.cv (CV.int .i64 x)) ?_; simp only [zz] at *; unfold cls; repeat' split <;> omega)
abbrev scn (s : List Nat) (x fr : Int) : SObj := .cells 69 [.cv (.str s), ai x, ai fr]
theorem scnE {s : List Nat} {x y fr : Int} (h : x = y) : [scn s x fr] = [scn s y fr] := by rw [h]
theorem aiE {x y : Int} (h : x = y) : ai x = ai y := by rw [h]
theorem nn {x y : Int} (h : y ≤ x) : (x - y).NonNeg := h
theorem rl_step {k : Int} {s : List Nat} {a n : Nat} (hn : a + n < s.length) (hrl : rl k (s.drop a) = n + rl k (s.drop (a + n))) (hk : cls (gbN s ((a + n : Nat) : Int)) = k) : rl k (s.drop a) = (n + 1) + rl k (s.drop (a + (n + 1))) := by
 have hd := rl_drop k s (a + n) hn
 rw [if_pos hk] at hd
 rw [hrl, hd, Nat.add_assoc a n 1]; omega
theorem rl_stop {k : Int} {s : List Nat} {a n : Nat} (hn : a + n < s.length) (hrl : rl k (s.drop a) = n + rl k (s.drop (a + n))) (hk : ¬ cls (gbN s ((a + n : Nat) : Int)) = k) : rl k (s.drop a) = n := by
 have hd := rl_drop k s (a + n) hn
 rw [if_neg hk] at hd
 rw [hrl, hd]; rfl
theorem rl_stop' {k : Int} {s : List Nat} {a n : Nat} (hn : s.length ≤ a + n) (hrl : rl k (s.drop a) = n + rl k (s.drop (a + n))) : rl k (s.drop a) = n := by
 rw [hrl, rl_end k s (a + n) hn]; rfl
theorem run_d (s : List Nat) (k : Int) (x : Int) (a : Nat) (fr : Int) (hx : x = a) (ha : a ≤ s.length) (hs : s.length ≤ 1000000) : DSpec Tryd.prog axX axG 29 [.ptr 0 0, ai k] [scn s x fr] (fun v O => v = ai (rl k (s.drop a)) ∧ O = [scn s ((a + rl k (s.drop a) : Nat) : Int) fr]) := by
 subst hx
 refine dspec_of { glb := axG, ann := [(2, [])] } true Tryd.func29 (by kernel_rfl) rfl ?_
 repeat' (
   (conv => whnf)
   first
    | exact closedB (by kernel_rfl)
    | refine And.intro ?_ ?_
    | refine splitB_intro ?_ ?_
    | (refine ⟨_, class_d _ (gbN_bd _ _), ?_⟩; rintro v O' ⟨rfl, rfl⟩)
    | ((refine ⟨fun vs O g => ∃ n : Nat, a + n ≤ s.length ∧ rl k (s.drop a) = n + rl k (s.drop (a + n)) ∧ vs = [] ∧ O = [scn s ((a + n : Nat) : Int) fr], fun vs O => match O with | .cells _ (_ :: .cv (.int _ n) :: _) :: _ => s.length - n.toNat | _ => 0, ⟨0, by omega, by simp, rfl, rfl⟩, ?_⟩; rintro vs O g ⟨n, hn, hrl, rfl, rfl⟩))
    | intro _)
 all_goals first
  | rfl
  | omega
  | (simp only [zz] at *; omega)
  | exact ⟨n + 1, by (simp only [zz] at *; omega), rl_step (by (simp only [zz] at *; omega)) hrl (by simp only [zz] at *; assumption), rfl, scnE (by omega)⟩
  | (simp only [zz] at *; refine aiE ?_; rw [rl_stop (by omega) hrl (by assumption)]; omega)
  | (simp only [zz] at *; refine aiE ?_; rw [rl_stop' (by omega) hrl]; omega)
  | (simp only [zz] at *; refine scnE ?_; rw [rl_stop (by omega) hrl (by assumption)])
  | (simp only [zz] at *; refine scnE ?_; rw [rl_stop' (by omega) hrl])
theorem numB_d (s : List Nat) (x : Int) (a : Nat) (fr : Int) (hx : x = a) (ha : a ≤ s.length) (hs : s.length ≤ 1000000) : DSpec Tryd.prog axX axG 44 [.ptr 0 0] [scn s x fr] (fun v O => v = ab (numB (s.drop a)) ∧ O = [scn s ((a + nNeg (s.drop a) + nDig (s.drop a) : Nat) : Int) fr]) := by
 have h1 := rl_le' 4 s a ha
 have h2 := rl_le' 3 s _ h1
 have e1 : nDig (s.drop a) = rl 3 (s.drop (a + rl 4 (s.drop a))) := by unfold nDig nNeg; rw [List.drop_drop]
 have e2 : gbN (s.drop a) (rl 4 (s.drop a) : Nat) = gbN s ((a + rl 4 (s.drop a) : Nat) : Int) := by
  unfold gbN
  rw [Int.toNat_natCast, Int.toNat_natCast, List.getD_eq_getElem?_getD, List.getD_eq_getElem?_getD, List.getElem?_drop]
 refine dspec_of { glb := axG } true Tryd.func44 (by kernel_rfl) rfl ?_
 repeat' (
   (conv => whnf)
   first
    | exact closedB (by kernel_rfl)
    | refine And.intro ?_ ?_
    | refine splitB_intro ?_ ?_
    | (refine ⟨_, run_d s 4 _ a _ hx ha hs, ?_⟩; rintro v O' ⟨rfl, rfl⟩)
    | (refine ⟨_, run_d s 3 _ (a + rl 4 (s.drop a)) _ rfl h1 hs, ?_⟩; rintro v O' ⟨rfl, rfl⟩)
    | intro _)
 all_goals try simp only [numB, nNeg, e2, e1]
 all_goals clear e1 e2
 all_goals first
  | rfl
  | omega
  | (simp only [zz] at *; omega)
  | exact scnE (by omega)
  | ((try (refine congrArg (fun b => SV.cv (CV.bool b)) ?_)); (try rw [Bool.eq_iff_iff]); simp only [zz] at *; first | done | omega)
theorem isPre_short {p s : List Nat} (h : ¬ p.length ≤ s.length) : isPre p s = false := by unfold isPre; rw [decide_eq_false h]; rfl
theorem hasPre0_d (s p : List Nat) (hs : s.length ≤ 1000000) : DSpec Tryd.prog axX axG 57 [.cv (.str s), .cv (.str p)] [] (fun v O => v = ab (isPre p s) ∧ O = []) := by
 refine dspec_of { glb := axG } true Tryd.func57 (by kernel_rfl) rfl ?_
 repeat' (
   (conv => whnf)
   first
    | exact closedB (by kernel_rfl)
    | refine And.intro ?_ ?_
    | refine splitB_intro ?_ ?_
    | intro _)
 all_goals first
  | rfl
  | omega
  | (simp only [zz] at *; omega)
  | (refine congrArg (fun b => SV.cv (CV.bool b)) ?_; unfold isPre; simp only [zz] at *; rw [decide_eq_true (by omega), Bool.true_and]; unfold subN; rw [Int.toNat_natCast]; rfl)
  | (refine congrArg (fun b => SV.cv (CV.bool b)) ?_; simp only [zz] at *; rw [isPre_short (by omega)])
theorem hasPre_d (s p : List Nat) (hs : s.length ≤ 1000000) : DSpec Tryd.prog axX axG 55 [.cv (.str s), .cv (.str p)] [] (fun v O => v = ab (isPre p s) ∧ O = []) := by
 refine dspec_of { glb := axG } true Tryd.func55 (by kernel_rfl) rfl ?_
 repeat' (
   (conv => whnf)
   first
    | exact closedB (by kernel_rfl)
    | refine And.intro ?_ ?_
    | refine splitB_intro ?_ ?_
    | (refine ⟨_, hasPre0_d s p hs, ?_⟩; rintro v O' ⟨rfl, rfl⟩)
    | intro _)
 all_goals first
  | rfl
theorem signs_d : DSpec Tryd.prog axX axG 54 [] [] (fun v O => v = .agg [.cv (.str [33, 61]), .cv (.str [60, 61]), .cv (.str [62, 61]), .cv (.str [59]), .cv (.str [124]), .cv (.str [123]), .cv (.str [125]), .cv (.str [44]), .cv (.str [40]), .cv (.str [41]), .cv (.str [91]), .cv (.str [93]), .cv (.str [64]), .cv (.str [58]), .cv (.str [61]), .cv (.str [60])] ∧ O = []) := by
 refine dspec_of { glb := axG } true Tryd.func54 (by kernel_rfl) rfl ?_
 repeat' (
   (conv => whnf)
   first
    | exact closedB (by kernel_rfl)
    | refine And.intro ?_ ?_
    | refine splitB_intro ?_ ?_
    | intro _)
 all_goals first
  | rfl
  | kernel_rfl
theorem cases16 {k : Nat} (h : k ≤ 16) : k = 0 ∨ k = 1 ∨ k = 2 ∨ k = 3 ∨ k = 4 ∨ k = 5 ∨ k = 6 ∨ k = 7 ∨ k = 8 ∨ k = 9 ∨ k = 10 ∨ k = 11 ∨ k = 12 ∨ k = 13 ∨ k = 14 ∨ k = 15 ∨ k = 16 := by omega
theorem subN_drop {s : List Nat} (a : Nat) : subN s a s.length = s.drop a := by
 unfold subN
 rw [Int.toNat_natCast, Int.toNat_natCast, List.take_of_length_le (by rw [List.length_drop]; omega)]
theorem subN_len {s : List Nat} {a b : Int} : (subN s a b).length ≤ s.length := by
 unfold subN
 rw [List.length_take, List.length_drop]; omega
theorem preZ {l p : List Nat} {k : Nat} (h : ∀ i, i < k → isPre (sgAt i) l = false) (hp : sgAt k = p) (hk : isPre p l = false) : ∀ i, i < k + 1 → isPre (sgAt i) l = false := fun i hi => by
 subst hp
 rcases Nat.lt_succ_iff_lt_or_eq.1 hi with h1 | rfl
 ·exact h i h1
 ·exact hk
theorem sg_found {l p : List Nat} {k : Nat} (hk : k < 17) (h0 : ∀ i, i < k → isPre (sgAt i) l = false) (hp : sgAt k = p) (h1 : isPre p l = true) : sgLen l = p.length ∧ 0 < p.length ∧ p.length ≤ 2 := by
 subst hp
 exact ⟨sgLen_at l k hk h0 h1, sgAt_pos k hk⟩
theorem sg_none {l : List Nat} (h0 : ∀ i, i < 16 → isPre (sgAt i) l = false) (h1 : isPre [62] l = false) : sgLen l = 0 := sgLen_none l (preZ h0 rfl h1)
set_option maxHeartbeats 4000000 in
theorem sign_d (s : List Nat) (x : Int) (a : Nat) (fr : Int) (hx : x = a) (ha : a ≤ s.length) (hs : s.length ≤ 1000000) : DSpec Tryd.prog axX axG 45 [.ptr 0 0] [scn s x fr] (fun v O => v = ab (decide (0 < sgLen (s.drop a))) ∧ O = [scn s ((a + sgLen (s.drop a) : Nat) : Int) fr]) := by
 subst hx
 have hd := subN_drop (s := s) a
 have hle := sgLen_le (s.drop a)
 rw [List.length_drop] at hle
 refine dspec_of { glb := axG, ann := [(3, [18])] } true Tryd.func45 (by kernel_rfl) rfl ?_
 repeat' (
   (conv => whnf)
   first
    | exact closedB (by kernel_rfl)
    | refine And.intro ?_ ?_
    | refine splitB_intro ?_ ?_
    | (refine ⟨_, signs_d, ?_⟩; rintro v O' ⟨rfl, rfl⟩)
    | (refine ⟨_, hasPre_d _ _ (Nat.le_trans subN_len hs), ?_⟩; rintro v O' ⟨rfl, rfl⟩)
    | ((refine ⟨fun vs O g => ∃ k : Nat, k ≤ 16 ∧ (∀ i, i < k → isPre (sgAt i) (subN s a s.length) = false) ∧ vs = [ai k] ∧ O = [scn s a fr], fun vs O => match vs with | [.cv (.int _ k)] => 16 - k.toNat | _ => 0, ⟨0, Nat.zero_le _, fun i hi => absurd hi (Nat.not_lt_zero _), rfl, rfl⟩, ?_⟩; rintro vs O g ⟨k, hk, h0, rfl, rfl⟩; obtain rfl | rfl | rfl | rfl | rfl | rfl | rfl | rfl | rfl | rfl | rfl | rfl | rfl | rfl | rfl | rfl | rfl := cases16 hk))
    | intro _)
 all_goals try rw [hd] at *
 all_goals first
  | rfl
  | omega
  | (simp only [zz] at *; omega)
  | (exfalso; (simp only [zz] at *; omega))
  | (refine nn ?_; simp only [List.length_cons, List.length_nil]; omega)
  | exact ⟨_, by omega, preZ h0 rfl (by simp only [zz] at *; assumption), rfl, rfl⟩
  | (simp only [zz] at *; have hq := sg_found (by omega) h0 rfl (by assumption); refine congrArg (fun b => SV.cv (CV.bool b)) ?_; rw [decide_eq_true (by omega)])
  | exact scnE (by rw [(sg_found (by omega) h0 rfl (by simp only [zz] at *; assumption)).1]; exact (Int.natCast_add _ _).symm)
  | (simp only [zz] at *; have hq := sg_none h0 (by assumption); refine congrArg (fun b => SV.cv (CV.bool b)) ?_; rw [decide_eq_false (by omega)])
  | (refine scnE ?_; have hq := sg_none h0 (by simp only [zz] at *; assumption); omega)
  | exact scnE (by rw [(sg_found (k := 16) (by omega) h0 rfl (by simp only [zz] at *; assumption)).1]; exact (Int.natCast_add _ 1).symm)
end Go.Proofs.YtkjdghlefdmjaaaDoor
