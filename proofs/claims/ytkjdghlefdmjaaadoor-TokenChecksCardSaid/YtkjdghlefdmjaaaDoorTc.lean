import Derived.Test.YtkjdghlefdmjaaaDoorTb
set_option linter.unusedSimpArgs false
set_option linter.unusedVariables false
set_option maxRecDepth 100000
namespace Go.Proofs.YtkjdghlefdmjaaaDoor
open Go Go.Cx
theorem head_cls {s : List Nat} {a : Nat} (h : a < s.length) : clsN ((s.drop a).headD 0) = cls (gbN s a) := by
 rw [List.drop_eq_getElem_cons h]
 show clsN s[a] = _
 rw [clsN, gbN, Int.toNat_natCast, List.getD_eq_getElem?_getD, List.getElem?_eq_getElem h]; rfl
theorem beg_1 {l : List Nat} (h : clsN (l.headD 0) = 1) : beg l = (1, rl 1 l) := by unfold beg; rw [if_pos h]
theorem beg_2 {l : List Nat} (h : clsN (l.headD 0) = 2) : beg l = (2, 1) := by unfold beg; rw [if_neg (by rw [h]; decide), if_pos h]
theorem beg_3 {l : List Nat} (h : clsN (l.headD 0) = 3 ∨ clsN (l.headD 0) = 4) : beg l = if numB l then (3, nNeg l + nDig l) else (0, 0) := by
 unfold beg; rw [if_neg (by omega), if_neg (by omega), if_pos h]
theorem beg_4 {l : List Nat} (h : clsN (l.headD 0) ≠ 1 ∧ clsN (l.headD 0) ≠ 2 ∧ clsN (l.headD 0) ≠ 3 ∧ clsN (l.headD 0) ≠ 4) : beg l = if 0 < sgLen l then (4, sgLen l) else (0, 0) := by
 unfold beg; rw [if_neg h.1, if_neg h.2.1, if_neg (by omega)]
structure TEnd (s : List Nat) (a : Nat) (k p : Int) : Prop where
 kind : k = (beg (s.drop a)).1
 pos : k ≠ 0 → p = ((a + (beg (s.drop a)).2 : Nat) : Int)
theorem tend_1 {s : List Nat} {a : Nat} {p : Int} (h : a < s.length) (hc : cls (gbN s a) = 1) (hp : p = ((a + rl 1 (s.drop a) : Nat) : Int)) : TEnd s a 1 p := by
 rw [← head_cls h] at hc
 exact ⟨by rw [beg_1 hc], fun _ => by rw [beg_1 hc]; exact hp⟩
theorem tend_2 {s : List Nat} {a : Nat} {p : Int} (h : a < s.length) (hc : cls (gbN s a) = 2) (hp : p = a + 1) : TEnd s a 2 p := by
 rw [← head_cls h] at hc
 exact ⟨by rw [beg_2 hc], fun _ => by rw [beg_2 hc]; exact hp⟩
theorem tend_3 {s : List Nat} {a : Nat} {p : Int} (h : a < s.length) (hc : cls (gbN s a) = 3 ∨ cls (gbN s a) = 4) (hn : numB (s.drop a) = true) (hp : p = ((a + nNeg (s.drop a) + nDig (s.drop a) : Nat) : Int)) : TEnd s a 3 p := by
 rw [← head_cls h] at hc
 have hb := beg_3 hc
 rw [hn, if_pos rfl] at hb
 exact ⟨by rw [hb], fun _ => by rw [hb, hp]; simp only; omega⟩
theorem tend_30 {s : List Nat} {a : Nat} {p : Int} (h : a < s.length) (hc : cls (gbN s a) = 3 ∨ cls (gbN s a) = 4) (hn : numB (s.drop a) = false) : TEnd s a 0 p := by
 rw [← head_cls h] at hc
 have hb := beg_3 hc
 rw [hn] at hb
 exact ⟨by rw [hb]; rfl, fun h => absurd rfl h⟩
theorem tend_4 {s : List Nat} {a : Nat} {p : Int} (h : a < s.length) (hc : cls (gbN s a) ≠ 1 ∧ cls (gbN s a) ≠ 2 ∧ cls (gbN s a) ≠ 3 ∧ cls (gbN s a) ≠ 4) (hn : 0 < sgLen (s.drop a)) (hp : p = ((a + sgLen (s.drop a) : Nat) : Int)) : TEnd s a 4 p := by
 rw [← head_cls h] at hc
 have hb := beg_4 hc
 rw [if_pos hn] at hb
 exact ⟨by rw [hb], fun _ => by rw [hb]; exact hp⟩
theorem tend_40 {s : List Nat} {a : Nat} {p : Int} (h : a < s.length) (hc : cls (gbN s a) ≠ 1 ∧ cls (gbN s a) ≠ 2 ∧ cls (gbN s a) ≠ 3 ∧ cls (gbN s a) ≠ 4) (hn : ¬ 0 < sgLen (s.drop a)) : TEnd s a 0 p := by
 rw [← head_cls h] at hc
 have hb := beg_4 hc
 rw [if_neg hn] at hb
 exact ⟨by rw [hb], fun h => absurd rfl h⟩
theorem token_d (s : List Nat) (x : Int) (a : Nat) (fr : Int) (hx : x = a) (ha : a < s.length) (hs : s.length ≤ 1000000) : DSpec Tryd.prog axX axG 30 [.ptr 0 0] [scn s x fr] (fun v O => ∃ k p : Int, v = ai k ∧ O = [scn s p fr] ∧ TEnd s a k p) := by
 subst hx
 refine dspec_of { glb := axG } true Tryd.func30 (by kernel_rfl) rfl ?_
 repeat' (
   (conv => whnf)
   first
    | exact closedB (by kernel_rfl)
    | refine And.intro ?_ ?_
    | refine splitB_intro ?_ ?_
    | (refine ⟨_, class_d _ (gbN_bd _ _), ?_⟩; rintro v O' ⟨rfl, rfl⟩)
    | (refine ⟨_, run_d s 1 _ a _ rfl (Nat.le_of_lt ha) hs, ?_⟩; rintro v O' ⟨rfl, rfl⟩)
    | (refine ⟨_, numB_d s _ a _ rfl (Nat.le_of_lt ha) hs, ?_⟩; rintro v O' ⟨rfl, rfl⟩)
    | (refine ⟨_, sign_d s _ a _ rfl (Nat.le_of_lt ha) hs, ?_⟩; rintro v O' ⟨rfl, rfl⟩)
    | intro _)
 all_goals first
  | rfl
  | omega
  | (simp only [zz] at *; omega)
  | exact ⟨_, _, rfl, rfl, tend_1 ha (by (simp only [zz] at *; omega)) rfl⟩
  | exact ⟨_, _, rfl, rfl, tend_2 ha (by (simp only [zz] at *; omega)) rfl⟩
  | exact ⟨_, _, rfl, rfl, tend_3 ha (by (simp only [zz] at *; omega)) (by assumption) rfl⟩
  | exact ⟨_, _, rfl, rfl, tend_30 ha (by (simp only [zz] at *; omega)) (by assumption)⟩
  | exact ⟨_, _, rfl, rfl, tend_4 ha (by (simp only [zz] at *; omega)) (by (simp only [zz] at *; omega)) rfl⟩
  | exact ⟨_, _, rfl, rfl, tend_40 ha (by (simp only [zz] at *; omega)) (by (simp only [zz] at *; omega))⟩
theorem nxt_bad {s : List Nat} {i : Int} (h : i < 0 ∨ (s.length : Int) < i) : nxt s i = (tok0, 0, ⟨2, 0⟩) := by unfold nxt; rw [if_pos h]
theorem nxt_end {s : List Nat} {n : Nat} (h : n ≤ s.length) (he : n + rl 5 (s.drop n) = s.length) : nxt s n = (tok0, 0, ⟨5, ((n + rl 5 (s.drop n) : Nat) : Int)⟩) := by
 unfold nxt
 rw [if_neg (by omega)]
 simp only [Int.toNat_natCast]
 rw [if_pos he]
theorem nxt_none {s : List Nat} {n : Nat} (h : n ≤ s.length) (he : n + rl 5 (s.drop n) ≠ s.length) (hb : (beg (s.drop (n + rl 5 (s.drop n)))).1 = 0) : nxt s n = (tok0, 0, ⟨3, ((n + rl 5 (s.drop n) : Nat) : Int)⟩) := by
 unfold nxt
 rw [if_neg (by omega)]
 simp only [Int.toNat_natCast]
 rw [if_neg he, if_pos hb]
theorem nxt_some {s : List Nat} {n : Nat} (h : n ≤ s.length) (he : n + rl 5 (s.drop n) ≠ s.length) (hb : (beg (s.drop (n + rl 5 (s.drop n)))).1 ≠ 0) : nxt s n = (⟨(beg (s.drop (n + rl 5 (s.drop n)))).1, (s.drop (n + rl 5 (s.drop n))).take (beg (s.drop (n + rl 5 (s.drop n)))).2, ((n + rl 5 (s.drop n) : Nat) : Int)⟩, ((n + rl 5 (s.drop n) : Nat) : Int) + (beg (s.drop (n + rl 5 (s.drop n)))).2, flt0) := by
 unfold nxt
 rw [if_neg (by omega)]
 simp only [Int.toNat_natCast]
 rw [if_neg he, if_neg hb]
theorem subN_take {s : List Nat} {a b : Nat} : subN s a ((a + b : Nat) : Int) = (s.drop a).take b := by
 unfold subN
 rw [Int.toNat_natCast, Int.toNat_natCast, Nat.add_sub_cancel_left]
def nxtS (r : Tok × Int × Flt) : SV := .tup [.agg (tokS r.1), ai r.2.1, .agg (fltS r.2.2)]
theorem nxtE {r r' : Tok × Int × Flt} (h : r' = r) : nxtS r = nxtS r' := by rw [h]
theorem nxt_out {s : List Nat} {n : Nat} {k p : Int} (h : n ≤ s.length) (he : n + rl 5 (s.drop n) ≠ s.length) (hk : k = (beg (s.drop (n + rl 5 (s.drop n)))).1) (h0 : (k == 0) = false) (hp : p = ((n + rl 5 (s.drop n) + (beg (s.drop (n + rl 5 (s.drop n)))).2 : Nat) : Int)) :
  SV.tup [.agg [ai k, .cv (.str (subN s ((n + rl 5 (s.drop n) : Nat) : Int) p)), ai ((n + rl 5 (s.drop n) : Nat) : Int)], ai p, .agg [ai 0, ai 0]] = nxtS (nxt s n) := by
 have hb : (beg (s.drop (n + rl 5 (s.drop n)))).1 ≠ 0 := by rw [← hk]; intro h; rw [h] at h0; cases h0
 rw [nxt_some h he hb, ← subN_take, ← hk, hp]
 rfl
theorem Next_d (s : List Nat) (i : Int) (hs : s.length ≤ 1000000) : DSpec Tryd.prog axX axG 21 [.cv (.str s), ai i] [] (fun v O => v = nxtS (nxt s i) ∧ O = []) := by
 by_cases hi : i < 0 ∨ (s.length : Int) < i
 ·rw [nxt_bad hi]
  refine dspec_of { glb := axG } true Tryd.func21 (by kernel_rfl) rfl ?_
  repeat' (
    (conv => whnf)
    first
     | exact closedB (by kernel_rfl)
     | refine And.intro ?_ ?_
     | refine splitB_intro ?_ ?_
     | (refine ⟨_, run_d s 5 _ 0 _ rfl (Nat.zero_le _) hs, ?_⟩; rintro v O' ⟨rfl, rfl⟩)
     | intro _)
  all_goals first
   | rfl
   | omega
   | (simp only [zz] at *; omega)
   | (exfalso; (simp only [zz] at *; omega))
 ·obtain ⟨n, rfl⟩ : ∃ n : Nat, i = n := ⟨i.toNat, by omega⟩
  have hn : n ≤ s.length := by omega
  have hr := rl_le' 5 s n hn
  have hlt : ∀ h : n + rl 5 (s.drop n) ≠ s.length, n + rl 5 (s.drop n) < s.length := fun h => by omega
  refine dspec_of { glb := axG } true Tryd.func21 (by kernel_rfl) rfl ?_
  repeat' (
    (conv => whnf)
    first
     | exact closedB (by kernel_rfl)
     | refine And.intro ?_ ?_
     | refine splitB_intro ?_ ?_
     | (refine ⟨_, run_d s 5 _ n _ rfl hn hs, ?_⟩; rintro v O' ⟨rfl, rfl⟩)
     | (refine ⟨_, token_d s _ (n + rl 5 (s.drop n)) _ rfl (by (simp only [zz] at *; omega)) hs, ?_⟩; rintro v O' ⟨k, p, rfl, rfl, ⟨hk, hp⟩⟩)
     | intro _)
  all_goals try have hb2 := beg_le (s.drop (n + rl 5 (s.drop n))) (by rw [List.length_drop]; (simp only [zz] at *; omega))
  all_goals try rw [List.length_drop] at hb2
  all_goals try have hp := hp (by (simp only [zz] at *; omega))
  all_goals first
   | rfl
   | omega
   | (simp only [zz] at *; omega)
   | (exfalso; (simp only [zz] at *; omega))
   | exact nxtE (nxt_end hn (by (simp only [zz] at *; omega)))
   | exact nxtE (nxt_none hn (by (simp only [zz] at *; omega)) (by (simp only [zz] at *; omega)))
   | exact nxt_out hn (by (simp only [zz] at *; omega)) hk (by assumption) hp
end Go.Proofs.YtkjdghlefdmjaaaDoor
