/-
  The program's tokens: contracts of its functions up to Next.
-/
import Derived.Test.YtdpoebadaomfgaaVn
import Derived.Test.YtdpoebadaomfgaaKa
import Derived.Test.YtdpoebadaomfgaaProg
import Derived.KernelRfl
import Derived.Shelf.Abstract

set_option linter.unusedSimpArgs false
set_option linter.unusedVariables false
namespace Go.Proofs.Ytdpoebadaomfgaa
open Go Go.Pw

set_option maxRecDepth 10000 in
theorem class_c (c : Int) (h : Hp) : CSpec Try.prog 54 [.int .u8 c] [] h (fun sv o h' => sv = .int .i64 (cls c) ∧ o = [] ∧ h' = h) := by
  refine spec_of_swpF {} Try.func54 (enters_of Try.func54 (by kernel_rfl) rfl) rfl ?_
  repeat' ((conv => whnf); (first | refine And.intro ?_ ?_ | intro _))
  all_goals first | rfl | (simp [cls] at *; omega)

def cur (o : List (Option SObj)) : Nat :=
  match o with
  | some (.cells _ (_ :: .int _ n :: _)) :: _ => n.toNat
  | _ => 0

def scn (s : List UInt8) (a fr : Int) : SObj := .cells 69 [.str s, .int .i64 a, .int .i64 fr]

def runJ (s : List UInt8) (k : Int) (a : Nat) (fr : Int) (h : Hp) : SK := fun vs o h' => ∃ n : Nat, a + n ≤ s.length ∧ rl k (s.drop a) = n + rl k (s.drop (a + n)) ∧ vs = [] ∧ o = [some (.cells 69 [.str s, .int .i64 (a + n : Nat), .int .i64 fr])] ∧ h' = h

theorem runJ_cell (s : List UInt8) (k : Int) (a : Nat) (fr : Int) (h : Hp) (x : Int) (n : Nat) (hx : x = ((a + n : Nat) : Int)) (hn : a + n ≤ s.length) (hrl : rl k (s.drop a) = n + rl k (s.drop (a + n))) :
    runJ s k a fr h [] [some (.cells 69 [.str s, .int .i64 x, .int .i64 fr])] h := ⟨n, hn, hrl, rfl, by rw [hx], rfl⟩

set_option maxRecDepth 10000 in
theorem run_c (s : List UInt8) (k : Int) (x : Int) (a : Nat) (fr : Int) (hx : x = a) (ha : a ≤ s.length) (hs : s.length ≤ 1000000) (h : Hp) :
    CSpec Try.prog 37 [.ptr 0 0, .int .i64 k] [.cells 69 [.str s, .int .i64 x, .int .i64 fr]] h
      (fun sv o h' => sv = .int .i64 (rl k (s.drop a)) ∧ o = [some (.cells 69 [.str s, .int .i64 (a + rl k (s.drop a) : Nat), .int .i64 fr])] ∧ h' = h) := by
  subst hx
  refine spec_of_swpF { ann := [(2, { slots := [] })] } Try.func37 (enters_of Try.func37 (by kernel_rfl) rfl) rfl ?_
  conv => whnf
  refine ⟨runJ s k a fr h, fun _ o _ => s.length - cur o, ⟨rfl, 0, by omega, by simp, rfl, rfl, rfl⟩, ?_⟩
  rintro vs o1 h1 _ ⟨n, hn, hrl, rfl, rfl, rfl⟩
  have hd := rl_drop k s (a + n)
  have he := rl_end k s (a + n)
  repeat' (
      (conv => whnf)
      first
        | exact closedB (by kernel_rfl)
        | refine And.intro ?_ ?_
        | (refine ⟨_, ⟨rfl, (class_c _ _).mono (by rintro _ _ _ ⟨rfl, _⟩; rfl)⟩, ?_⟩)
        | intro _)
  all_goals simp only [decide_eq_true_eq, decide_eq_false_iff_not, beq_iff_eq, beq_eq_false_iff_ne] at *
  all_goals first
    | rfl
    | omega
    | (rename_i h2; rw [if_pos h2] at hd; refine runJ_cell s k a fr h1 _ (n + 1) (by omega) (by omega) (by rw [hrl, hd (by omega)]; simp only [Nat.add_assoc, Nat.add_comm]))
    | (simp only [cur]; omega)
    | (rename_i h2; rw [if_neg h2] at hd; rw [hrl, hd (by omega)]; first | (apply congrArg; omega) | rfl)
    | (rw [hrl, he (by omega)]; first | (apply congrArg; omega) | rfl)

set_option maxRecDepth 10000 in
theorem number_c (s : List UInt8) (x : Int) (a : Nat) (fr : Int) (hx : x = a) (ha : a ≤ s.length) (hs : s.length ≤ 1000000) (h : Hp) :
    CSpec Try.prog 55 [.ptr 0 0] [.cells 69 [.str s, .int .i64 x, .int .i64 fr]] h
      (fun sv o h' => sv = .bexp (numB (s.drop a)) ∧ o = [some (.cells 69 [.str s, .int .i64 (a + nNeg (s.drop a) + nDig (s.drop a) : Nat), .int .i64 fr])] ∧ h' = h) := by
  have h1 := rl_le' 4 s a ha
  have h2 := rl_le' 3 s _ h1
  have e1 : nDig (s.drop a) = rl 3 (s.drop (a + rl 4 (s.drop a))) := by simp [nDig, nNeg, List.drop_drop]
  have e2 : gb (s.drop a) (nNeg (s.drop a) : Nat) = gb s (a + rl 4 (s.drop a) : Nat) := by simp [gb, nNeg, List.getD]; rfl
  refine spec_of_swpF {} Try.func55 (enters_of Try.func55 (by kernel_rfl) rfl) rfl ?_
  repeat' (
      (conv => whnf)
      first
        | exact closedB (by kernel_rfl)
        | refine And.intro ?_ ?_
        | (refine ⟨_, run_c s 4 _ a _ hx ha hs _, ?_⟩; rintro sv o' h' _ ⟨rfl, rfl, rfl⟩)
        | (refine ⟨_, run_c s 3 _ (a + rl 4 (s.drop a)) _ rfl h1 hs _, ?_⟩; rintro sv o' h' _ ⟨rfl, rfl, rfl⟩)
        | intro _)
  all_goals try simp only [numB, e2, e1]
  all_goals try simp only [nNeg]
  all_goals clear e1 e2
  all_goals simp only [Bool.and_eq_true, Bool.or_eq_true, Bool.not_eq_true', Bool.not_eq_false', decide_eq_true_eq, decide_eq_false_iff_not, beq_iff_eq, bne_iff_ne, bne_eq_false_iff_eq, beq_eq_false_iff_ne, Bool.false_eq_true, Bool.true_eq_false, ne_eq] at *
  all_goals first
    | rfl
    | omega
    | (refine congrArg SV.bexp ?_; rw [Bool.eq_iff_iff]; simp only [Bool.and_eq_true, Bool.or_eq_true, Bool.not_eq_true', Bool.not_eq_false', decide_eq_true_eq, decide_eq_false_iff_not, beq_iff_eq, bne_iff_ne, bne_eq_false_iff_eq, beq_eq_false_iff_ne, Bool.false_eq_true, true_iff, false_iff, Bool.true_eq_false, ne_eq] at *; omega)

def isPre (p s : List UInt8) : Bool := p.isPrefixOf s

theorem sub_pre (p s : List UInt8) : (sub s 0 p.length == p) = isPre p s := by
  rw [Bool.eq_iff_iff]
  simp only [sub, isPre, beq_iff_eq, List.isPrefixOf_iff_prefix, Int.toNat_natCast, Int.toNat_zero, List.drop_zero, Nat.sub_zero]
  exact ⟨fun h => List.prefix_iff_eq_take.2 h.symm, fun h => (List.prefix_iff_eq_take.1 h).symm⟩

set_option maxRecDepth 10000 in
theorem hasPrefix_in (s p : List UInt8) (h : Hp) : CSpec Try.prog 83 [.str s, .str p] [] h (fun sv o h' => sv = .bexp (isPre p s) ∧ o = [] ∧ h' = h) := by
  refine spec_of_swpF {} Try.func83 (enters_of Try.func83 (by kernel_rfl) rfl) rfl ?_
  repeat' (
      (conv => whnf)
      first
        | exact closedB (by kernel_rfl)
        | refine And.intro ?_ ?_
        | intro _)
  all_goals simp only [decide_eq_true_eq, decide_eq_false_iff_not] at *
  all_goals first
    | rfl
    | omega
    | rw [sub_pre]
    | (congr 1; symm; rw [isPre, Bool.eq_false_iff]; intro hp; have := (List.isPrefixOf_iff_prefix.1 hp).length_le; omega)

set_option maxRecDepth 10000 in
theorem hasPrefix_c (s p : List UInt8) (h : Hp) : CSpec Try.prog 72 [.str s, .str p] [] h (fun sv o h' => sv = .bexp (isPre p s) ∧ o = [] ∧ h' = h) := by
  refine spec_of_swpF {} Try.func72 (enters_of Try.func72 (by kernel_rfl) rfl) rfl ?_
  repeat' (
      (conv => whnf)
      first
        | exact closedB (by kernel_rfl)
        | refine And.intro ?_ ?_
        | (refine ⟨_, hasPrefix_in _ _ _, ?_⟩; rintro sv o' h' _ ⟨rfl, rfl, rfl⟩)
        | intro _)
  all_goals rfl

def sgs16 : List (List UInt8) := [[33, 61], [60, 61], [62, 61], [59], [124], [123], [125], [44], [40], [41], [91], [93], [64], [58], [61], [60]]

set_option maxRecDepth 100000 in
theorem signs_c (h : Hp) : CSpec Try.prog 71 [] [] h (fun sv o h' => sv = .agg (sgs16.map .str) ∧ o = [] ∧ h' = h) := by
  refine spec_of_swpF {} Try.func71 (enters_of Try.func71 (by kernel_rfl) rfl) rfl ?_
  repeat' (
      (conv => whnf)
      first
        | exact closedB (by kernel_rfl)
        | refine And.intro ?_ ?_
        | intro _)
  all_goals kernel_rfl

def sgAt (n : Nat) : List UInt8 := sgs.getD n []
theorem sgAt_part (n : Nat) (h : n < 16) : sPart Try.prog 9 (sgs16.map SV.str) (n * 1) = some (.str (sgAt n)) := by
  obtain rfl | rfl | rfl | rfl | rfl | rfl | rfl | rfl | rfl | rfl | rfl | rfl | rfl | rfl | rfl | rfl : n = 0 ∨ n = 1 ∨ n = 2 ∨ n = 3 ∨ n = 4 ∨ n = 5 ∨ n = 6 ∨ n = 7 ∨ n = 8 ∨ n = 9 ∨ n = 10 ∨ n = 11 ∨ n = 12 ∨ n = 13 ∨ n = 14 ∨ n = 15 := by omega
  all_goals kernel_rfl

theorem sgAt_pos (n : Nat) (h : n < 17) : 0 < (sgAt n).length ∧ (sgAt n).length ≤ 2 := by
  obtain rfl | rfl | rfl | rfl | rfl | rfl | rfl | rfl | rfl | rfl | rfl | rfl | rfl | rfl | rfl | rfl | rfl : n = 0 ∨ n = 1 ∨ n = 2 ∨ n = 3 ∨ n = 4 ∨ n = 5 ∨ n = 6 ∨ n = 7 ∨ n = 8 ∨ n = 9 ∨ n = 10 ∨ n = 11 ∨ n = 12 ∨ n = 13 ∨ n = 14 ∨ n = 15 ∨ n = 16 := by omega
  all_goals decide

theorem scnEq {s : List UInt8} {x y fr : Int} (h : x = y) : [some (SObj.cells 69 [.str s, .int .i64 x, .int .i64 fr])] = [some (scn s y fr)] := by rw [h]; rfl

def signJ (s : List UInt8) (a : Nat) (fr : Int) (h : Hp) : SK := fun vs o h' => ∃ n : Nat, n ≤ 16 ∧ (∀ i, i < n → isPre (sgAt i) (s.drop a) = false) ∧ vs = [.int .i64 n] ∧ o = [some (scn s a fr)] ∧ h' = h

theorem sgLen_at (l : List UInt8) (n : Nat) (hn : n < 17) (h0 : ∀ i, i < n → isPre (sgAt i) l = false) (h1 : isPre (sgAt n) l = true) : sgLen l = (sgAt n).length := by
  have : sgs.find? (fun x => x.isPrefixOf l) = some (sgAt n) := by
    rw [List.find?_eq_some_iff_getElem]
    refine ⟨h1, n, hn, by have hn' : n < sgs.length := hn; simp only [sgAt, List.getD, List.getElem?_eq_getElem hn', Option.getD_some]; rfl, fun j hj => ?_⟩
    have := h0 j hj
    simp only [isPre, sgAt, List.getD, List.getElem?_eq_getElem (show j < sgs.length by have : sgs.length = 17 := rfl; omega), Option.getD_some] at this
    simp [this]
  simp [sgLen, this]
theorem sgLen_none (l : List UInt8) (h0 : ∀ i, i < 17 → isPre (sgAt i) l = false) : sgLen l = 0 := by
  have : sgs.find? (fun x => x.isPrefixOf l) = none := by
    rw [List.find?_eq_none]
    intro x hx
    obtain ⟨i, hi, rfl⟩ := List.getElem_of_mem hx
    have := h0 i hi
    simp only [isPre, sgAt, List.getD, List.getElem?_eq_getElem hi, Option.getD_some] at this
    simp [this]
  simp [sgLen, this]

set_option maxRecDepth 10000 in
theorem sign_c (s : List UInt8) (x : Int) (a : Nat) (fr : Int) (hx : x = a) (ha : a ≤ s.length) (hs : s.length ≤ 1000000) (h : Hp) :
    CSpec Try.prog 56 [.ptr 0 0] [.cells 69 [.str s, .int .i64 x, .int .i64 fr]] h
      (fun sv o h' => sv = .bexp (decide (0 < sgLen (s.drop a))) ∧ o = [some (scn s (a + sgLen (s.drop a) : Nat) fr)] ∧ h' = h) := by
  subst hx
  have hsub : sub s a s.length = s.drop a := by simp only [sub, Int.toNat_natCast]; exact List.take_of_length_le (by simp)
  refine spec_of_swpF { ann := [(3, { slots := [18] })] } Try.func56 (enters_of Try.func56 (by kernel_rfl) rfl) rfl ?_
  repeat' (
      (conv => whnf)
      first
        | exact closedB (by kernel_rfl)
        | refine And.intro ?_ ?_
        | (refine ⟨_, signs_c _, ?_⟩; rintro sv o' h' _ ⟨rfl, rfl, rfl⟩)
        | intro _)
  all_goals first | rfl | omega | skip
  conv => whnf
  refine ⟨signJ s a fr _, fun vs _ _ => match vs with | [.int _ n] => 16 - n.toNat | _ => 0, ⟨rfl, 0, by omega, by simp, rfl, rfl, rfl⟩, ?_⟩
  rintro vs o1 h1 _ ⟨n, hn, h0, rfl, rfl, rfl⟩
  have hp := sgAt_part n
  repeat' (
      (conv => whnf)
      first
        | exact closedB (by kernel_rfl)
        | refine And.intro ?_ ?_
        | (refine ⟨_, hasPrefix_c _ _ _, ?_⟩; rintro sv o' h' _ ⟨rfl, rfl, rfl⟩)
        | ((refine ⟨.str (sgAt n), ⟨?_, .str (sgAt n), hp (by simp at *; omega), fun _ => rfl, rfl⟩, ?_⟩))
        | intro _)
  all_goals simp only [Bool.and_eq_true, Bool.or_eq_true, Bool.not_eq_true', Bool.not_eq_false', decide_eq_true_eq, decide_eq_false_iff_not, beq_iff_eq, bne_iff_ne, bne_eq_false_iff_eq, beq_eq_false_iff_ne, Bool.false_eq_true, Bool.true_eq_false, ne_eq] at *
  all_goals rw [hsub] at *
  all_goals first
    | rfl
    | omega
    | (refine ⟨n + 1, by omega, fun i hi => ?_, by simp, rfl, rfl⟩; by_cases h : i = n; (subst h; assumption); exact h0 i (by omega))
    | (have hg := sgLen_at _ n (by omega) h0 (by assumption); have hl := sgLen_le (s.drop a); have hq := sgAt_pos n (by omega); rw [List.length_drop] at hl; first | omega | (refine scnEq ?_; omega) | (refine congrArg SV.bexp ?_; rw [Bool.eq_iff_iff]; simp only [Bool.and_eq_true, Bool.or_eq_true, Bool.not_eq_true', Bool.not_eq_false', decide_eq_true_eq, decide_eq_false_iff_not, beq_iff_eq, bne_iff_ne, bne_eq_false_iff_eq, beq_eq_false_iff_ne, Bool.false_eq_true, true_iff, false_iff, Bool.true_eq_false, ne_eq] at *; omega))
    | (obtain rfl : n = 16 := by omega
       have hg := sgLen_at _ 16 (by omega) h0 (by assumption); have hl := sgLen_le (s.drop a); have hq : (sgAt 16).length = 1 := rfl; rw [List.length_drop] at hl; first | omega | (refine scnEq ?_; omega) | (refine congrArg SV.bexp ?_; rw [Bool.eq_iff_iff]; simp only [Bool.and_eq_true, Bool.or_eq_true, Bool.not_eq_true', Bool.not_eq_false', decide_eq_true_eq, decide_eq_false_iff_not, beq_iff_eq, bne_iff_ne, bne_eq_false_iff_eq, beq_eq_false_iff_ne, Bool.false_eq_true, true_iff, false_iff, Bool.true_eq_false, ne_eq] at *; omega))
    | (obtain rfl : n = 16 := by omega
       have hg := sgLen_none (s.drop a) (fun i hi => by by_cases h : i = 16; (subst h; assumption); exact h0 i (by omega))
       first | omega | (refine scnEq ?_; omega) | (refine congrArg SV.bexp ?_; rw [Bool.eq_iff_iff]; simp only [Bool.and_eq_true, Bool.or_eq_true, Bool.not_eq_true', Bool.not_eq_false', decide_eq_true_eq, decide_eq_false_iff_not, beq_iff_eq, bne_iff_ne, bne_eq_false_iff_eq, beq_eq_false_iff_ne, Bool.false_eq_true, true_iff, false_iff, Bool.true_eq_false, ne_eq] at *; omega))
end Go.Proofs.Ytdpoebadaomfgaa
