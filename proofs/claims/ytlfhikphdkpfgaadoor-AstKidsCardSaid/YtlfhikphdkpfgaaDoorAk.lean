import Derived.Test.YtlfhikphdkpfgaaDoorAj
set_option linter.unusedSimpArgs false
set_option linter.unusedVariables false
set_option maxRecDepth 100000
namespace Go.Proofs.YtlfhikphdkpfgaaDoor
open Go Go.Cx
theorem zc7 (a b : List Nat) : zaV a b = zaV b a := by
 rw [zdl, zdl]
 exact Bool.eq_iff_iff.2 ⟨fun h => by rw [eq_of_beq h]; simp, fun h => by rw [eq_of_beq h]; simp⟩
theorem zpv (s : List Nat) : zaV s [] = decide ((s.length : Int) < 1) := by
 cases s with
 | nil => rfl
 | cons a r =>
  show false = _
  symm
  rw [decide_eq_false_iff_not, List.length_cons]; omega
def allW : List (List Nat) := wordsL ++ aggNames
theorem zuc : DSpec Tryd.prog axX axG 97 [] [] (fun v O => v = .isl 1 11 (zgX 1 (allW.map fun x => SV.cv (.str x))) /\ O = []) := by
 refine zac { glb := axG } true Tryd.func97 (by kernel_rfl) rfl ?_
 repeat' (
   (conv => whnf)
   first
    | exact zad (by kernel_rfl)
    | refine And.intro ?_ ?_
    | refine zaa ?_ ?_
    | intro _)
 all_goals first
  | rfl
theorem zrV {s : List Nat} (i : Nat) (hi : i < 11) (h : zaV (allW.getD i []) s = true) : zd5 s = false := by
 rw [zc7] at h
 have h1 : allW.any (fun w => zaV s w) = true := by
  rw [List.any_eq_true]
  refine ⟨allW.getD i [], ?_, h⟩
  rw [List.getD_eq_getElem?_getD, List.getElem?_eq_getElem (by exact hi)]; exact List.getElem_mem _
 unfold allW at h1
 rw [List.any_append] at h1
 unfold zd5
 cases hw : (wordsL.any fun w => zaV s w) with
 | true => simp
 | false => rw [hw, Bool.false_or] at h1; rw [h1]; simp
theorem zw5 {s : List Nat} {k : Nat} (h0 : decide ((s.length : Int) < 1) = false) (h1 : decide ((s.length : Int) > 8) = false) (hk : decide ((k : Int) < s.length) = false) (hj : ∀ j, j < k -> zlr (s.getD j 0 % 256) = true) (hw : ∀ j, j < 11 -> zaV (allW.getD j []) s = false) : zd5 s = true := by
 have a1 : (s.all fun b => zlr (b % 256)) = true := by
  rw [List.all_eq_true]
  intro x hx
  obtain ⟨i, hi, rfl⟩ := List.mem_iff_getElem.1 hx
  have := hj i (by simp at hk; omega)
  rwa [List.getD_eq_getElem?_getD, List.getElem?_eq_getElem hi] at this
 have a2 : allW.any (fun w => zaV s w) = false := by
  rw [Bool.eq_false_iff, Ne, List.any_eq_true]
  rintro ⟨w, hwm, hb⟩
  obtain ⟨i, hi, rfl⟩ := List.mem_iff_getElem.1 hwm
  have := hw i hi
  rw [zc7, List.getD_eq_getElem?_getD, List.getElem?_eq_getElem hi] at this
  simp only [Option.getD_some] at this
  rw [this] at hb; cases hb
 unfold allW at a2
 rw [List.any_append, Bool.or_eq_false_iff] at a2
 unfold zd5
 rw [zpv, h0, h1, a1, a2.1, a2.2]; rfl
theorem ziN {s : List Nat} {k : Nat} (h : ∀ j, j < k -> zaV (allW.getD j []) s = false) (hk : zaV (allW.getD k []) s = false) : ∀ j, j < k + 1 -> zaV (allW.getD j []) s = false := fun j hj => by
 rcases Nat.lt_succ_iff_lt_or_eq.1 hj with h1 | rfl
 ·exact h j h1
 ·exact hk
set_option maxHeartbeats 4000000 in
theorem zws (s : List Nat) : DSpec Tryd.prog axX axG 39 [.cv (.str s)] [] (fun v O => v = ab (zd5 s) /\ O = []) := by
 refine zac { glb := axG, ann := [(4, [3]), (10, [5])] } true Tryd.func39 (by kernel_rfl) rfl ?_
 repeat' (
   (conv => whnf)
   first
    | exact zad (by kernel_rfl)
    | refine And.intro ?_ ?_
    | refine zaa ?_ ?_
    | (refine ⟨_, zuc, ?_⟩; rintro v O' ⟨rfl, rfl⟩)
    | ((have := hj; refine ⟨fun vs O _ => ∃ u : Nat, u ≤ 11 /\ (∀ j, j < u -> zaV (allW.getD j []) s = false) /\ vs = [ai u] /\ O = [], fun vs O => match vs with | [.cv (.int _ k)] => 11 - k.toNat | _ => 0, ⟨0, Nat.zero_le _, fun j h => absurd h (by omega), rfl, rfl⟩, ?_⟩; rintro vs O _ ⟨u, hu, hw, rfl, rfl⟩; obtain rfl | rfl | rfl | rfl | rfl | rfl | rfl | rfl | rfl | rfl | rfl | rfl : u = 0 \/ u = 1 \/ u = 2 \/ u = 3 \/ u = 4 \/ u = 5 \/ u = 6 \/ u = 7 \/ u = 8 \/ u = 9 \/ u = 10 \/ u = 11 := by omega))
    | ((refine ⟨fun vs O _ => ∃ k : Nat, k ≤ s.length /\ (∀ j, j < k -> zlr (s.getD j 0 % 256) = true) /\ vs = [ai k] /\ O = [], fun vs O => match vs with | [.cv (.int _ k)] => s.length - k.toNat | _ => 0, ⟨0, Nat.zero_le _, fun j h => absurd h (by omega), rfl, rfl⟩, ?_⟩; rintro vs O _ ⟨k, hk, hj, rfl, rfl⟩))
    | intro _)
 all_goals first
  | rfl
  | omega
  | (simp only [zz] at *; omega)
  | exact Nat.le_of_ble_eq_true rfl
  | (rename_i hz; exact abF (zyX (by rw [zpv]; exact hz)))
  | (rename_i hz; exact abF (zyS hz))
  | (rename_i hz; exact abF (zx2 (k := k) (by (simp only [zz] at *; omega)) (zvb hz)))
  | (rename_i hz; exact abF (zx2 (k := k) (by (simp only [zz] at *; omega)) (zu1 hz)))
  | (rename_i hz1 hz2; exact ⟨k + 1, by (simp only [zz] at *; omega), zyL hj (zu3 hz1 hz2), rfl, rfl⟩)
  | (rename_i hz; exact abF (zrV 0 (by decide) hz))
  | (rename_i hz; exact ⟨0 + 1, by decide, ziN (k := 0) hw hz, rfl, rfl⟩)
  | (rename_i hz; exact abF (zrV 1 (by decide) hz))
  | (rename_i hz; exact ⟨1 + 1, by decide, ziN (k := 1) hw hz, rfl, rfl⟩)
  | (rename_i hz; exact abF (zrV 2 (by decide) hz))
  | (rename_i hz; exact ⟨2 + 1, by decide, ziN (k := 2) hw hz, rfl, rfl⟩)
  | (rename_i hz; exact abF (zrV 3 (by decide) hz))
  | (rename_i hz; exact ⟨3 + 1, by decide, ziN (k := 3) hw hz, rfl, rfl⟩)
  | (rename_i hz; exact abF (zrV 4 (by decide) hz))
  | (rename_i hz; exact ⟨4 + 1, by decide, ziN (k := 4) hw hz, rfl, rfl⟩)
  | (rename_i hz; exact abF (zrV 5 (by decide) hz))
  | (rename_i hz; exact ⟨5 + 1, by decide, ziN (k := 5) hw hz, rfl, rfl⟩)
  | (rename_i hz; exact abF (zrV 6 (by decide) hz))
  | (rename_i hz; exact ⟨6 + 1, by decide, ziN (k := 6) hw hz, rfl, rfl⟩)
  | (rename_i hz; exact abF (zrV 7 (by decide) hz))
  | (rename_i hz; exact ⟨7 + 1, by decide, ziN (k := 7) hw hz, rfl, rfl⟩)
  | (rename_i hz; exact abF (zrV 8 (by decide) hz))
  | (rename_i hz; exact ⟨8 + 1, by decide, ziN (k := 8) hw hz, rfl, rfl⟩)
  | (rename_i hz; exact abF (zrV 9 (by decide) hz))
  | (rename_i hz; exact ⟨9 + 1, by decide, ziN (k := 9) hw hz, rfl, rfl⟩)
  | (rename_i hz; exact abF (zrV 10 (by decide) hz))
  | (rename_i hz; exact ⟨10 + 1, by decide, ziN (k := 10) hw hz, rfl, rfl⟩)
  | (rename_i h0 h1 _ hk2 _; exact congrArg (fun b => SV.cv (CV.bool b)) (zw5 h0 h1 hk2 hj hw).symm)
theorem zvJ (c : CondM) : DSpec Tryd.prog axX axG 94 [.agg (zq6 c)] [] (fun v O => v = ab (opB c.op) /\ O = []) := by
 refine zac { glb := axG } true Tryd.func94 (by kernel_rfl) rfl ?_
 repeat' (
   (conv => whnf)
   first
    | exact zad (by kernel_rfl)
    | refine And.intro ?_ ?_
    | refine zaa ?_ ?_
    | intro _)
 all_goals first
  | rfl
  | (unfold opB; ((try (refine congrArg (fun b => SV.cv (CV.bool b)) ?_)); (try rw [Bool.eq_iff_iff]); simp only [zz] at *; first | done | omega))
theorem zq3 (a : AtomM) : DSpec Tryd.prog axX axG 145 [.agg (zbA a)] [] (fun v O => v = ab (zrw a) /\ O = []) := by
 refine zac { glb := axG } true Tryd.func145 (by kernel_rfl) rfl ?_
 repeat' (
   (conv => whnf)
   first
    | exact zad (by kernel_rfl)
    | refine And.intro ?_ ?_
    | refine zaa ?_ ?_
    | intro _)
 all_goals first
  | rfl
  | (simp only [zrw, isE, *, Bool.true_and, Bool.and_true, Bool.false_and, Bool.and_false, Bool.true_or, Bool.or_true, Bool.false_or, Bool.or_false, Bool.not_true, Bool.not_false, Bool.not_not, cond_true, cond_false]; first | done | rfl)
theorem zsg {a : AtomM} {k : Nat} (hk : k < a.cs.length) (h : (!opB (a.cs.getD k default).op) = true) : zl7 a = false := by
 have : (a.cs.any fun c => !opB c.op) = true := (zdZ (p := fun c : CondM => !opB c.op) hk h).symm.trans (by simp)
 unfold zl7; rw [this]; simp
theorem ztT {a : AtomM} {k : Nat} (hk : decide ((k : Int) < a.cs.length) = false) (hj : ∀ j, j < k -> (!opB (a.cs.getD j default).op) = false) : (a.cs.any fun c => !opB c.op) = false :=
 (zgh (p := fun c : CondM => !opB c.op) (by simp at hk; omega) hj).symm.trans rfl
set_option maxHeartbeats 4000000 in
theorem zsx (a : AtomM) (hl : a.cs.length ≤ 1000000) : DSpec Tryd.prog axX axG 144 [.agg (zbA a)] [] (fun v O => v = ab (zl7 a) /\ O = []) := by
 refine zac { glb := axG, ann := [(2, [3])] } true Tryd.func144 (by kernel_rfl) rfl ?_
 repeat' (
   (conv => whnf)
   first
    | exact zad (by kernel_rfl)
    | refine And.intro ?_ ?_
    | refine zaa ?_ ?_
    | (refine ⟨_, zvJ _, ?_⟩; rintro v O' ⟨rfl, rfl⟩)
    | (refine ⟨_, zws (nm a.name), ?_⟩; rintro v O' ⟨rfl, rfl⟩)
    | ((refine ⟨fun vs O _ => ∃ k : Nat, k ≤ a.cs.length /\ (∀ j, j < k -> (!opB (a.cs.getD j default).op) = false) /\ vs = [ai k] /\ O = [.cells 39 (zbA a)], fun vs O => match vs with | [.cv (.int _ k)] => a.cs.length - k.toNat | _ => 0, ⟨0, Nat.zero_le _, fun j h => absurd h (by omega), rfl, rfl⟩, ?_⟩; rintro vs O _ ⟨k, hk, hj, rfl, rfl⟩))
    | intro _)
 all_goals try (have hok := ztT (a := a) (k := k) (by assumption) hj)
 all_goals first
  | rfl
  | omega
  | (simp only [zz] at *; omega)
  | (rename_i hz; exact abF (zsg (k := k) (by (simp only [zz] at *; omega)) hz))
  | (rename_i hz; exact ⟨k + 1, by (simp only [zz] at *; omega), zdg (p := fun j => !opB (a.cs.getD j default).op) hj hz, rfl, rfl⟩)
  | (simp only [zl7, isE, *, Bool.true_and, Bool.and_true, Bool.false_and, Bool.and_false, Bool.true_or, Bool.or_true, Bool.false_or, Bool.or_false, Bool.not_true, Bool.not_false, Bool.not_not, cond_true, cond_false]; first | done | rfl)
theorem zu6 {x : Int} {b : Bool} (h : decide (x < 2) = b) : decide (x ≥ 2) = !b := by
 subst h
 by_cases hq : x < 2 <;> simp [hq] <;> omega
theorem k3 {n : NodeM} (h : (n.kind == 3) = true) : (n.kind == 3 || n.kind == 4) = true := by rw [h]; rfl
theorem k4 {n : NodeM} (h : (n.kind == 4) = true) : (n.kind == 3 || n.kind == 4) = true := by rw [h]; simp
theorem zpf {d : Nat} {n : NodeM} {k : Nat} (hk : k < n.kids.length) (h : (!zai d (atN n.kids k)) = true) : (n.kids.any fun m => !zai d m) = true :=
 (zdZ (p := fun m => !zai d m) hk h).symm.trans (by simp)
theorem zl0 {d : Nat} {n : NodeM} {k : Nat} (hk : decide ((k : Int) < n.kids.length) = false) (hj : ∀ j, j < k -> (!zai d (atN n.kids j)) = false) : (n.kids.any fun m => !zai d m) = false :=
 (zgh (p := fun m => !zai d m) (by simp at hk; omega) hj).symm.trans rfl
set_option maxHeartbeats 8000000 in
theorem ztK : ∀ (d : Nat) (hd : d ≤ 200) (D : Int) (hD : D = 201 - d) (n : NodeM) (hn : Fit n), DSpec Tryd.prog axX axG 92 [.agg (zaj n), ai D] [] (fun v O => v = ab (zai d n) /\ O = []) := by
 intro d
 induction d with
 | zero =>
  intro hd D hD n hn
  refine zac { glb := axG, ann := [(13, [5])] } true Tryd.func92 (by kernel_rfl) rfl ?_
  repeat' (
    (conv => whnf)
    first
     | exact zad (by kernel_rfl)
     | refine And.intro ?_ ?_
     | refine zaa ?_ ?_
     | ((exfalso; (simp only [zz] at *; omega)))
     | intro _)
  all_goals first
   | rfl
   | (exfalso; (simp only [zz] at *; omega))
 | succ d ih =>
  intro hd D hD n hn
  have hz := hn.self.1
  rcases zbM n with he | he
  ·skip
   refine zac { glb := axG, ann := [(13, [5])] } true Tryd.func92 (by kernel_rfl) rfl ?_
   repeat' (
     (conv => whnf)
     first
      | exact zad (by kernel_rfl)
      | refine And.intro ?_ ?_
      | refine zaa ?_ ?_
      | (refine ⟨_, zsx n.atom hn.self.2, ?_⟩; rintro v O' ⟨rfl, rfl⟩)
      | (refine ⟨_, zq3 n.atom, ?_⟩; rintro v O' ⟨rfl, rfl⟩)
      | ((refine ⟨fun vs O _ => ∃ k : Nat, k ≤ n.kids.length /\ (∀ j, j < k -> (!zai d (atN n.kids j)) = false) /\ vs = [ai k] /\ O = [.cells 42 (zfm n (zeb n.kids))], fun vs O => match vs with | [.cv (.int _ k)] => n.kids.length - k.toNat | _ => 0, ⟨0, Nat.zero_le _, fun j h => absurd h (by omega), rfl, rfl⟩, ?_⟩; rintro vs O _ ⟨k, hk, hj, rfl, rfl⟩))
      | (refine ⟨_, ih (by omega) (D + 1) (by omega) (atN n.kids k) (hn.kid (zba (by (simp only [zz] at *; omega)))), ?_⟩; rintro v O' ⟨rfl, rfl⟩)
      | intro _)
   all_goals have hlt2 := zu6 (x := (n.kids.length : Int)) rfl
   all_goals try (have hgood := zl0 (n := n) (d := d) (k := k) (by assumption) hj)
   all_goals first
    | rfl
    | omega
    | (simp only [zz] at *; omega)
    | (exfalso; (simp only [zz] at *; omega))
    | (simp only [zai, *, Bool.true_and, Bool.and_true, Bool.false_and, Bool.and_false, Bool.true_or, Bool.or_true, Bool.false_or, Bool.or_false, Bool.not_true, Bool.not_false, Bool.not_not, cond_true, cond_false]; first | done | rfl)
    | (rename_i hq; exact ⟨k + 1, by (simp only [zz] at *; omega), zdg (p := fun j => !zai d (atN n.kids j)) hj hq, rfl, rfl⟩)
    | (simp only [bne, Bool.not_eq_true', Bool.not_eq_false'] at *; (simp only [zai, *, Bool.true_and, Bool.and_true, Bool.false_and, Bool.and_false, Bool.true_or, Bool.or_true, Bool.false_or, Bool.or_false, Bool.not_true, Bool.not_false, Bool.not_not, cond_true, cond_false]; first | done | rfl))
    | (rename_i hq; have hb := zpf (n := n) (d := d) (k := k) (by (simp only [zz] at *; omega)) hq; simp only [bne, Bool.not_eq_true', Bool.not_eq_false'] at *; (simp only [zai, *, Bool.true_and, Bool.and_true, Bool.false_and, Bool.and_false, Bool.true_or, Bool.or_true, Bool.false_or, Bool.or_false, Bool.not_true, Bool.not_false, Bool.not_not, cond_true, cond_false]; first | done | rfl))
    | skip
  ·rw [he]
   refine zac { glb := axG, ann := [(13, [5])] } true Tryd.func92 (by kernel_rfl) rfl ?_
   repeat' (
     (conv => whnf)
     first
      | exact zad (by kernel_rfl)
      | refine And.intro ?_ ?_
      | refine zaa ?_ ?_
      | (refine ⟨_, zsx n.atom hn.self.2, ?_⟩; rintro v O' ⟨rfl, rfl⟩)
      | (refine ⟨_, zq3 n.atom, ?_⟩; rintro v O' ⟨rfl, rfl⟩)
      | ((refine ⟨fun vs O _ => ∃ k : Nat, k ≤ n.kids.length /\ (∀ j, j < k -> (!zai d (atN n.kids j)) = false) /\ vs = [ai k] /\ O = [.cells 42 (zfm n (fun i => zaj (atN n.kids i)))], fun vs O => match vs with | [.cv (.int _ k)] => n.kids.length - k.toNat | _ => 0, ⟨0, Nat.zero_le _, fun j h => absurd h (by omega), rfl, rfl⟩, ?_⟩; rintro vs O _ ⟨k, hk, hj, rfl, rfl⟩))
      | (refine ⟨_, ih (by omega) (D + 1) (by omega) (atN n.kids k) (hn.kid (zba (by (simp only [zz] at *; omega)))), ?_⟩; rintro v O' ⟨rfl, rfl⟩)
      | intro _)
   all_goals have hlt2 := zu6 (x := (n.kids.length : Int)) rfl
   all_goals try (have hgood := zl0 (n := n) (d := d) (k := k) (by assumption) hj)
   all_goals first
    | rfl
    | omega
    | (simp only [zz] at *; omega)
    | (exfalso; (simp only [zz] at *; omega))
    | (simp only [zai, *, Bool.true_and, Bool.and_true, Bool.false_and, Bool.and_false, Bool.true_or, Bool.or_true, Bool.false_or, Bool.or_false, Bool.not_true, Bool.not_false, Bool.not_not, cond_true, cond_false]; first | done | rfl)
    | (rename_i hq; exact ⟨k + 1, by (simp only [zz] at *; omega), zdg (p := fun j => !zai d (atN n.kids j)) hj hq, rfl, rfl⟩)
    | (simp only [bne, Bool.not_eq_true', Bool.not_eq_false'] at *; (simp only [zai, *, Bool.true_and, Bool.and_true, Bool.false_and, Bool.and_false, Bool.true_or, Bool.or_true, Bool.false_or, Bool.or_false, Bool.not_true, Bool.not_false, Bool.not_not, cond_true, cond_false]; first | done | rfl))
    | (rename_i hq; have hb := zpf (n := n) (d := d) (k := k) (by (simp only [zz] at *; omega)) hq; simp only [bne, Bool.not_eq_true', Bool.not_eq_false'] at *; (simp only [zai, *, Bool.true_and, Bool.and_true, Bool.false_and, Bool.and_false, Bool.true_or, Bool.or_true, Bool.false_or, Bool.or_false, Bool.not_true, Bool.not_false, Bool.not_not, cond_true, cond_false]; first | done | rfl))
end Go.Proofs.YtlfhikphdkpfgaaDoor
