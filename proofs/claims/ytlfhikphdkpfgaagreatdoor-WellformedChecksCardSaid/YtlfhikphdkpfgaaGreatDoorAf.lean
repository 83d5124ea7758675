import Derived.Test.YtlfhikphdkpfgaaGreatDoorAe
set_option linter.unusedSimpArgs false
set_option linter.unusedVariables false
set_option maxRecDepth 100000
namespace Go.Proofs.YtlfhikphdkpfgaaGreatDoor
open Go Go.Cx
noncomputable abbrev zaf (n : NodeM) : List AtomM := zdl n zbp zgy
noncomputable abbrev zgW (n : NodeM) : List Bool := zdl n zbp ztZ
noncomputable abbrev zi5 (n : NodeM) : List Int := zdl n zdN znP
theorem zij (n : NodeM) (hn : NFit n) : DSpec Tryz.prog axX axG 42 [.agg (zah n)] [] (fun v O => v = .tup [.isl 5 (zaf n).length (elF zcU (zaf n)), ai (zaC n)] /\ O = []) := by
 refine zac { glb := axG } true Tryz.func42 (by kernel_rfl) rfl ?_
 repeat' (
   (conv => whnf)
   first
    | exact zad (by kernel_rfl)
    | refine And.intro ?_ ?_
    | refine zaa ?_ ?_
    | (refine ⟨_, zqQ n hn.fit hn.dep hn.num, ?_⟩; rintro v O' ⟨rfl, rfl⟩)
    | intro _)
 all_goals first
  | rfl
  | omega
theorem zuv (n : NodeM) (hn : NFit n) : DSpec Tryz.prog axX axG 99 [.agg (zah n)] [] (fun v O => v = .tup [.isl 1 (zgW n).length (elF zo2 (zgW n)), ai (zaC n)] /\ O = []) := by
 refine zac { glb := axG } true Tryz.func99 (by kernel_rfl) rfl ?_
 repeat' (
   (conv => whnf)
   first
    | exact zad (by kernel_rfl)
    | refine And.intro ?_ ?_
    | refine zaa ?_ ?_
    | (refine ⟨_, zq4 n hn.fit hn.dep hn.num, ?_⟩; rintro v O' ⟨rfl, rfl⟩)
    | intro _)
 all_goals first
  | rfl
  | omega
theorem zvH (n : NodeM) (hn : NFit n) : DSpec Tryz.prog axX axG 77 [.agg (zah n)] [] (fun v O => v = .tup [.isl 1 (zi5 n).length (elF zyW (zi5 n)), ai (zaC n)] /\ O = []) := by
 refine zac { glb := axG } true Tryz.func77 (by kernel_rfl) rfl ?_
 repeat' (
   (conv => whnf)
   first
    | exact zad (by kernel_rfl)
    | refine And.intro ?_ ?_
    | refine zaa ?_ ?_
    | (refine ⟨_, zrd n hn.fit hn.dep hn.num, ?_⟩; rintro v O' ⟨rfl, rfl⟩)
    | intro _)
 all_goals first
  | rfl
  | omega
theorem zpX {l : List Int} {k i : Nat} (hi : i < k) (hm : ∀ j, j < k -> l.getD j default ≤ l.getD i default) : (∀ j, j < k + 1 -> l.getD j default ≤ max (l.getD i default) (l.getD k default)) /\ ∃ j, j < k + 1 /\ max (l.getD i default) (l.getD k default) = l.getD j default := by
 refine ⟨fun j hj => ?_, ?_⟩
 ·rcases Nat.lt_succ_iff_lt_or_eq.1 hj with h1 | rfl
  ·have := hm j h1; omega
  ·omega
 ·by_cases hq : l.getD i default ≤ l.getD k default
  ·exact ⟨k, by omega, by omega⟩
  ·exact ⟨i, by omega, by omega⟩
theorem zAP (l : List Int) (h0 : 0 < l.length) (hl : l.length ≤ 1000000) : DSpec Tryz.prog axX axG 78 [.isl 1 l.length (elF zyW l)] [] (fun v O => ∃ m : Int, v = ai m /\ ((∀ i, i < l.length -> l.getD i default ≤ m) /\ ∃ i, i < l.length /\ m = l.getD i default) /\ O = []) := by
 refine zac { glb := axG, ann := [(5, [3, 4])] } true Tryz.func78 (by kernel_rfl) rfl ?_
 repeat' (
   (conv => whnf)
   first
    | exact zad (by kernel_rfl)
    | refine And.intro ?_ ?_
    | refine zaa ?_ ?_
    | ((refine ⟨fun vs O _ => ∃ (k : Nat) (m : Int), 1 ≤ k /\ k ≤ l.length /\ (∀ i, i < k -> l.getD i default ≤ m) /\ (∃ i, i < k /\ m = l.getD i default) /\ vs = [ai m, ai k] /\ O = [], fun vs O => match vs with | [_, .cv (.int _ k)] => l.length - k.toNat | _ => 0, ⟨1, _, by decide, by omega, fun i hi => ?_, ⟨0, by decide, rfl⟩, rfl, rfl⟩, ?_⟩; rotate_left; rintro vs O _ ⟨k, m, hk0, hk, hm, ⟨i, hi, rfl⟩, rfl, rfl⟩))
    | intro _)
 all_goals first
  | rfl
  | omega
  | (simp only [zz] at *; omega)
  | (exfalso; (simp only [zz] at *; omega))
  | exact ⟨k + 1, _, by omega, by (simp only [zz] at *; omega), (zpX hi hm).1, (zpX hi hm).2, rfl, rfl⟩
  | exact ⟨_, rfl, ⟨fun j hj => hm j (by (simp only [zz] at *; omega)), i, by (simp only [zz] at *; omega), rfl⟩, rfl⟩
  | (obtain rfl : i = 0 := by omega
     exact Int.le_refl _)
theorem zr1 {n : NodeM} : ∀ {d : Int}, (∀ p ∈ zaL d n, p.1 + p.2.dep ≤ d + n.dep) /\ ∃ p ∈ zaL d n, p.1 = d + n.dep - 1 := by
 induction n using zbH with | h n ih => ?_
 intro d
 refine ⟨fun p hp => ?_, ?_⟩
 ·rw [zbg] at hp
  rcases List.mem_cons.1 hp with rfl | hp
  ·exact Int.le_refl _
  ·obtain ⟨m, hm, hp⟩ := List.mem_flatMap.1 hp
   have h1 := (ih m hm (d := d + 1)).1 p hp
   have h2 := zgU hm
   omega
 ·cases hk : n.kids with
  | nil =>
   refine ⟨(d, n), by rw [zbg]; exact List.mem_cons_self, ?_⟩
   rw [zbI, hk, depL]; simp
  | cons a r =>
   obtain ⟨m, hm, he⟩ := zld (l := n.kids) (by rw [hk]; simp)
   obtain ⟨p, hp, h1⟩ := (ih m hm (d := d + 1)).2
   refine ⟨p, zsu hm hp, ?_⟩
   rw [zbI n, <- he]; omega
noncomputable def zpe (n : NodeM) : Int := bif zao 200 n then (n.dep : Int) else 0
theorem zwe {n : NodeM} {m : Int} (hs : zao 200 n = true) (h1 : ∀ i, i < (zi5 n).length -> (zi5 n).getD i default ≤ m) (h2 : ∃ i, i < (zi5 n).length /\ m = (zi5 n).getD i default) : m = zpe n := by
 have hr : zi5 n = (zaL 1 n).map znP := by
  show zdl n zdN znP = _
  unfold zdl zt3
  rw [hs]
  show List.map znP (List.filter zdN (zaL 1 n)) = _
  have hf : List.filter zdN (zaL 1 n) = zaL 1 n := List.filter_eq_self.2 fun _ _ => rfl
  rw [hf]
 rw [hr] at h1 h2
 simp only [List.length_map] at h1 h2
 have hg : ∀ i (hi : i < (zaL 1 n).length), ((zaL 1 n).map znP).getD i default = ((zaL 1 n)[i]).1 := fun i hi => by
  rw [List.getD_eq_getElem?_getD, List.getElem?_map, List.getElem?_eq_getElem hi]; rfl
 obtain ⟨p, hp, hpd⟩ := (zr1 (n := n) (d := 1)).2
 obtain ⟨j, hj, rfl⟩ := List.mem_iff_getElem.1 hp
 have a1 := h1 j hj
 rw [hg j hj] at a1
 obtain ⟨i, hi, rfl⟩ := h2
 rw [hg i hi] at a1 ⊢
 have a2 := (zr1 (n := n) (d := 1)).1 _ (List.getElem_mem hi)
 have a3 : 1 ≤ ((zaL 1 n)[i]).2.dep := by rw [zbI]; omega
 unfold zpe
 rw [hs]
 show _ = (n.dep : Int)
 omega
theorem zmM {n : NodeM} (hs : zao 200 n = true) : 0 < (zi5 n).length /\ (zi5 n).length = (zaL 1 n).length := by
 have hr : zi5 n = (zaL 1 n).map znP := by
  show zdl n zdN znP = _
  unfold zdl zt3
  rw [hs]
  show List.map znP (List.filter zdN (zaL 1 n)) = _
  have hf : List.filter zdN (zaL 1 n) = zaL 1 n := List.filter_eq_self.2 fun _ _ => rfl
  rw [hf]
 rw [hr, List.length_map]
 exact ⟨by rw [zbg]; simp, rfl⟩
theorem zsM (n : NodeM) (hn : NFit n) : DSpec Tryz.prog axX axG 47 [.agg (zah n)] [] (fun v O => v = .tup [ai (zpe n), ai (zaC n)] /\ O = []) := by
 have hnum := hn.num
 refine zac { glb := axG } true Tryz.func47 (by kernel_rfl) rfl ?_
 repeat' (
   (conv => whnf)
   first
    | exact zad (by kernel_rfl)
    | refine And.intro ?_ ?_
    | refine zaa ?_ ?_
    | (refine ⟨_, zvH n hn, ?_⟩; rintro v O' ⟨rfl, rfl⟩)
    | (refine ⟨_, zAP (zi5 n) (zmM (zaZ (by assumption)).1).1 (by have := (zmM (zaZ (n := n) (by assumption)).1).2; omega), ?_⟩; rintro v O' ⟨m, rfl, hm, rfl⟩)
    | intro _)
 all_goals first
  | rfl
  | omega
  | (rename_i hz; unfold zpe; rw [zg1 hz]; rfl)
  | (rename_i hz; rw [zwe (zaZ hz).1 hm.1 hm.2, (zaZ hz).2])
noncomputable def zjp (a : AggM) : Bool := (decide (a.fn ≥ 1) && decide (a.fn ≤ 6)) && zd9 (nm a.name)
noncomputable def zdY (h : HaveM) : Bool := !zjp h.agg || !opB h.cond.op
theorem zyF (a : AggM) : DSpec Tryz.prog axX axG 83 [.agg (zxC a)] [] (fun v O => v = ab (zjp a) /\ O = []) := by
 refine zac { glb := axG } true Tryz.func83 (by kernel_rfl) rfl ?_
 repeat' (
   (conv => whnf)
   first
    | exact zad (by kernel_rfl)
    | refine And.intro ?_ ?_
    | refine zaa ?_ ?_
    | (refine ⟨_, zw1 (nm a.name), ?_⟩; rintro v O' ⟨rfl, rfl⟩)
    | intro _)
 all_goals first
  | rfl
  | (simp only [zjp, *, Bool.true_and, Bool.and_true, Bool.false_and, Bool.and_false, Bool.true_or, Bool.or_true, Bool.false_or, Bool.or_false, Bool.not_true, Bool.not_false, Bool.not_not, cond_true, cond_false]; first | done | rfl)
theorem zwf (h : HaveM) : DSpec Tryz.prog axX axG 82 [.agg (zv7 h)] [] (fun v O => v = ab (zdY h) /\ O = []) := by
 refine zac { glb := axG } true Tryz.func82 (by kernel_rfl) rfl ?_
 repeat' (
   (conv => whnf)
   first
    | exact zad (by kernel_rfl)
    | refine And.intro ?_ ?_
    | refine zaa ?_ ?_
    | (refine ⟨_, zyF h.agg, ?_⟩; rintro v O' ⟨rfl, rfl⟩)
    | (refine ⟨_, zAY h.cond.op, ?_⟩; rintro v O' ⟨rfl, rfl⟩)
    | intro _)
 all_goals first
  | rfl
  | (simp only [zdY, *, Bool.true_and, Bool.and_true, Bool.false_and, Bool.and_false, Bool.true_or, Bool.or_true, Bool.false_or, Bool.or_false, Bool.not_true, Bool.not_false, Bool.not_not, cond_true, cond_false]; first | done | rfl)
theorem zu0 (a : AggM) : DSpec Tryz.prog axX axG 86 [.agg (zxC a)] [] (fun v O => v = ab (!zjp a) /\ O = []) := by
 refine zac { glb := axG } true Tryz.func86 (by kernel_rfl) rfl ?_
 repeat' (
   (conv => whnf)
   first
    | exact zad (by kernel_rfl)
    | refine And.intro ?_ ?_
    | refine zaa ?_ ?_
    | (refine ⟨_, zyF a, ?_⟩; rintro v O' ⟨rfl, rfl⟩)
    | intro _)
 all_goals first
  | rfl
  | (simp only [zdY, *, Bool.true_and, Bool.and_true, Bool.false_and, Bool.and_false, Bool.true_or, Bool.or_true, Bool.false_or, Bool.or_false, Bool.not_true, Bool.not_false, Bool.not_not, cond_true, cond_false]; first | done | rfl)
theorem zuC (l : List HaveM) (hl : l.length ≤ 1000000) : DSpec Tryz.prog axX axG 107 [.isl 4 l.length (zpH l), .fn 82 [] []] [] (fun v O => ∃ k : Int, v = ai k /\ decide (k ≥ 0) = (l.any zdY) /\ O = []) := by
 refine zac { glb := axG, ann := [(2, [8])] } true Tryz.func107 (by kernel_rfl) rfl ?_
 repeat' (
   (conv => whnf)
   first
    | exact zad (by kernel_rfl)
    | refine And.intro ?_ ?_
    | refine zaa ?_ ?_
    | ((refine ⟨fun vs O _ => ∃ k : Nat, k ≤ l.length /\ (∀ j, j < k -> zdY (l.getD j default) = false) /\ vs = [ai k] /\ O = [], fun vs O => match vs with | [.cv (.int _ k)] => l.length - k.toNat | _ => 0, ⟨0, Nat.zero_le _, fun j h => absurd h (by omega), rfl, rfl⟩, ?_⟩; rintro vs O _ ⟨k, hk, hj, rfl, rfl⟩))
    | (refine ⟨_, zwf (l.getD k default), ?_⟩; rintro v O' ⟨rfl, rfl⟩)
    | intro _)
 all_goals first
  | rfl
  | omega
  | (simp only [zz] at *; omega)
  | (rename_i hz; exact ⟨k, rfl, zck (p := zdY) (by (simp only [zz] at *; omega)) hz, rfl⟩)
  | (rename_i hz; exact ⟨k + 1, by (simp only [zz] at *; omega), zaO (p := fun j => zdY (l.getD j default)) hj hz, rfl, rfl⟩)
  | exact ⟨-1, rfl, zcp (p := zdY) (by (simp only [zz] at *; omega)) hj, rfl⟩
theorem zsa (l : List HaveM) (hl : l.length ≤ 1000000) : DSpec Tryz.prog axX axG 81 [.isl 4 l.length (zpH l), .fn 82 [] []] [] (fun v O => v = ab (l.any zdY) /\ O = []) := by
 refine zac { glb := axG } true Tryz.func81 (by kernel_rfl) rfl ?_
 repeat' (
   (conv => whnf)
   first
    | exact zad (by kernel_rfl)
    | refine And.intro ?_ ?_
    | refine zaa ?_ ?_
    | (refine ⟨_, zuC l hl, ?_⟩; rintro v O' ⟨k, rfl, hk, rfl⟩)
    | intro _)
 all_goals first
  | rfl
  | exact congrArg (fun b => SV.cv (CV.bool b)) hk
theorem zwb (l : List AggM) (hl : l.length ≤ 1000000) : DSpec Tryz.prog axX axG 109 [.isl 2 l.length (zuV l), .fn 86 [] []] [] (fun v O => ∃ k : Int, v = ai k /\ decide (k ≥ 0) = (l.any (fun a => !zjp a)) /\ O = []) := by
 refine zac { glb := axG, ann := [(2, [8])] } true Tryz.func109 (by kernel_rfl) rfl ?_
 repeat' (
   (conv => whnf)
   first
    | exact zad (by kernel_rfl)
    | refine And.intro ?_ ?_
    | refine zaa ?_ ?_
    | ((refine ⟨fun vs O _ => ∃ k : Nat, k ≤ l.length /\ (∀ j, j < k -> (fun a => !zjp a) (l.getD j default) = false) /\ vs = [ai k] /\ O = [], fun vs O => match vs with | [.cv (.int _ k)] => l.length - k.toNat | _ => 0, ⟨0, Nat.zero_le _, fun j h => absurd h (by omega), rfl, rfl⟩, ?_⟩; rintro vs O _ ⟨k, hk, hj, rfl, rfl⟩))
    | (refine ⟨_, zu0 (l.getD k default), ?_⟩; rintro v O' ⟨rfl, rfl⟩)
    | intro _)
 all_goals first
  | rfl
  | omega
  | (simp only [zz] at *; omega)
  | (rename_i hz; exact ⟨k, rfl, zck (p := (fun a => !zjp a)) (by (simp only [zz] at *; omega)) hz, rfl⟩)
  | (rename_i hz; exact ⟨k + 1, by (simp only [zz] at *; omega), zaO (p := fun j => (fun a => !zjp a) (l.getD j default)) hj hz, rfl, rfl⟩)
  | exact ⟨-1, rfl, zcp (p := (fun a => !zjp a)) (by (simp only [zz] at *; omega)) hj, rfl⟩
theorem zv6 (l : List AggM) (hl : l.length ≤ 1000000) : DSpec Tryz.prog axX axG 85 [.isl 2 l.length (zuV l), .fn 86 [] []] [] (fun v O => v = ab (l.any (fun a => !zjp a)) /\ O = []) := by
 refine zac { glb := axG } true Tryz.func85 (by kernel_rfl) rfl ?_
 repeat' (
   (conv => whnf)
   first
    | exact zad (by kernel_rfl)
    | refine And.intro ?_ ?_
    | refine zaa ?_ ?_
    | (refine ⟨_, zwb l hl, ?_⟩; rintro v O' ⟨k, rfl, hk, rfl⟩)
    | intro _)
 all_goals first
  | rfl
  | exact congrArg (fun b => SV.cv (CV.bool b)) hk
noncomputable def zhx (q : QueryM) : Bool := decide (q.within > 99999) || (q.hv.any zdY || q.em.any fun a => !zjp a)
noncomputable def zcn (q : QueryM) : Int := bif zaC q.p != 0 then zaC q.p else bif zhx q then 3 else 0
theorem zxu (q : QueryM) (hq : QFit q) : DSpec Tryz.prog axX axG 53 [.agg (zaj q)] [] (fun v O => v = ai (zcn q) /\ O = []) := by
 refine zac { glb := axG } true Tryz.func53 (by kernel_rfl) rfl ?_
 repeat' (
   (conv => whnf)
   first
    | exact zad (by kernel_rfl)
    | refine And.intro ?_ ?_
    | refine zaa ?_ ?_
    | (refine ⟨_, zlJ q.p hq.fit, ?_⟩; rintro v O' ⟨rfl, rfl⟩)
    | (refine ⟨_, zsa q.hv hq.hv, ?_⟩; rintro v O' ⟨rfl, rfl⟩)
    | (refine ⟨_, zv6 q.em hq.em, ?_⟩; rintro v O' ⟨rfl, rfl⟩)
    | intro _)
 all_goals first
  | rfl
  | omega
  | (simp only [zcn, zhx, *, Bool.true_and, Bool.and_true, Bool.false_and, Bool.and_false, Bool.true_or, Bool.or_true, Bool.false_or, Bool.or_false, Bool.not_true, Bool.not_false, Bool.not_not, cond_true, cond_false]; first | done | rfl)
end Go.Proofs.YtlfhikphdkpfgaaGreatDoor
