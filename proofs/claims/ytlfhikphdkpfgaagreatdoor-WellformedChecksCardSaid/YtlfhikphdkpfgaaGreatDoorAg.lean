import Derived.Test.YtlfhikphdkpfgaaGreatDoorAf
set_option linter.unusedSimpArgs false
set_option linter.unusedVariables false
set_option maxRecDepth 100000
namespace Go.Proofs.YtlfhikphdkpfgaaGreatDoor
open Go Go.Cx
def ysN (l : List (Int × NodeM)) : Nat -> Option (List SV) := fun k => (l[k]?).map fun p => [.agg (zah p.2)]
theorem zhM {l : List (Int × NodeM)} {k : Nat} {vs : List SV} (h : ysN l k = some vs) : ∃ p, l[k]? = some p /\ vs = [.agg (zah p.2)] := by
 unfold ysN at h
 cases hq : l[k]? with
 | none => rw [hq] at h; cases h
 | some p => rw [hq] at h; cases h; exact ⟨p, rfl, rfl⟩
theorem zzr {l : List (Int × NodeM)} {k : Nat} {p : Int × NodeM} (h : l[k]? = some p) : ysN l k = some [.agg (zah p.2)] := by
 unfold ysN; rw [h]; rfl
theorem zhE (d : Int) (n : NodeM) : ysN (zaL d n) 0 = some [.agg (zah n)] := by
 unfold ysN; rw [zbg]; rfl
theorem zsi {d : Int} {n : NodeM} {k j : Nat} {vs : List SV} (hk : k < n.kids.length) (h : ysN (zaL (d + 1) (atN n.kids k)) j = some vs) : ysN (zaL d n) (zrw d n k + j) = some vs := by
 obtain ⟨p, hp, rfl⟩ := zhM h
 exact zzr (zul hk hp)
set_option maxHeartbeats 4000000 in
theorem zuX : ∀ (n : NodeM) (hn : Fit n) (d : Int), DIter Tryz.prog axX axG 137 (fun l => [.agg (zah n), .cv (.yld l)]) (ysN (zaL d n)) (fun g v => v = ab (!g.st) /\ (g.st = false -> g.n = (zaL d n).length)) := by
 intro n
 induction n using zbH with | h n ih => ?_
 intro hn d
 have hz := hn.self.1
 rcases zbr n with he | he
 ·skip
  refine zh0 { glb := axG, ann := [(4, [14])] } Tryz.func137 (by kernel_rfl) rfl fun l => ?_
  repeat' (
    (conv => whnf)
    first
     | exact zad (by kernel_rfl)
     | refine And.intro ?_ ?_
     | refine zaa ?_ ?_
     | ((refine ⟨fun vs O g => ∃ k : Nat, k ≤ n.kids.length /\ vs = [ai k] /\ O = [.cells 28 (zcg n (zbY n.kids))] /\ g = ⟨zrw d n k, false⟩, fun vs O => match vs with | [.cv (.int _ k)] => n.kids.length - k.toNat | _ => 0, ⟨0, Nat.zero_le _, rfl, rfl, rfl⟩, ?_⟩; rintro vs O g ⟨k, hk, rfl, rfl, rfl⟩))
     | ((refine ⟨_, _, _, ih (atN n.kids k) (zaY (by (simp only [zz] at *; omega))) (hn.kid (zaY (by (simp only [zz] at *; omega)))) (d + 1), ⟨rfl, rfl, fun j vs hy => zsi (by (simp only [zz] at *; omega)) hy⟩, ?_⟩; rintro ⟨gn, gst⟩ v ⟨rfl, hy⟩; cases gst))
     | intro _)
  all_goals first
   | rfl
   | omega
   | (simp only [zz] at *; omega)
   | exact zhE d n
   | exact (zhE d n).trans (by rw [he]; rfl)
   | exact ⟨rfl, fun h => stA h⟩
   | exact ⟨rfl, fun h => absurd h (by decide)⟩
   | exact stA (by assumption)
   | (rw [show k = n.kids.length by (simp only [zz] at *; omega)]; exact zlQ d n)
   | (exfalso; (simp only [zz] at *; omega))
   | (rename_i h; cases h; done)
   | exact ⟨k + 1, by (simp only [zz] at *; omega), rfl, rfl, by have hq := hy rfl; rw [zja (by (simp only [zz] at *; omega)), <- hq]⟩
   | skip
 ·rw [he]
  refine zh0 { glb := axG, ann := [(4, [14])] } Tryz.func137 (by kernel_rfl) rfl fun l => ?_
  repeat' (
    (conv => whnf)
    first
     | exact zad (by kernel_rfl)
     | refine And.intro ?_ ?_
     | refine zaa ?_ ?_
     | ((refine ⟨fun vs O g => ∃ k : Nat, k ≤ n.kids.length /\ vs = [ai k] /\ O = [.cells 28 (zcg n (fun i => zah (atN n.kids i)))] /\ g = ⟨zrw d n k, false⟩, fun vs O => match vs with | [.cv (.int _ k)] => n.kids.length - k.toNat | _ => 0, ⟨0, Nat.zero_le _, rfl, rfl, rfl⟩, ?_⟩; rintro vs O g ⟨k, hk, rfl, rfl, rfl⟩))
     | ((refine ⟨_, _, _, ih (atN n.kids k) (zaY (by (simp only [zz] at *; omega))) (hn.kid (zaY (by (simp only [zz] at *; omega)))) (d + 1), ⟨rfl, rfl, fun j vs hy => zsi (by (simp only [zz] at *; omega)) hy⟩, ?_⟩; rintro ⟨gn, gst⟩ v ⟨rfl, hy⟩; cases gst))
     | intro _)
  all_goals first
   | rfl
   | omega
   | (simp only [zz] at *; omega)
   | exact zhE d n
   | exact (zhE d n).trans (by rw [he]; rfl)
   | exact ⟨rfl, fun h => stA h⟩
   | exact ⟨rfl, fun h => absurd h (by decide)⟩
   | exact stA (by assumption)
   | (rw [show k = n.kids.length by (simp only [zz] at *; omega)]; exact zlQ d n)
   | (exfalso; (simp only [zz] at *; omega))
   | (rename_i h; cases h; done)
   | exact ⟨k + 1, by (simp only [zz] at *; omega), rfl, rfl, by have hq := hy rfl; rw [zja (by (simp only [zz] at *; omega)), <- hq]⟩
theorem zom (n : NodeM) : DSpec Tryz.prog axX axG 118 [.agg (zah n)] [] (fun v O => v = .fn 136 [] [.ipt (zah n) 0] /\ O = []) := by
 refine zac { glb := axG } true Tryz.func118 (by kernel_rfl) rfl ?_
 repeat' (
   (conv => whnf)
   first
    | exact zad (by kernel_rfl)
    | refine And.intro ?_ ?_
    | refine zaa ?_ ?_
    | intro _)
 all_goals rfl
theorem zla (n : NodeM) (hn : Fit n) : DIter Tryz.prog axX axG 136 (fun l => [.cv (.yld l), .ipt (zah n) 0]) (ysN (zaL 0 n)) (fun g v => v = .tup [] /\ (g.st = false -> g.n = (zaL 0 n).length)) := by
 refine zh0 { glb := axG } Tryz.func136 (by kernel_rfl) rfl fun l => ?_
 repeat' (
   (conv => whnf)
   first
    | exact zad (by kernel_rfl)
    | refine And.intro ?_ ?_
    | refine zaa ?_ ?_
    | ((refine ⟨_, _, _, zuX n hn 0, ⟨rfl, rfl, fun j vs hy => by rw [show gh0.n + j = j from Nat.zero_add j]; exact hy⟩, ?_⟩; rintro ⟨gn, gst⟩ v ⟨rfl, hy⟩; cases gst))
    | intro _)
 all_goals first
  | rfl
  | omega
  | exact stA (by assumption)
  | (show gh0.n + gn = _; rw [show gh0.n + gn = gn from Nat.zero_add gn]; exact hy rfl)
noncomputable def zlc (n : NodeM) : Bool := decide ((n.kids.length : Int) > 8) || decide ((n.atom.cs.length : Int) > 4)
theorem zxS (n : NodeM) : DSpec Tryz.prog axX axG 95 [.agg (zah n)] [] (fun v O => v = ab (zlc n) /\ O = []) := by
 refine zac { glb := axG } true Tryz.func95 (by kernel_rfl) rfl ?_
 repeat' (
   (conv => whnf)
   first
    | exact zad (by kernel_rfl)
    | refine And.intro ?_ ?_
    | refine zaa ?_ ?_
    | intro _)
 all_goals first
  | rfl
  | (simp only [zlc, *, Bool.true_and, Bool.and_true, Bool.false_and, Bool.and_false, Bool.true_or, Bool.or_true, Bool.false_or, Bool.or_false, Bool.not_true, Bool.not_false, Bool.not_not, cond_true, cond_false]; first | done | rfl)
noncomputable def zb6 (n : NodeM) : Bool := n.kind == 1 && ((decide (n.mn < 1) || decide (n.mn > n.mx)) || decide (n.mx > 6))
theorem zt0 (n : NodeM) : DSpec Tryz.prog axX axG 96 [.agg (zah n)] [] (fun v O => v = ab (zb6 n) /\ O = []) := by
 refine zac { glb := axG } true Tryz.func96 (by kernel_rfl) rfl ?_
 repeat' (
   (conv => whnf)
   first
    | exact zad (by kernel_rfl)
    | refine And.intro ?_ ?_
    | refine zaa ?_ ?_
    | intro _)
 all_goals first
  | rfl
  | (simp only [zb6, *, Bool.true_and, Bool.and_true, Bool.false_and, Bool.and_false, Bool.true_or, Bool.or_true, Bool.false_or, Bool.or_false, Bool.not_true, Bool.not_false, Bool.not_not, cond_true, cond_false]; first | done | rfl)
noncomputable def zcx (n : NodeM) (i : Nat) : Bool := (atN n.kids i).kind == 2 && ((n.kind != 3 || (i : Int) == 0) || (i : Int) == (n.kids.length : Int) - 1)
noncomputable def zaN (n : NodeM) : Bool := !((List.range n.kids.length).any (zcx n))
theorem zgp {n k : Nat} {p : Nat -> Bool} (hk : k < n) (h : p k = true) : (List.range n).any p = true := by
 rw [List.any_eq_true]; exact ⟨k, List.mem_range.2 hk, h⟩
theorem zhW {n k : Nat} {p : Nat -> Bool} (hk : n ≤ k) (h : ∀ j, j < k -> p j = false) : (List.range n).any p = false := by
 rw [Bool.eq_false_iff, Ne, List.any_eq_true]
 rintro ⟨x, hx, hp⟩
 rw [h x (by have := List.mem_range.1 hx; omega)] at hp; cases hp
set_option maxHeartbeats 4000000 in
theorem zvy (n : NodeM) (hn : Fit n) : DSpec Tryz.prog axX axG 98 [.agg (zah n)] [] (fun v O => v = ab (zaN n) /\ O = []) := by
 have hz := hn.self.1
 rcases zbr n with he | he
 ·skip
  refine zac { glb := axG, ann := [(3, [13])] } true Tryz.func98 (by kernel_rfl) rfl ?_
  repeat' (
    (conv => whnf)
    first
     | exact zad (by kernel_rfl)
     | refine And.intro ?_ ?_
     | refine zaa ?_ ?_
     | ((refine ⟨fun vs O _ => ∃ k : Nat, k ≤ n.kids.length /\ (∀ j, j < k -> zcx n j = false) /\ vs = [ai k] /\ O = [.cells 28 (zcg n (zbY n.kids))], fun vs O => match vs with | [.cv (.int _ k)] => n.kids.length - k.toNat | _ => 0, ⟨0, Nat.zero_le _, fun j h => absurd h (by omega), rfl, rfl⟩, ?_⟩; rintro vs O _ ⟨k, hk, hj, rfl, rfl⟩))
     | intro _)
  all_goals try (have hw : zcx n k = ((atN n.kids ((k : Int).toNat)).kind == 2 && ((n.kind != 3 || (k : Int) == 0) || (k : Int) == (n.kids.length : Int) - 1)) := rfl)
  all_goals first
   | rfl
   | omega
   | (simp only [zz] at *; omega)
   | (exfalso; (simp only [zz] at *; omega))
   | exact abF (by unfold zaN; rw [zgp (k := k) (by (simp only [zz] at *; omega)) (by rw [hw]; (simp only [*, Bool.true_and, Bool.and_true, Bool.false_and, Bool.and_false, Bool.true_or, Bool.or_true, Bool.false_or, Bool.or_false, Bool.not_true, Bool.not_false, Bool.not_not, cond_true, cond_false]; first | done | rfl))]; rfl)
   | exact ⟨k + 1, by (simp only [zz] at *; omega), zaO hj (by rw [hw]; (simp only [*, Bool.true_and, Bool.and_true, Bool.false_and, Bool.and_false, Bool.true_or, Bool.or_true, Bool.false_or, Bool.or_false, Bool.not_true, Bool.not_false, Bool.not_not, cond_true, cond_false]; first | done | rfl)), rfl, rfl⟩
   | exact congrArg (fun b => SV.cv (CV.bool b)) (show true = zaN n by unfold zaN; rw [zhW (k := k) (by (simp only [zz] at *; omega)) hj]; rfl)
   | skip
 ·rw [he]
  refine zac { glb := axG, ann := [(3, [13])] } true Tryz.func98 (by kernel_rfl) rfl ?_
  repeat' (
    (conv => whnf)
    first
     | exact zad (by kernel_rfl)
     | refine And.intro ?_ ?_
     | refine zaa ?_ ?_
     | ((refine ⟨fun vs O _ => ∃ k : Nat, k ≤ n.kids.length /\ (∀ j, j < k -> zcx n j = false) /\ vs = [ai k] /\ O = [.cells 28 (zcg n (fun i => zah (atN n.kids i)))], fun vs O => match vs with | [.cv (.int _ k)] => n.kids.length - k.toNat | _ => 0, ⟨0, Nat.zero_le _, fun j h => absurd h (by omega), rfl, rfl⟩, ?_⟩; rintro vs O _ ⟨k, hk, hj, rfl, rfl⟩))
     | intro _)
  all_goals try (have hw : zcx n k = ((atN n.kids ((k : Int).toNat)).kind == 2 && ((n.kind != 3 || (k : Int) == 0) || (k : Int) == (n.kids.length : Int) - 1)) := rfl)
  all_goals first
   | rfl
   | omega
   | (simp only [zz] at *; omega)
   | (exfalso; (simp only [zz] at *; omega))
   | exact abF (by unfold zaN; rw [zgp (k := k) (by (simp only [zz] at *; omega)) (by rw [hw]; (simp only [*, Bool.true_and, Bool.and_true, Bool.false_and, Bool.and_false, Bool.true_or, Bool.or_true, Bool.false_or, Bool.or_false, Bool.not_true, Bool.not_false, Bool.not_not, cond_true, cond_false]; first | done | rfl))]; rfl)
   | exact ⟨k + 1, by (simp only [zz] at *; omega), zaO hj (by rw [hw]; (simp only [*, Bool.true_and, Bool.and_true, Bool.false_and, Bool.and_false, Bool.true_or, Bool.or_true, Bool.false_or, Bool.or_false, Bool.not_true, Bool.not_false, Bool.not_not, cond_true, cond_false]; first | done | rfl)), rfl, rfl⟩
   | exact congrArg (fun b => SV.cv (CV.bool b)) (show true = zaN n by unfold zaN; rw [zhW (k := k) (by (simp only [zz] at *; omega)) hj]; rfl)
theorem zqD (n : NodeM) (hn : Fit n) : DSpec Tryz.prog axX axG 97 [.agg (zah n)] [] (fun v O => v = ab (!zaN n) /\ O = []) := by
 refine zac { glb := axG } true Tryz.func97 (by kernel_rfl) rfl ?_
 repeat' (
   (conv => whnf)
   first
    | exact zad (by kernel_rfl)
    | refine And.intro ?_ ?_
    | refine zaa ?_ ?_
    | (refine ⟨_, zvy n hn, ?_⟩; rintro v O' ⟨rfl, rfl⟩)
    | intro _)
 all_goals rfl
noncomputable def ze1 (n : NodeM) (p : NodeM -> Bool) : Bool := (zaL 0 n).any fun x => p x.2
theorem zlS {n : NodeM} {p : NodeM -> Bool} {j : Nat} {x : Int × NodeM} (hx : (zaL 0 n)[j]? = some x) (h : p x.2 = true) : ze1 n p = true := by
 unfold ze1; rw [List.any_eq_true]; exact ⟨x, List.mem_of_getElem? hx, h⟩
theorem znU {n : NodeM} {p : NodeM -> Bool} {j : Nat} (hj : j = (zaL 0 n).length) (h : ∀ i x, i < j -> (zaL 0 n)[i]? = some x -> p x.2 = false) : ze1 n p = false := by
 unfold ze1
 rw [Bool.eq_false_iff, Ne, List.any_eq_true]
 rintro ⟨x, hx, hp⟩
 obtain ⟨i, hi⟩ := List.mem_iff_getElem?.1 hx
 have hlt := (List.getElem?_eq_some_iff.1 hi).1
 rw [h i x (by omega) hi] at hp; cases hp
theorem zrm {n : NodeM} {p : NodeM -> Bool} {j : Nat} {y : Int × NodeM} (hy : (zaL 0 n)[j]? = some y) (h : ∀ i x, i < j -> (zaL 0 n)[i]? = some x -> p x.2 = false) (hq : p y.2 = false) : ∀ i x, i < j + 1 -> (zaL 0 n)[i]? = some x -> p x.2 = false := fun i x hi hx => by
 rcases Nat.lt_succ_iff_lt_or_eq.1 hi with h1 | rfl
 ·exact h i x h1 hx
 ·rw [hy] at hx; cases hx; exact hq
theorem zq5 (q : QueryM) (hq : QFit q) : DSpec Tryz.prog axX axG 94 [.agg (zaj q), .fn 95 [] []] [] (fun v O => v = ab (ze1 q.p zlc) /\ O = []) := by
 refine zac { glb := axG } true Tryz.func94 (by kernel_rfl) rfl ?_
 repeat' (
   (conv => whnf)
   first
    | exact zad (by kernel_rfl)
    | refine And.intro ?_ ?_
    | refine zaa ?_ ?_
    | (refine ⟨_, zom q.p, ?_⟩; rintro v O' ⟨rfl, rfl⟩)
    | ((refine ⟨_, _, zla q.p hq.fit, fun j O => O = [.cells 32 (zaj q), .cells 55 [.fn 95 [] []], .cells 4 [ab false]] /\ ∀ i x, i < j -> (zaL 0 q.p)[i]? = some x -> zlc x.2 = false, ⟨rfl, fun i x h => absurd h (by omega)⟩, ?_, ?_⟩; rintro j O' vs ⟨rfl, hj⟩ hy; obtain ⟨x, hx, rfl⟩ := zhM hy; rotate_left; rintro j O' v ⟨rfl, hj⟩ hy))
    | (refine ⟨_, zxS x.2, ?_⟩; rintro v O' ⟨rfl, rfl⟩)
    | intro _)
 all_goals first
  | rfl
  | omega
  | (rename_i hz; exact congrArg (fun b => SV.cv (CV.bool b)) (zlS (p := zlc) hx hz).symm)
  | (rename_i hz; exact ⟨rfl, zrm (p := zlc) hx hj hz⟩)
  | (rename_i hz i2 x2 hi2 hx2; exact zrm (p := zlc) hx hj hz i2 x2 hi2 hx2)
  | exact abF (znU (p := zlc) (hy.2 rfl) hj)
theorem zmO (q : QueryM) (hq : QFit q) : DSpec Tryz.prog axX axG 94 [.agg (zaj q), .fn 96 [] []] [] (fun v O => v = ab (ze1 q.p zb6) /\ O = []) := by
 refine zac { glb := axG } true Tryz.func94 (by kernel_rfl) rfl ?_
 repeat' (
   (conv => whnf)
   first
    | exact zad (by kernel_rfl)
    | refine And.intro ?_ ?_
    | refine zaa ?_ ?_
    | (refine ⟨_, zom q.p, ?_⟩; rintro v O' ⟨rfl, rfl⟩)
    | ((refine ⟨_, _, zla q.p hq.fit, fun j O => O = [.cells 32 (zaj q), .cells 55 [.fn 96 [] []], .cells 4 [ab false]] /\ ∀ i x, i < j -> (zaL 0 q.p)[i]? = some x -> zb6 x.2 = false, ⟨rfl, fun i x h => absurd h (by omega)⟩, ?_, ?_⟩; rintro j O' vs ⟨rfl, hj⟩ hy; obtain ⟨x, hx, rfl⟩ := zhM hy; rotate_left; rintro j O' v ⟨rfl, hj⟩ hy))
    | (refine ⟨_, zt0 x.2, ?_⟩; rintro v O' ⟨rfl, rfl⟩)
    | intro _)
 all_goals first
  | rfl
  | omega
  | (rename_i hz; exact congrArg (fun b => SV.cv (CV.bool b)) (zlS (p := zb6) hx hz).symm)
  | (rename_i hz; exact ⟨rfl, zrm (p := zb6) hx hj hz⟩)
  | (rename_i hz i2 x2 hi2 hx2; exact zrm (p := zb6) hx hj hz i2 x2 hi2 hx2)
  | exact abF (znU (p := zb6) (hy.2 rfl) hj)
theorem zkD (q : QueryM) (hq : QFit q) : DSpec Tryz.prog axX axG 94 [.agg (zaj q), .fn 97 [] []] [] (fun v O => v = ab (ze1 q.p (fun m => !zaN m)) /\ O = []) := by
 refine zac { glb := axG } true Tryz.func94 (by kernel_rfl) rfl ?_
 repeat' (
   (conv => whnf)
   first
    | exact zad (by kernel_rfl)
    | refine And.intro ?_ ?_
    | refine zaa ?_ ?_
    | (refine ⟨_, zom q.p, ?_⟩; rintro v O' ⟨rfl, rfl⟩)
    | ((refine ⟨_, _, zla q.p hq.fit, fun j O => O = [.cells 32 (zaj q), .cells 55 [.fn 97 [] []], .cells 4 [ab false]] /\ ∀ i x, i < j -> (zaL 0 q.p)[i]? = some x -> (fun m => !zaN m) x.2 = false, ⟨rfl, fun i x h => absurd h (by omega)⟩, ?_, ?_⟩; rintro j O' vs ⟨rfl, hj⟩ hy; obtain ⟨x, hx, rfl⟩ := zhM hy; rotate_left; rintro j O' v ⟨rfl, hj⟩ hy))
    | (refine ⟨_, zqD x.2 (zob hq.fit hx), ?_⟩; rintro v O' ⟨rfl, rfl⟩)
    | intro _)
 all_goals first
  | rfl
  | omega
  | (rename_i hz; exact congrArg (fun b => SV.cv (CV.bool b)) (zlS (p := (fun m => !zaN m)) hx hz).symm)
  | (rename_i hz; exact ⟨rfl, zrm (p := (fun m => !zaN m)) hx hj hz⟩)
  | (rename_i hz i2 x2 hi2 hx2; exact zrm (p := (fun m => !zaN m)) hx hj hz i2 x2 hi2 hx2)
  | exact abF (znU (p := (fun m => !zaN m)) (hy.2 rfl) hj)
noncomputable def zhr (q : QueryM) : Bool := ((decide (((zaf q.p).length : Int) > 12) || decide ((q.hv.length : Int) > 4)) || decide ((q.em.length : Int) > 4)) || ze1 q.p zlc
theorem zyO (q : QueryM) (hq : QFit q) : DSpec Tryz.prog axX axG 59 [.agg (zaj q)] [] (fun v O => v = ai (bif zhr q then 6 else 0) /\ O = []) := by
 refine zac { glb := axG } true Tryz.func59 (by kernel_rfl) rfl ?_
 repeat' (
   (conv => whnf)
   first
    | exact zad (by kernel_rfl)
    | refine And.intro ?_ ?_
    | refine zaa ?_ ?_
    | (refine ⟨_, zij q.p hq.toNFit, ?_⟩; rintro v O' ⟨rfl, rfl⟩)
    | (refine ⟨_, zq5 q hq, ?_⟩; rintro v O' ⟨rfl, rfl⟩)
    | intro _)
 all_goals first
  | rfl
  | (simp only [zhr, *, Bool.true_and, Bool.and_true, Bool.false_and, Bool.and_false, Bool.true_or, Bool.or_true, Bool.false_or, Bool.or_false, Bool.not_true, Bool.not_false, Bool.not_not, cond_true, cond_false]; first | done | rfl)
theorem zy9 (q : QueryM) (hq : QFit q) : DSpec Tryz.prog axX axG 60 [.agg (zaj q)] [] (fun v O => v = ai (bif decide (zpe q.p > 6) then 22 else 0) /\ O = []) := by
 refine zac { glb := axG } true Tryz.func60 (by kernel_rfl) rfl ?_
 repeat' (
   (conv => whnf)
   first
    | exact zad (by kernel_rfl)
    | refine And.intro ?_ ?_
    | refine zaa ?_ ?_
    | (refine ⟨_, zsM q.p hq.toNFit, ?_⟩; rintro v O' ⟨rfl, rfl⟩)
    | intro _)
 all_goals first
  | rfl
  | (simp only [*, Bool.true_and, Bool.and_true, Bool.false_and, Bool.and_false, Bool.true_or, Bool.or_true, Bool.false_or, Bool.or_false, Bool.not_true, Bool.not_false, Bool.not_not, cond_true, cond_false]; first | done | rfl)
noncomputable def zb4 (q : QueryM) : Bool := decide (q.within > 10000) || ze1 q.p zb6
theorem zvY (q : QueryM) (hq : QFit q) : DSpec Tryz.prog axX axG 61 [.agg (zaj q)] [] (fun v O => v = ai (bif zb4 q then 2 else 0) /\ O = []) := by
 refine zac { glb := axG } true Tryz.func61 (by kernel_rfl) rfl ?_
 repeat' (
   (conv => whnf)
   first
    | exact zad (by kernel_rfl)
    | refine And.intro ?_ ?_
    | refine zaa ?_ ?_
    | (refine ⟨_, zmO q hq, ?_⟩; rintro v O' ⟨rfl, rfl⟩)
    | intro _)
 all_goals first
  | rfl
  | (simp only [zb4, *, Bool.true_and, Bool.and_true, Bool.false_and, Bool.and_false, Bool.true_or, Bool.or_true, Bool.false_or, Bool.or_false, Bool.not_true, Bool.not_false, Bool.not_not, cond_true, cond_false]; first | done | rfl)
noncomputable def zcB (q : QueryM) : Bool := q.p.kind == 2 || ze1 q.p fun m => !zaN m
theorem zsC (q : QueryM) (hq : QFit q) : DSpec Tryz.prog axX axG 62 [.agg (zaj q)] [] (fun v O => v = ai (bif zcB q then 9 else 0) /\ O = []) := by
 refine zac { glb := axG } true Tryz.func62 (by kernel_rfl) rfl ?_
 repeat' (
   (conv => whnf)
   first
    | exact zad (by kernel_rfl)
    | refine And.intro ?_ ?_
    | refine zaa ?_ ?_
    | (refine ⟨_, zkD q hq, ?_⟩; rintro v O' ⟨rfl, rfl⟩)
    | intro _)
 all_goals first
  | rfl
  | (simp only [zcB, *, Bool.true_and, Bool.and_true, Bool.false_and, Bool.and_false, Bool.true_or, Bool.or_true, Bool.false_or, Bool.or_false, Bool.not_true, Bool.not_false, Bool.not_not, cond_true, cond_false]; first | done | rfl)
theorem zu5 (q : QueryM) (hq : QFit q) : DSpec Tryz.prog axX axG 58 [.agg (zaj q)] [] (fun v O => v = ai (zcn q) /\ O = []) := by
 refine zac { glb := axG } true Tryz.func58 (by kernel_rfl) rfl ?_
 repeat' (
   (conv => whnf)
   first
    | exact zad (by kernel_rfl)
    | refine And.intro ?_ ?_
    | refine zaa ?_ ?_
    | (refine ⟨_, zxu q hq, ?_⟩; rintro v O' ⟨rfl, rfl⟩)
    | intro _)
 all_goals rfl
end Go.Proofs.YtlfhikphdkpfgaaGreatDoor
