import Derived.Test.YtlfhikphdkpfgaaDoorBa
set_option linter.unusedSimpArgs false
set_option linter.unusedVariables false
set_option maxRecDepth 100000
namespace Go.Proofs.YtlfhikphdkpfgaaDoor
open Go Go.Cx
noncomputable def zfg (a b : CondM) : Bool := a.op == b.op && a.val == b.val
noncomputable def zof (a b : AggM) : Bool := a.fn == b.fn && zaV (nm a.name) (nm b.name)
noncomputable def zgf (a b : HaveM) : Bool := zof a.agg b.agg && zfg a.cond b.cond
noncomputable def zj9 (f : Nat -> Bool) (n m : Nat) : Bool := ((n : Int) == (m : Int)) && (List.range n).all f
noncomputable def zd1 {A : Type} [Inhabited A] (f : A -> A -> Bool) (a b : List A) : Bool := zj9 (fun i => f (a.getD i default) (b.getD i default)) a.length b.length
noncomputable def zid (a b : AtomM) : Bool := a.kind == b.kind && ((a.bnd == b.bnd) && ((a.bound == b.bound) && (zaV (nm a.name) (nm b.name) && zd1 zfg a.cs b.cs)))
noncomputable def zn8 (f : NodeM -> NodeM -> Bool) (a b : List NodeM) : Bool := zj9 (fun i => f (atN a i) (atN b i)) a.length b.length
noncomputable def zc5 : Nat -> NodeM -> NodeM -> Bool
 | 0, _, _ => false
 | d + 1, a, b => a.kind == b.kind && (a.mn == b.mn && (a.mx == b.mx && (zid a.atom b.atom && zn8 (zc5 d) a.kids b.kids)))
noncomputable def zgs (d : Nat) (a b : QueryM) : Bool := zc5 d a.p b.p && (a.within == b.within && (zd1 zgf a.hv b.hv && zd1 zof a.em b.em))
theorem zeo {f : Nat -> Bool} {n m : Nat} (h : ((n : Int) != (m : Int)) = true) : SV.cv (CV.bool false) = ab (zj9 f n m) := by
 have h1 : ((n : Int) == (m : Int)) = false := by simp only [zz] at *; exact h
 unfold zj9; rw [h1]; rfl
theorem zib {f : Nat -> Bool} {n m k : Nat} (hk : k < n) (h : f k = false) : SV.cv (CV.bool false) = ab (zj9 f n m) := by
 have h1 : (List.range n).all f = false := by
  rw [List.all_eq_false]
  exact ⟨k, List.mem_range.2 hk, by rw [h]; simp⟩
 unfold zj9; rw [h1, Bool.and_false]
theorem zdj {f : Nat -> Bool} {n m k : Nat} (hl : ((n : Int) != (m : Int)) = false) (hk : n ≤ k) (h : ∀ j, j < k -> f j = true) : SV.cv (CV.bool true) = ab (zj9 f n m) := by
 have h1 : ((n : Int) == (m : Int)) = true := by simp only [zz] at *; exact hl
 have h2 : (List.range n).all f = true := by
  rw [List.all_eq_true]
  exact fun j hj => h j (by have := List.mem_range.1 hj; omega)
 unfold zj9; rw [h1, h2]; rfl
theorem zln {f : Nat -> Bool} {n m k : Nat} (hk : k < n) (h : f k = false) : zj9 f n m = false := by
 have := zib (m := m) hk h
 cases hq : zj9 f n m with
 | false => rfl
 | true => rw [hq] at this; cases this
theorem zfA {f : Nat -> Bool} {n m k : Nat} (hl : ((n : Int) == (m : Int)) = true) (hk : n ≤ k) (h : ∀ j, j < k -> f j = true) : zj9 f n m = true := by
 have h2 : (List.range n).all f = true := by
  rw [List.all_eq_true]
  exact fun j hj => h j (by have := List.mem_range.1 hj; omega)
 unfold zj9; rw [hl, h2]; rfl
theorem zmf {p : Nat -> Bool} {k : Nat} (h : ∀ j, j < k -> p j = true) (hk : p k = true) : ∀ j, j < k + 1 -> p j = true := fun j hj => by
 rcases Nat.lt_succ_iff_lt_or_eq.1 hj with h1 | rfl
 ·exact h j h1
 ·exact hk
theorem zva {a b : Bool} (h : (!a) = b) : a = !b := by cases a <;> cases b <;> first | rfl | cases h
theorem zd2 : StoodNo Tryd.prog 100 := ⟨by kernel_rfl⟩
theorem zk9 : StoodNo Tryd.prog 93 := ⟨by kernel_rfl⟩
theorem zmz : StoodNo Tryd.prog 102 := ⟨by kernel_rfl⟩
set_option maxHeartbeats 4000000 in
theorem zuR (a b : List CondM) (ha : a.length ≤ 1000000) (hb : b.length ≤ 1000000) : DSpec Tryd.prog axX axG 151 [.isl 2 a.length (zdI a), .isl 2 b.length (zdI b)] [] (fun v O => v = ab (zd1 zfg a b) /\ O = []) := by
 refine zac { glb := axG, ann := [(4, [13])] } true Tryd.func151 (by kernel_rfl) rfl ?_
 repeat' (
   (conv => whnf)
   first
    | exact zad (by kernel_rfl)
    | refine And.intro ?_ ?_
    | refine zaa ?_ ?_
    | ((refine ⟨fun vs O _ => ∃ k : Nat, k ≤ a.length /\ (∀ j, j < k -> zfg (a.getD j default) (b.getD j default) = true) /\ vs = [ai k] /\ O = [], fun vs O => match vs with | [.cv (.int _ k)] => a.length - k.toNat | _ => 0, ⟨0, Nat.zero_le _, fun j h => absurd h (by omega), rfl, rfl⟩, ?_⟩; rintro vs O _ ⟨k, hk, hj, rfl, rfl⟩))
    | intro _)
 all_goals first
  | rfl
  | omega
  | (simp only [zz] at *; omega)
  | exact zd2
  | exact zeo (by assumption)
  | (rename_i hz; exact zib (k := k) (by (simp only [zz] at *; omega)) (zva hz))
  | (rename_i hz; exact ⟨k + 1, by (simp only [zz] at *; omega), zmf (p := fun j => zfg (a.getD j default) (b.getD j default)) hj (zva hz), rfl, rfl⟩)
  | exact zdj (by assumption) (k := k) (by (simp only [zz] at *; omega)) hj
set_option maxHeartbeats 4000000 in
theorem zvz (a b : List AggM) (ha : a.length ≤ 1000000) (hb : b.length ≤ 1000000) : DSpec Tryd.prog axX axG 100 [.isl 2 a.length (ztX a), .isl 2 b.length (ztX b)] [] (fun v O => v = ab (zd1 zof a b) /\ O = []) := by
 refine zac { glb := axG, ann := [(4, [13])] } true Tryd.func100 (by kernel_rfl) rfl ?_
 repeat' (
   (conv => whnf)
   first
    | exact zad (by kernel_rfl)
    | refine And.intro ?_ ?_
    | refine zaa ?_ ?_
    | ((refine ⟨fun vs O _ => ∃ k : Nat, k ≤ a.length /\ (∀ j, j < k -> zof (a.getD j default) (b.getD j default) = true) /\ vs = [ai k] /\ O = [], fun vs O => match vs with | [.cv (.int _ k)] => a.length - k.toNat | _ => 0, ⟨0, Nat.zero_le _, fun j h => absurd h (by omega), rfl, rfl⟩, ?_⟩; rintro vs O _ ⟨k, hk, hj, rfl, rfl⟩))
    | intro _)
 all_goals first
  | rfl
  | omega
  | (simp only [zz] at *; omega)
  | exact zk9
  | exact zeo (by assumption)
  | (rename_i hz; exact zib (k := k) (by (simp only [zz] at *; omega)) (zva hz))
  | (rename_i hz; exact ⟨k + 1, by (simp only [zz] at *; omega), zmf (p := fun j => zof (a.getD j default) (b.getD j default)) hj (zva hz), rfl, rfl⟩)
  | exact zdj (by assumption) (k := k) (by (simp only [zz] at *; omega)) hj
set_option maxHeartbeats 4000000 in
theorem zuF (a b : List HaveM) (ha : a.length ≤ 1000000) (hb : b.length ≤ 1000000) : DSpec Tryd.prog axX axG 99 [.isl 4 a.length (zoB a), .isl 4 b.length (zoB b)] [] (fun v O => v = ab (zd1 zgf a b) /\ O = []) := by
 refine zac { glb := axG, ann := [(4, [13])] } true Tryd.func99 (by kernel_rfl) rfl ?_
 repeat' (
   (conv => whnf)
   first
    | exact zad (by kernel_rfl)
    | refine And.intro ?_ ?_
    | refine zaa ?_ ?_
    | ((refine ⟨fun vs O _ => ∃ k : Nat, k ≤ a.length /\ (∀ j, j < k -> zgf (a.getD j default) (b.getD j default) = true) /\ vs = [ai k] /\ O = [], fun vs O => match vs with | [.cv (.int _ k)] => a.length - k.toNat | _ => 0, ⟨0, Nat.zero_le _, fun j h => absurd h (by omega), rfl, rfl⟩, ?_⟩; rintro vs O _ ⟨k, hk, hj, rfl, rfl⟩))
    | intro _)
 all_goals first
  | rfl
  | omega
  | (simp only [zz] at *; omega)
  | exact zmz
  | exact zk9
  | exact zd2
  | exact zeo (by assumption)
  | (rename_i hz; exact zib (k := k) (by (simp only [zz] at *; omega)) (zva hz))
  | (rename_i hz; exact ⟨k + 1, by (simp only [zz] at *; omega), zmf (p := fun j => zgf (a.getD j default) (b.getD j default)) hj (zva hz), rfl, rfl⟩)
  | exact zdj (by assumption) (k := k) (by (simp only [zz] at *; omega)) hj
theorem zty (f : NodeM -> NodeM -> Bool) (a b : List NodeM) (ha : a.length ≤ 1000000) (hb : b.length ≤ 1000000) (ih : ∀ x ∈ a, ∀ y ∈ b, DSpec Tryd.prog axX axG 98 [.agg (zaj x), .agg (zaj y)] [] (fun v O => v = ab (f x y) /\ O = [])) :
  DSpec Tryd.prog axX axG 152 [.isl 9 a.length (zeb a), .isl 9 b.length (zeb b), .fn 98 [] []] [] (fun v O => v = ab (zn8 f a b) /\ O = []) := by
 rcases zf8 a with he | he <;> rcases zf8 b with he2 | he2
 all_goals try rw [he]
 all_goals try rw [he2]
 all_goals
  refine zac { glb := axG, ann := [(4, [17])] } true Tryd.func152 (by kernel_rfl) rfl ?_
  repeat' (
    (conv => whnf)
    first
     | exact zad (by kernel_rfl)
     | refine And.intro ?_ ?_
     | refine zaa ?_ ?_
     | (refine ⟨_, ih (atN a k) (zba (by (simp only [zz] at *; omega))) (atN b k) (zba (by (simp only [zz] at *; omega))), ?_⟩; rintro v O' ⟨rfl, rfl⟩)
     | ((refine ⟨fun vs O _ => ∃ k : Nat, k ≤ a.length /\ (∀ j, j < k -> f (atN a j) (atN b j) = true) /\ vs = [ai k] /\ O = [], fun vs O => match vs with | [.cv (.int _ k)] => a.length - k.toNat | _ => 0, ⟨0, Nat.zero_le _, fun j h => absurd h (by omega), rfl, rfl⟩, ?_⟩; rintro vs O _ ⟨k, hk, hj, rfl, rfl⟩))
     | intro _)
  all_goals first
   | rfl
   | omega
   | (simp only [zz] at *; omega)
   | (exfalso; (simp only [zz] at *; omega))
   | exact zeo (by assumption)
   | (rename_i hz; exact zib (k := k) (by (simp only [zz] at *; omega)) (zva hz))
   | (rename_i hz; exact ⟨k + 1, by (simp only [zz] at *; omega), zmf (p := fun j => f (atN a j) (atN b j)) hj (zva hz), rfl, rfl⟩)
   | exact zdj (by assumption) (k := k) (by (simp only [zz] at *; omega)) hj
   | exact zeo (by rw [he]; assumption)
   | exact zeo (by rw [he2]; assumption)
   | exact zdj (by rw [he]; assumption) (k := k) (by (simp only [zz] at *; omega)) hj
   | exact zdj (by rw [he2]; assumption) (k := k) (by (simp only [zz] at *; omega)) hj
   | exact zdj (by rw [he, he2]; rfl) (k := k) (by (simp only [zz] at *; omega)) hj
set_option maxHeartbeats 8000000 in
theorem zu8 : ∀ (d : Nat) (a b : NodeM), a.dep ≤ d -> Fit a -> Fit b -> DSpec Tryd.prog axX axG 98 [.agg (zaj a), .agg (zaj b)] [] (fun v O => v = ab (zc5 d a b) /\ O = [])
 | 0, a, b, h, _, _ => by rw [zaT] at h; omega
 | d + 1, a, b, h, ha, hb => by
  have ih : ∀ x ∈ a.kids, ∀ y ∈ b.kids, DSpec Tryd.prog axX axG 98 [.agg (zaj x), .agg (zaj y)] [] (fun v O => v = ab (zc5 d x y) /\ O = []) := fun x hx y hy => zu8 d x y (by have := zcW hx; omega) (ha.kid hx) (hb.kid hy)
  have hK := zty (zc5 d) a.kids b.kids ha.self.1 hb.self.1 ih
  have hC := zuR a.atom.cs b.atom.cs ha.self.2 hb.self.2
  refine zac { glb := axG } true Tryd.func98 (by kernel_rfl) rfl ?_
  repeat' (
    (conv => whnf)
    first
     | exact zad (by kernel_rfl)
     | refine And.intro ?_ ?_
     | refine zaa ?_ ?_
     | (refine ⟨_, hC, ?_⟩; rintro v O' ⟨rfl, rfl⟩)
     | (refine ⟨_, hK, ?_⟩; rintro v O' ⟨rfl, rfl⟩)
     | intro _)
  all_goals first
   | rfl
   | (simp only [zc5, zid, *, Bool.true_and, Bool.and_true, Bool.false_and, Bool.and_false, Bool.true_or, Bool.or_true, Bool.false_or, Bool.or_false, Bool.not_true, Bool.not_false, Bool.not_not, cond_true, cond_false]; first | done | rfl)
set_option maxHeartbeats 4000000 in
theorem zsR (d : Nat) (a b : QueryM) (hd : a.p.dep ≤ d) (ha : QFit a) (hb : QFit b) : DSpec Tryd.prog axX axG 40 [.agg (zcs a), .agg (zcs b)] [] (fun v O => v = ab (zgs d a b) /\ O = []) := by
 have hN := zu8 d a.p b.p hd ha.fit hb.fit
 have hH := zuF a.hv b.hv ha.hv hb.hv
 have hE := zvz a.em b.em ha.em hb.em
 refine zac { glb := axG } true Tryd.func40 (by kernel_rfl) rfl ?_
 repeat' (
   (conv => whnf)
   first
    | exact zad (by kernel_rfl)
    | refine And.intro ?_ ?_
    | refine zaa ?_ ?_
    | (refine ⟨_, hN, ?_⟩; rintro v O' ⟨rfl, rfl⟩)
    | (refine ⟨_, hH, ?_⟩; rintro v O' ⟨rfl, rfl⟩)
    | (refine ⟨_, hE, ?_⟩; rintro v O' ⟨rfl, rfl⟩)
    | intro _)
 all_goals first
  | rfl
  | (simp only [zgs, *, Bool.true_and, Bool.and_true, Bool.false_and, Bool.and_false, Bool.true_or, Bool.or_true, Bool.false_or, Bool.or_false, Bool.not_true, Bool.not_false, Bool.not_not, cond_true, cond_false]; first | done | rfl)
set_option maxHeartbeats 4000000 in
theorem zod (a b : AtomM) (ha : a.cs.length ≤ 1000000) (hb : b.cs.length ≤ 1000000) : DSpec Tryd.prog axX axG 153 [.agg (zbA a), .agg (zbA b)] [] (fun v O => v = ab (zid a b) /\ O = []) := by
 refine zac { glb := axG, ann := [(4, [5])] } true Tryd.func153 (by kernel_rfl) rfl ?_
 repeat' (
   (conv => whnf)
   first
    | exact zad (by kernel_rfl)
    | refine And.intro ?_ ?_
    | refine zaa ?_ ?_
    | ((refine ⟨fun vs O _ => ∃ k : Nat, k ≤ a.cs.length /\ (∀ j, j < k -> zfg (a.cs.getD j default) (b.cs.getD j default) = true) /\ vs = [ai k] /\ O = [.cells 39 (zbA a), .cells 39 (zbA b)], fun vs O => match vs with | [.cv (.int _ k)] => a.cs.length - k.toNat | _ => 0, ⟨0, Nat.zero_le _, fun j h => absurd h (by omega), rfl, rfl⟩, ?_⟩; rintro vs O _ ⟨k, hk, hj, rfl, rfl⟩))
    | intro _)
 all_goals try simp only [bne, Bool.not_eq_true', Bool.not_eq_false'] at *
 all_goals first
  | rfl
  | omega
  | (simp only [zz] at *; omega)
  | exact zd2
  | (rename_i hz; exact ⟨k + 1, by (simp only [zz] at *; omega), zmf (p := fun j => zfg (a.cs.getD j default) (b.cs.getD j default)) hj hz, rfl, rfl⟩)
  | (simp only [zid, zd1, zj9, *, Bool.true_and, Bool.and_true, Bool.false_and, Bool.and_false, Bool.true_or, Bool.or_true, Bool.false_or, Bool.or_false, Bool.not_true, Bool.not_false, Bool.not_not, cond_true, cond_false]; first | done | rfl)
  | (rename_i hz; have hl := zln (f := fun i => zfg (a.cs.getD i default) (b.cs.getD i default)) (n := a.cs.length) (m := b.cs.length) (k := k) (by (simp only [zz] at *; omega)) hz; (simp only [zid, zd1, *, Bool.true_and, Bool.and_true, Bool.false_and, Bool.and_false, Bool.true_or, Bool.or_true, Bool.false_or, Bool.or_false, Bool.not_true, Bool.not_false, Bool.not_not, cond_true, cond_false]; first | done | rfl))
  | (have hl := zfA (f := fun i => zfg (a.cs.getD i default) (b.cs.getD i default)) (n := a.cs.length) (m := b.cs.length) (k := k) (by assumption) (by (simp only [zz] at *; omega)) hj; (simp only [zid, zd1, *, Bool.true_and, Bool.and_true, Bool.false_and, Bool.and_false, Bool.true_or, Bool.or_true, Bool.false_or, Bool.or_false, Bool.not_true, Bool.not_false, Bool.not_not, cond_true, cond_false]; first | done | rfl))
set_option maxHeartbeats 8000000 in
theorem zhQ : ∀ (d : Nat) (a b : NodeM), a.dep ≤ d -> Fit a -> Fit b -> DSpec Tryd.prog axX axG 101 [.agg (zaj a), .agg (zaj b)] [] (fun v O => v = ab (zc5 d a b) /\ O = [])
 | 0, a, b, h, _, _ => by rw [zaT] at h; omega
 | d + 1, a, b, h, ha, hb => by
  have ih : ∀ x ∈ a.kids, ∀ y ∈ b.kids, DSpec Tryd.prog axX axG 101 [.agg (zaj x), .agg (zaj y)] [] (fun v O => v = ab (zc5 d x y) /\ O = []) := fun x hx y hy => zhQ d x y (by have := zcW hx; omega) (ha.kid hx) (hb.kid hy)
  have hA := zod a.atom b.atom ha.self.2 hb.self.2
  have hka := ha.self.1
  rcases zbM a with he | he <;> rcases zbM b with he2 | he2
  all_goals try rw [he]
  all_goals try rw [he2]
  all_goals
   refine zac { glb := axG, ann := [(4, [5])] } true Tryd.func101 (by kernel_rfl) rfl ?_
   repeat' (
     (conv => whnf)
     first
      | exact zad (by kernel_rfl)
      | refine And.intro ?_ ?_
      | refine zaa ?_ ?_
      | (refine ⟨_, hA, ?_⟩; rintro v O' ⟨rfl, rfl⟩)
      | (refine ⟨_, ih (atN a.kids k) (zba (by (simp only [zz] at *; omega))) (atN b.kids k) (zba (by (simp only [zz] at *; omega))), ?_⟩; rintro v O' ⟨rfl, rfl⟩)
      | ((refine ⟨fun vs O _ => ∃ k : Nat, k ≤ a.kids.length /\ (∀ j, j < k -> zc5 d (atN a.kids j) (atN b.kids j) = true) /\ vs = [ai k] /\ O = [.cells 42 (zfm a _), .cells 42 (zfm b _)], fun vs O => match vs with | [.cv (.int _ k)] => a.kids.length - k.toNat | _ => 0, ⟨0, Nat.zero_le _, fun j h => absurd h (by omega), rfl, rfl⟩, ?_⟩; rintro vs O _ ⟨k, hk, hj, rfl, rfl⟩))
      | intro _)
   all_goals try simp only [bne, Bool.not_eq_true', Bool.not_eq_false'] at *
   all_goals first
    | rfl
    | omega
    | (simp only [zz] at *; omega)
    | (exfalso; (simp only [zz] at *; omega))
    | skip
   all_goals try clear he
   all_goals try clear he2
   all_goals first
    | (rename_i hz; exact ⟨k + 1, by (simp only [zz] at *; omega), zmf (p := fun j => zc5 d (atN a.kids j) (atN b.kids j)) hj hz, rfl, rfl⟩)
    | (simp only [zc5, zn8, zj9, *, Bool.true_and, Bool.and_true, Bool.false_and, Bool.and_false, Bool.true_or, Bool.or_true, Bool.false_or, Bool.or_false, Bool.not_true, Bool.not_false, Bool.not_not, cond_true, cond_false]; first | done | rfl)
    | (rename_i hz; have hl := zln (f := fun i => zc5 d (atN a.kids i) (atN b.kids i)) (n := a.kids.length) (m := b.kids.length) (k := k) (by (simp only [zz] at *; omega)) hz; (simp only [zc5, zn8, *, Bool.true_and, Bool.and_true, Bool.false_and, Bool.and_false, Bool.true_or, Bool.or_true, Bool.false_or, Bool.or_false, Bool.not_true, Bool.not_false, Bool.not_not, cond_true, cond_false]; first | done | rfl))
    | (have hl := zfA (f := fun i => zc5 d (atN a.kids i) (atN b.kids i)) (n := a.kids.length) (m := b.kids.length) (k := k) (by assumption) (by (simp only [zz] at *; omega)) hj; (simp only [zc5, zn8, *, Bool.true_and, Bool.and_true, Bool.false_and, Bool.and_false, Bool.true_or, Bool.or_true, Bool.false_or, Bool.or_false, Bool.not_true, Bool.not_false, Bool.not_not, cond_true, cond_false]; first | done | rfl))
set_option maxHeartbeats 8000000 in
theorem zvw (d : Nat) (a b : QueryM) (hd : a.p.dep ≤ d) (ha : QFit a) (hb : QFit b) : DSpec Tryd.prog axX axG 41 [.agg (zcs a), .agg (zcs b)] [] (fun v O => v = ab (zgs d a b) /\ O = []) := by
 have hN := zhQ d a.p b.p hd ha.fit hb.fit
 have h1 := ha.hv
 have h2 := ha.em
 refine zac { glb := axG, ann := [(4, [5]), (9, [6])] } true Tryd.func41 (by kernel_rfl) rfl ?_
 repeat' (
   (conv => whnf)
   first
    | exact zad (by kernel_rfl)
    | refine And.intro ?_ ?_
    | refine zaa ?_ ?_
    | (refine ⟨_, hN, ?_⟩; rintro v O' ⟨rfl, rfl⟩)
    | ((have := hj1; refine ⟨fun vs O _ => ∃ k : Nat, k ≤ a.em.length /\ (∀ j, j < k -> zof (a.em.getD j default) (b.em.getD j default) = true) /\ vs = [ai k] /\ O = [.cells 46 (zcs a), .cells 46 (zcs b)], fun vs O => match vs with | [.cv (.int _ k)] => a.em.length - k.toNat | _ => 0, ⟨0, Nat.zero_le _, fun j h => absurd h (by omega), rfl, rfl⟩, ?_⟩; rintro vs O _ ⟨k2, hk2, hj2, rfl, rfl⟩))
    | ((refine ⟨fun vs O _ => ∃ k : Nat, k ≤ a.hv.length /\ (∀ j, j < k -> zgf (a.hv.getD j default) (b.hv.getD j default) = true) /\ vs = [ai k] /\ O = [.cells 46 (zcs a), .cells 46 (zcs b)], fun vs O => match vs with | [.cv (.int _ k)] => a.hv.length - k.toNat | _ => 0, ⟨0, Nat.zero_le _, fun j h => absurd h (by omega), rfl, rfl⟩, ?_⟩; rintro vs O _ ⟨k, hk, hj1, rfl, rfl⟩))
    | intro _)
 all_goals try simp only [bne, Bool.not_eq_true', Bool.not_eq_false'] at *
 all_goals try have hl1 := zfA (f := fun i => zgf (a.hv.getD i default) (b.hv.getD i default)) (n := a.hv.length) (m := b.hv.length) (k := k) (by assumption) (by (simp only [zz] at *; omega)) hj1
 all_goals first
  | rfl
  | omega
  | (simp only [zz] at *; omega)
  | exact zmz
  | exact zk9
  | exact zd2
  | (rename_i hz; exact ⟨k + 1, by (simp only [zz] at *; omega), zmf (p := fun j => zgf (a.hv.getD j default) (b.hv.getD j default)) hj1 hz, rfl, rfl⟩)
  | (rename_i hz; exact ⟨k2 + 1, by (simp only [zz] at *; omega), zmf (p := fun j => zof (a.em.getD j default) (b.em.getD j default)) hj2 hz, rfl, rfl⟩)
  | (simp only [zgs, zd1, zj9, *, Bool.true_and, Bool.and_true, Bool.false_and, Bool.and_false, Bool.true_or, Bool.or_true, Bool.false_or, Bool.or_false, Bool.not_true, Bool.not_false, Bool.not_not, cond_true, cond_false]; first | done | rfl)
  | (rename_i hz; have hl := zln (f := fun i => zgf (a.hv.getD i default) (b.hv.getD i default)) (n := a.hv.length) (m := b.hv.length) (k := k) (by (simp only [zz] at *; omega)) hz; (simp only [zgs, zd1, *, Bool.true_and, Bool.and_true, Bool.false_and, Bool.and_false, Bool.true_or, Bool.or_true, Bool.false_or, Bool.or_false, Bool.not_true, Bool.not_false, Bool.not_not, cond_true, cond_false]; first | done | rfl))
  | (rename_i hz; have hl := zln (f := fun i => zof (a.em.getD i default) (b.em.getD i default)) (n := a.em.length) (m := b.em.length) (k := k2) (by (simp only [zz] at *; omega)) hz; (simp only [zgs, zd1, *, Bool.true_and, Bool.and_true, Bool.false_and, Bool.and_false, Bool.true_or, Bool.or_true, Bool.false_or, Bool.or_false, Bool.not_true, Bool.not_false, Bool.not_not, cond_true, cond_false]; first | done | rfl))
  | (have hl := zfA (f := fun i => zof (a.em.getD i default) (b.em.getD i default)) (n := a.em.length) (m := b.em.length) (k := k2) (by assumption) (by (simp only [zz] at *; omega)) hj2; (simp only [zgs, zd1, *, Bool.true_and, Bool.and_true, Bool.false_and, Bool.and_false, Bool.true_or, Bool.or_true, Bool.false_or, Bool.or_false, Bool.not_true, Bool.not_false, Bool.not_not, cond_true, cond_false]; first | done | rfl))
theorem zc7 : ∀ a b : List Nat, zaV a b = zaV b a
 | [], [] => rfl
 | [], _ :: _ => rfl
 | _ :: _, [] => rfl
 | a :: x, b :: y => by
  have h : Nat.beq (a % 256) (b % 256) = Nat.beq (b % 256) (a % 256) := by
   rw [Bool.eq_iff_iff, Nat.beq_eq, Nat.beq_eq]; exact eq_comm
  unfold zaV
  rw [h]
  cases Nat.beq (b % 256) (a % 256) with
  | false => rfl
  | true => exact zc7 x y
theorem zdS : ∀ s : List Nat, zaV s s = true
 | [] => rfl
 | a :: r => by
  unfold zaV
  rw [show Nat.beq (a % 256) (a % 256) = true from Nat.beq_refl _]; exact zdS r
theorem zfS {f g : Nat -> Bool} {n m : Nat} (h : ∀ i, f i = g i) : zj9 f n m = zj9 g m n := by
 unfold zj9
 by_cases hq : n = m
 ·subst hq
  have : f = g := funext h
  rw [this]
 ·have h1 : ((n : Int) == (m : Int)) = false := by simp only [zz] at *; omega
  have h2 : ((m : Int) == (n : Int)) = false := by simp only [zz] at *; omega
  rw [h1, h2]; rfl
theorem zfz {f : Nat -> Bool} {n : Nat} (h : ∀ i, i < n -> f i = true) : zj9 f n n = true := zfA (k := n) (by simp) (Nat.le_refl _) h
theorem zch (a b : Int) : (a == b) = (b == a) := by rw [Bool.eq_iff_iff]; simp only [zz] at *; exact eq_comm
theorem zsQ (a b : Bool) : (a == b) = (b == a) := by cases a <;> cases b <;> rfl
theorem zjp (a b : CondM) : zfg a b = zfg b a := by unfold zfg; rw [zch a.op, zch a.val]
theorem zmF (a b : AggM) : zof a b = zof b a := by unfold zof; rw [zch a.fn, zc7]
theorem zqn (a b : HaveM) : zgf a b = zgf b a := by unfold zgf; rw [zmF, zjp]
theorem zpZ (a b : AtomM) : zid a b = zid b a := by
 unfold zid zd1
 rw [zch a.kind, zch a.bound, zsQ a.bnd, zc7, zfS fun i => zjp _ _]
theorem zjX : ∀ (d : Nat) (a b : NodeM), zc5 d a b = zc5 d b a
 | 0, _, _ => rfl
 | d + 1, a, b => by
  unfold zc5 zn8
  rw [zch a.kind, zch a.mn, zch a.mx, zpZ, zfS fun i => zjX d _ _]
theorem zqr (d : Nat) (a b : QueryM) : zgs d a b = zgs d b a := by
 unfold zgs zd1
 rw [zjX, zch a.within, zfS fun i => zqn _ _, zfS (f := fun i => zof (a.em.getD i default) (b.em.getD i default)) fun i => zmF _ _]
theorem zjH (a : CondM) : zfg a a = true := by unfold zfg; simp
theorem zlP (a : AggM) : zof a a = true := by unfold zof; rw [zdS]; simp
theorem zqQ (a : HaveM) : zgf a a = true := by unfold zgf; rw [zlP, zjH]; rfl
theorem zp9 (a : AtomM) : zid a a = true := by
 unfold zid zd1
 rw [zdS, zfz fun i _ => zjH _]; simp
theorem zjh : ∀ (d : Nat) (a : NodeM), a.dep ≤ d -> zc5 d a a = true
 | 0, a, h => by rw [zaT] at h; omega
 | d + 1, a, h => by
  unfold zc5 zn8
  rw [zp9, zfz fun i hi => zjh d _ (by have := zcW (zba hi); omega)]; simp
theorem zp8 (d : Nat) (a : QueryM) (h : a.p.dep ≤ d) : zgs d a a = true := by
 unfold zgs zd1
 rw [zjh d _ h, zfz fun i _ => zqQ _, zfz fun i _ => zlP _]; simp
end Go.Proofs.YtlfhikphdkpfgaaDoor
