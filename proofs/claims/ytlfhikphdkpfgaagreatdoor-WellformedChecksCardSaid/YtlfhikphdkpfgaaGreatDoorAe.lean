import Derived.Test.YtlfhikphdkpfgaaGreatDoorAd
set_option linter.unusedSimpArgs false
set_option linter.unusedVariables false
set_option maxRecDepth 100000
namespace Go.Proofs.YtlfhikphdkpfgaaGreatDoor
open Go Go.Cx
def zl3 {A : Type} (n : NodeM) (q : Int × NodeM -> Bool) (f : Int × NodeM -> A) (k : Nat) : List A := (((zaL 1 n).take k).filter q).map f
def zt3 {A : Type} (n : NodeM) (q : Int × NodeM -> Bool) (f : Int × NodeM -> A) : List A := ((zaL 1 n).filter q).map f
def elF {A : Type} [Inhabited A] (g : A -> List SV) (l : List A) : Nat -> List SV := fun i => g (l.getD i default)
def zbp (p : Int × NodeM) : Bool := zc1 p.2
def zgy (p : Int × NodeM) : AtomM := p.2.atom
def ztZ (p : Int × NodeM) : Bool := p.2.kind == 2
def znP (p : Int × NodeM) : Int := p.1
def zdN (_ : Int × NodeM) : Bool := true
noncomputable def zaC (n : NodeM) : Int := bif zao 200 n then 0 else 3
theorem zAW {e x : Nat -> List SV} (i : Nat) : zdG 0 e x i = x i := by
 unfold zdG; rw [if_neg (Nat.not_lt_zero i)]; rfl
theorem zoa (l : List CondM) (hl : l.length ≤ 1000000) : DSpec Tryz.prog axX axG 73 [.isl 2 l.length (zdx l)] [] (fun v O => v = .isl 2 l.length (zdx l) /\ O = []) := by
 refine DSpec.same (post := fun v O => Same v (.isl 2 l.length (zdx l)) /\ O = []) ?_ fun v O h => ⟨_, h.1, rfl, h.2⟩
 refine zac { glb := axG } true Tryz.func73 (by kernel_rfl) rfl ?_
 repeat' (
   (conv => whnf)
   first
    | exact zad (by kernel_rfl)
    | refine And.intro ?_ ?_
    | refine zaa ?_ ?_
    | intro _)
 all_goals first
  | rfl
  | omega
  | (rename_i hz; rw [hz]; exact .nils)
  | (rw [Nat.zero_add]; exact .isl fun i hi => zAW i)
theorem zvZ (n : NodeM) (d : Int) (hn : Fit n) : DSpec Tryz.prog axX axG 72 [ai d, .agg (zah n)] [] (fun v O => v = .tup [.agg (zcU n.atom), ab (zc1 n)] /\ O = []) := by
 refine zac { glb := axG } true Tryz.func72 (by kernel_rfl) rfl ?_
 repeat' (
   (conv => whnf)
   first
    | exact zad (by kernel_rfl)
    | refine And.intro ?_ ?_
    | refine zaa ?_ ?_
    | (refine ⟨_, zoa n.atom.cs hn.self.2, ?_⟩; rintro v O' ⟨rfl, rfl⟩)
    | (refine ⟨_, zwC n, ?_⟩; rintro v O' ⟨rfl, rfl⟩)
    | intro _)
 all_goals first
  | rfl
  | omega
theorem zrk (n : NodeM) (d : Int) : DSpec Tryz.prog axX axG 120 [ai d, .agg (zah n)] [] (fun v O => v = .tup [ab (n.kind == 2), ab (zc1 n)] /\ O = []) := by
 refine zac { glb := axG } true Tryz.func120 (by kernel_rfl) rfl ?_
 repeat' (
   (conv => whnf)
   first
    | exact zad (by kernel_rfl)
    | refine And.intro ?_ ?_
    | refine zaa ?_ ?_
    | (refine ⟨_, zwC n, ?_⟩; rintro v O' ⟨rfl, rfl⟩)
    | intro _)
 all_goals first
  | rfl
  | omega
theorem zub (n : NodeM) (d : Int) : DSpec Tryz.prog axX axG 105 [ai d, .agg (zah n)] [] (fun v O => v = .tup [ai d, ab true] /\ O = []) := by
 refine zac { glb := axG } true Tryz.func105 (by kernel_rfl) rfl ?_
 repeat' (
   (conv => whnf)
   first
    | exact zad (by kernel_rfl)
    | refine And.intro ?_ ?_
    | refine zaa ?_ ?_
    | intro _)
 all_goals first
  | rfl
  | omega
theorem zlJ (n : NodeM) (hn : Fit n) : DSpec Tryz.prog axX axG 80 [.agg (zah n)] [] (fun v O => v = ai (zaC n) /\ O = []) := by
 have h := zxv 200 (by decide) n hn
 refine zac { glb := axG } true Tryz.func80 (by kernel_rfl) rfl ?_
 repeat' (
   (conv => whnf)
   first
    | exact zad (by kernel_rfl)
    | refine And.intro ?_ ?_
    | refine zaa ?_ ?_
    | (refine ⟨_, h, ?_⟩; rintro v O' ⟨rfl, rfl⟩)
    | intro _)
 all_goals first
  | rfl
  | omega
  | (rename_i hz; unfold zaC; rw [Bool.not_eq_true'] at hz; rw [hz]; rfl)
  | (rename_i hz; unfold zaC; rw [Bool.not_eq_false'] at hz; rw [hz]; rfl)
noncomputable def zdl {A : Type} (n : NodeM) (q : Int × NodeM -> Bool) (f : Int × NodeM -> A) : List A := bif zao 200 n then zt3 n q f else []
section
variable {A : Type} {n : NodeM} {q : Int × NodeM -> Bool} {f : Int × NodeM -> A} {k : Nat} {p : Int × NodeM}
theorem zcq (hp : (zaL 1 n)[k]? = some p) (h : q p = true) : zl3 n q f (k + 1) = zl3 n q f k ++ [f p] := by
 unfold zl3
 rw [List.take_add_one, hp, List.filter_append, List.map_append]
 simp [h]
theorem zeQ (hp : (zaL 1 n)[k]? = some p) (h : q p = false) : zl3 n q f (k + 1) = zl3 n q f k := by
 unfold zl3
 rw [List.take_add_one, hp, List.filter_append, List.map_append]
 simp [h]
theorem zp5 : zl3 n q f (zaL 1 n).length = zt3 n q f := by
 unfold zl3 zt3
 rw [List.take_of_length_le (Nat.le_refl _)]
theorem zll : (zl3 n q f k).length ≤ (zaL 1 n).length := by
 unfold zl3
 rw [List.length_map]
 refine Nat.le_trans (List.length_filter_le _ _) ?_
 rw [List.length_take]; omega
end
theorem zob {n : NodeM} (hn : Fit n) {k : Nat} {d : Int} {p : Int × NodeM} (hp : (zaL d n)[k]? = some p) : Fit p.2 := by
 have key : ∀ n : NodeM, Fit n -> ∀ d p, p ∈ zaL d n -> Fit p.2 := by
  intro n
  induction n using zbH with | h n ih => ?_
  intro hn d p hp
  rw [zbg] at hp
  rcases List.mem_cons.1 hp with rfl | hp
  ·exact hn
  ·obtain ⟨m, hm, hp⟩ := List.mem_flatMap.1 hp
   exact ih m hm (hn.kid hm) _ _ hp
 exact key n hn d p (List.mem_of_getElem? hp)
def LElA {A : Type} [Inhabited A] (g : A -> List SV) (l : List A) (n : Nat) (el : Nat -> List SV) : Prop := n = l.length /\ ∀ i, i < n -> el i = g (l.getD i default)
theorem LElA.snoc {A : Type} [Inhabited A] {g : A -> List SV} {l : List A} {n sz : Nat} {el : Nat -> List SV} {x : A} {cs : List SV} (h : LElA g l n el) (hc : cs = g x) (hl : cs.length = sz) : LElA g (l ++ [x]) (n + 1) (zdG n el (zfy sz cs)) := by
 obtain ⟨rfl, h⟩ := h
 refine ⟨by simp, fun i hi => ?_⟩
 unfold zdG
 split
 ·rename_i hq
  rw [h i hq, List.getD_eq_getElem?_getD, List.getD_eq_getElem?_getD, List.getElem?_append_left hq]
 ·have : i = l.length := by omega
  subst this
  rw [<- hl]
  simp [zfy, <- hc]
theorem LElA.one {A : Type} [Inhabited A] {g : A -> List SV} {sz : Nat} {x : A} {cs : List SV} (hc : cs = g x) (hl : cs.length = sz) : LElA g [x] 1 (zfy sz cs) := by
 refine ⟨rfl, fun i hi => ?_⟩
 have : i = 0 := by omega
 subst this
 rw [<- hl]
 simp [zfy, <- hc]
theorem zg1 {n : NodeM} (h : (zaC n != 0) = true) : zao 200 n = false := by
 unfold zaC at h
 cases hb : zao 200 n with
 | true => rw [hb] at h; cases h
 | false => rfl
theorem zaZ {n : NodeM} (h : (zaC n != 0) = false) : zao 200 n = true /\ zaC n = 0 := by
 unfold zaC at h ⊢
 cases hb : zao 200 n with
 | true => exact ⟨rfl, rfl⟩
 | false => rw [hb] at h; cases h
section
variable {A : Type} [Inhabited A] {g : A -> List SV} {sz : Nat} {n : NodeM} {q : Int × NodeM -> Bool} {f : Int × NodeM -> A} {j m : Nat} {el : Nat -> List SV}
theorem zh4 (h : (zaC n != 0) = true) : Same (.tup [.cv .nils, ai (zaC n)]) (.tup [.isl sz (zdl n q f).length (elF g (zdl n q f)), ai (zaC n)]) := by
 have h1 : zdl n q f = [] := by unfold zdl; rw [zg1 h]; rfl
 rw [h1]; exact .tup (.cons .nils (.cons (.refl _) .nil))
theorem zk6 (h : (zaC n != 0) = false) (hj : zl3 n q f j = []) (hq : j = (zaL 1 n).length) : Same (.tup [.cv .nils, ai 0]) (.tup [.isl sz (zdl n q f).length (elF g (zdl n q f)), ai (zaC n)]) := by
 subst hq
 rw [zp5] at hj
 have h1 : zdl n q f = [] := by unfold zdl; rw [(zaZ h).1]; exact hj
 rw [h1, (zaZ h).2]; exact .tup (.cons .nils (.cons (.refl _) .nil))
theorem zkY (h : (zaC n != 0) = false) (hj : LElA g (zl3 n q f j) m el) (hq : j = (zaL 1 n).length) : Same (.tup [.isl sz m el, ai 0]) (.tup [.isl sz (zdl n q f).length (elF g (zdl n q f)), ai (zaC n)]) := by
 subst hq
 rw [zp5] at hj
 have h1 : zdl n q f = zt3 n q f := by unfold zdl; rw [(zaZ h).1]; rfl
 obtain ⟨rfl, h2⟩ := hj
 rw [h1, (zaZ h).2]; exact .tup (.cons (.isl h2) (.cons (.refl _) .nil))
end
set_option maxHeartbeats 4000000 in
theorem zqQ (n : NodeM) (hn : Fit n) (hd : n.dep ≤ 100000) (hs : (zaL 1 n).length ≤ 100000) : DSpec Tryz.prog axX axG 71 [.agg (zah n), .fn 72 [] []] [] (fun v O => v = .tup [.isl 5 (zdl n zbp zgy).length (elF zcU (zdl n zbp zgy)), ai (zaC n)] /\ O = []) := by
 refine DSpec.same (post := fun v O => Same v (.tup [.isl 5 (zdl n zbp zgy).length (elF zcU (zdl n zbp zgy)), ai (zaC n)]) /\ O = []) ?_ fun v O h => ⟨_, h.1, rfl, h.2⟩
 refine zac { glb := axG } true Tryz.func71 (by kernel_rfl) rfl ?_
 repeat' (
   (conv => whnf)
   first
    | exact zad (by kernel_rfl)
    | refine And.intro ?_ ?_
    | refine zaa ?_ ?_
    | (refine ⟨_, zlJ n hn, ?_⟩; rintro v O' ⟨rfl, rfl⟩)
    | (refine ⟨_, zk3 n 1, ?_⟩; rintro v O' ⟨rfl, rfl⟩)
    | ((refine ⟨_, _, zl1 n hn 1 (by omega), fun j O => (zl3 n zbp zgy j = [] /\ O = [.cells 28 (zah n), .cells 103 [.fn 72 [] []], .cells 72 [.cv .nils]]) \/ (∃ m el, LElA zcU (zl3 n zbp zgy j) m el /\ O = [.cells 28 (zah n), .cells 103 [.fn 72 [] []], .cells 72 [.lst 6], .dead, .dead, .dead, .list 25 5 m el]), .inl ⟨rfl, rfl⟩, ?_, ?_⟩; rintro j O' vs hj hy; obtain ⟨p, hp, rfl⟩ := zhL hy; obtain ⟨hj, rfl⟩ | ⟨m, el, hj, rfl⟩ := hj; rotate_left; rotate_left; rintro j O' v hj hy; obtain ⟨hj, rfl⟩ | ⟨m, el, hj, rfl⟩ := hj))
    | (refine ⟨_, zvZ p.2 p.1 (zob hn hp), ?_⟩; rintro v O' ⟨rfl, rfl⟩)
    | intro _)
 all_goals try have hlen := zll (n := n) (q := zbp) (f := zgy) (k := j)
 all_goals first
  | rfl
  | omega
  | (have h1 := hj.1; omega)
  | (rename_i hz; exact zh4 hz)
  | exact zk6 (by assumption) hj (hy.2 rfl)
  | exact zkY (by assumption) hj (hy.2 rfl)
  | (rename_i hz; exact .inl ⟨(zeQ hp hz).trans hj, rfl⟩)
  | (rename_i hz; exact .inr ⟨1, _, by rw [zcq (q := zbp) hp hz, hj]; exact LElA.one rfl rfl, rfl⟩)
  | (rename_i hz; exact .inr ⟨_, _, by rw [zeQ (q := zbp) hp hz]; exact hj, rfl⟩)
  | (rename_i hz; exact .inr ⟨_, _, by rw [zcq (q := zbp) hp hz]; exact hj.snoc rfl rfl, rfl⟩)
  | exact .inr ⟨1, _, by rw [zcq (q := zbp) hp rfl, hj]; exact LElA.one rfl rfl, rfl⟩
  | exact .inr ⟨_, _, by rw [zcq (q := zbp) hp rfl]; exact hj.snoc rfl rfl, rfl⟩
def zo2 (b : Bool) : List SV := [ab b]
def zyW (x : Int) : List SV := [ai x]
set_option maxHeartbeats 4000000 in
theorem zq4 (n : NodeM) (hn : Fit n) (hd : n.dep ≤ 100000) (hs : (zaL 1 n).length ≤ 100000) : DSpec Tryz.prog axX axG 119 [.agg (zah n), .fn 120 [] []] [] (fun v O => v = .tup [.isl 1 (zdl n zbp ztZ).length (elF zo2 (zdl n zbp ztZ)), ai (zaC n)] /\ O = []) := by
 refine DSpec.same (post := fun v O => Same v (.tup [.isl 1 (zdl n zbp ztZ).length (elF zo2 (zdl n zbp ztZ)), ai (zaC n)]) /\ O = []) ?_ fun v O h => ⟨_, h.1, rfl, h.2⟩
 refine zac { glb := axG } true Tryz.func119 (by kernel_rfl) rfl ?_
 repeat' (
   (conv => whnf)
   first
    | exact zad (by kernel_rfl)
    | refine And.intro ?_ ?_
    | refine zaa ?_ ?_
    | (refine ⟨_, zlJ n hn, ?_⟩; rintro v O' ⟨rfl, rfl⟩)
    | (refine ⟨_, zk3 n 1, ?_⟩; rintro v O' ⟨rfl, rfl⟩)
    | ((refine ⟨_, _, zl1 n hn 1 (by omega), fun j O => (zl3 n zbp ztZ j = [] /\ O = [.cells 28 (zah n), .cells 147 [.fn 120 [] []], .cells 98 [.cv .nils]]) \/ (∃ m el, LElA zo2 (zl3 n zbp ztZ j) m el /\ O = [.cells 28 (zah n), .cells 147 [.fn 120 [] []], .cells 98 [.lst 5], .dead, .dead, .list 4 1 m el]), .inl ⟨rfl, rfl⟩, ?_, ?_⟩; rintro j O' vs hj hy; obtain ⟨p, hp, rfl⟩ := zhL hy; obtain ⟨hj, rfl⟩ | ⟨m, el, hj, rfl⟩ := hj; rotate_left; rotate_left; rintro j O' v hj hy; obtain ⟨hj, rfl⟩ | ⟨m, el, hj, rfl⟩ := hj))
    | (refine ⟨_, zrk p.2 p.1, ?_⟩; rintro v O' ⟨rfl, rfl⟩)
    | intro _)
 all_goals try have hlen := zll (n := n) (q := zbp) (f := ztZ) (k := j)
 all_goals first
  | rfl
  | omega
  | (have h1 := hj.1; omega)
  | (rename_i hz; exact zh4 hz)
  | exact zk6 (by assumption) hj (hy.2 rfl)
  | exact zkY (by assumption) hj (hy.2 rfl)
  | (rename_i hz; exact .inl ⟨(zeQ hp hz).trans hj, rfl⟩)
  | (rename_i hz; exact .inr ⟨1, _, by rw [zcq (q := zbp) hp hz, hj]; exact LElA.one rfl rfl, rfl⟩)
  | (rename_i hz; exact .inr ⟨_, _, by rw [zeQ (q := zbp) hp hz]; exact hj, rfl⟩)
  | (rename_i hz; exact .inr ⟨_, _, by rw [zcq (q := zbp) hp hz]; exact hj.snoc rfl rfl, rfl⟩)
  | exact .inr ⟨1, _, by rw [zcq (q := zbp) hp rfl, hj]; exact LElA.one rfl rfl, rfl⟩
  | exact .inr ⟨_, _, by rw [zcq (q := zbp) hp rfl]; exact hj.snoc rfl rfl, rfl⟩
set_option maxHeartbeats 4000000 in
theorem zrd (n : NodeM) (hn : Fit n) (hd : n.dep ≤ 100000) (hs : (zaL 1 n).length ≤ 100000) : DSpec Tryz.prog axX axG 104 [.agg (zah n), .fn 105 [] []] [] (fun v O => v = .tup [.isl 1 (zdl n zdN znP).length (elF zyW (zdl n zdN znP)), ai (zaC n)] /\ O = []) := by
 refine DSpec.same (post := fun v O => Same v (.tup [.isl 1 (zdl n zdN znP).length (elF zyW (zdl n zdN znP)), ai (zaC n)]) /\ O = []) ?_ fun v O h => ⟨_, h.1, rfl, h.2⟩
 refine zac { glb := axG } true Tryz.func104 (by kernel_rfl) rfl ?_
 repeat' (
   (conv => whnf)
   first
    | exact zad (by kernel_rfl)
    | refine And.intro ?_ ?_
    | refine zaa ?_ ?_
    | (refine ⟨_, zlJ n hn, ?_⟩; rintro v O' ⟨rfl, rfl⟩)
    | (refine ⟨_, zk3 n 1, ?_⟩; rintro v O' ⟨rfl, rfl⟩)
    | ((refine ⟨_, _, zl1 n hn 1 (by omega), fun j O => (zl3 n zdN znP j = [] /\ O = [.cells 28 (zah n), .cells 129 [.fn 105 [] []], .cells 49 [.cv .nils]]) \/ (∃ m el, LElA zyW (zl3 n zdN znP j) m el /\ O = [.cells 28 (zah n), .cells 129 [.fn 105 [] []], .cells 49 [.lst 5], .dead, .dead, .list 3 1 m el]), .inl ⟨rfl, rfl⟩, ?_, ?_⟩; rintro j O' vs hj hy; obtain ⟨p, hp, rfl⟩ := zhL hy; obtain ⟨hj, rfl⟩ | ⟨m, el, hj, rfl⟩ := hj; rotate_left; rotate_left; rintro j O' v hj hy; obtain ⟨hj, rfl⟩ | ⟨m, el, hj, rfl⟩ := hj))
    | (refine ⟨_, zub p.2 p.1, ?_⟩; rintro v O' ⟨rfl, rfl⟩)
    | intro _)
 all_goals try have hlen := zll (n := n) (q := zdN) (f := znP) (k := j)
 all_goals first
  | rfl
  | omega
  | (have h1 := hj.1; omega)
  | (rename_i hz; exact zh4 hz)
  | exact zk6 (by assumption) hj (hy.2 rfl)
  | exact zkY (by assumption) hj (hy.2 rfl)
  | (rename_i hz; exact .inl ⟨(zeQ hp hz).trans hj, rfl⟩)
  | (rename_i hz; exact .inr ⟨1, _, by rw [zcq (q := zdN) hp hz, hj]; exact LElA.one rfl rfl, rfl⟩)
  | (rename_i hz; exact .inr ⟨_, _, by rw [zeQ (q := zdN) hp hz]; exact hj, rfl⟩)
  | (rename_i hz; exact .inr ⟨_, _, by rw [zcq (q := zdN) hp hz]; exact hj.snoc rfl rfl, rfl⟩)
  | exact .inr ⟨1, _, by rw [zcq (q := zdN) hp rfl, hj]; exact LElA.one rfl rfl, rfl⟩
  | exact .inr ⟨_, _, by rw [zcq (q := zdN) hp rfl]; exact hj.snoc rfl rfl, rfl⟩
end Go.Proofs.YtlfhikphdkpfgaaGreatDoor
