import Derived.Test.YtlfhikphdkpfgaaDoorAd
set_option linter.unusedSimpArgs false
set_option linter.unusedVariables false
set_option maxRecDepth 100000
namespace Go.Proofs.YtlfhikphdkpfgaaDoor
open Go Go.Cx
def zlx {A : Type} (n : NodeM) (q : Int × NodeM -> Bool) (f : Int × NodeM -> A) (k : Nat) : List A := (((zaE 1 n).take k).filter q).map f
def ztB {A : Type} (n : NodeM) (q : Int × NodeM -> Bool) (f : Int × NodeM -> A) : List A := ((zaE 1 n).filter q).map f
def elF {A : Type} [Inhabited A] (g : A -> List SV) (l : List A) : Nat -> List SV := fun i => g (l.getD i default)
def zby (p : Int × NodeM) : Bool := zdc p.2
def zhz (p : Int × NodeM) : AtomM := p.2.atom
def ztM (p : Int × NodeM) : Bool := p.2.kind == 2
def zoi (p : Int × NodeM) : Int := p.1
def zdA (_ : Int × NodeM) : Bool := true
noncomputable def zay (n : NodeM) : Int := bif zai 200 n then 0 else 3
theorem zyT {e x : Nat -> List SV} (i : Nat) : zeE 0 e x i = x i := by
 unfold zeE; rw [if_neg (Nat.not_lt_zero i)]; rfl
theorem zm6 (l : List CondM) (hl : l.length ≤ 1000000) : DSpec Tryd.prog axX axG 104 [.isl 2 l.length (zdI l)] [] (fun v O => v = .isl 2 l.length (zdI l) /\ O = []) := by
 refine DSpec.same (post := fun v O => Same v (.isl 2 l.length (zdI l)) /\ O = []) ?_ fun v O h => ⟨_, h.1, rfl, h.2⟩
 refine zac { glb := axG } true Tryd.func104 (by kernel_rfl) rfl ?_
 repeat' (
   (conv => whnf)
   first
    | exact zad (by kernel_rfl)
    | refine And.intro ?_ ?_
    | refine zaa ?_ ?_
    | intro _)
 all_goals first
  | rfl
  | omega
  | (rename_i hz; rw [hz]; exact .nils)
  | (rw [Nat.zero_add]; exact .isl fun i hi => zyT i)
theorem ztF (n : NodeM) (d : Int) (hn : Fit n) : DSpec Tryd.prog axX axG 103 [ai d, .agg (zaj n)] [] (fun v O => v = .tup [.agg (zbA n.atom), ab (zdc n)] /\ O = []) := by
 refine zac { glb := axG } true Tryd.func103 (by kernel_rfl) rfl ?_
 repeat' (
   (conv => whnf)
   first
    | exact zad (by kernel_rfl)
    | refine And.intro ?_ ?_
    | refine zaa ?_ ?_
    | (refine ⟨_, zm6 n.atom.cs hn.self.2, ?_⟩; rintro v O' ⟨rfl, rfl⟩)
    | (refine ⟨_, zuX n, ?_⟩; rintro v O' ⟨rfl, rfl⟩)
    | intro _)
 all_goals first
  | rfl
  | omega
theorem zqH (n : NodeM) (d : Int) : DSpec Tryd.prog axX axG 110 [ai d, .agg (zaj n)] [] (fun v O => v = .tup [ab (n.kind == 2), ab (zdc n)] /\ O = []) := by
 refine zac { glb := axG } true Tryd.func110 (by kernel_rfl) rfl ?_
 repeat' (
   (conv => whnf)
   first
    | exact zad (by kernel_rfl)
    | refine And.intro ?_ ?_
    | refine zaa ?_ ?_
    | (refine ⟨_, zuX n, ?_⟩; rintro v O' ⟨rfl, rfl⟩)
    | intro _)
 all_goals first
  | rfl
  | omega
theorem zsz (n : NodeM) (d : Int) : DSpec Tryd.prog axX axG 156 [ai d, .agg (zaj n)] [] (fun v O => v = .tup [ai d, ab true] /\ O = []) := by
 refine zac { glb := axG } true Tryd.func156 (by kernel_rfl) rfl ?_
 repeat' (
   (conv => whnf)
   first
    | exact zad (by kernel_rfl)
    | refine And.intro ?_ ?_
    | refine zaa ?_ ?_
    | intro _)
 all_goals first
  | rfl
  | omega
theorem zlk (n : NodeM) (hn : Fit n) : DSpec Tryd.prog axX axG 36 [.agg (zaj n)] [] (fun v O => v = ai (zay n) /\ O = []) := by
 have h := zwd 200 (by decide) n hn
 refine zac { glb := axG } true Tryd.func36 (by kernel_rfl) rfl ?_
 repeat' (
   (conv => whnf)
   first
    | exact zad (by kernel_rfl)
    | refine And.intro ?_ ?_
    | refine zaa ?_ ?_
    | (refine ⟨_, h, ?_⟩; rintro v O' ⟨rfl, rfl⟩)
    | intro _)
 all_goals first
  | rfl
  | omega
  | (rename_i hz; unfold zay; rw [Bool.not_eq_true'] at hz; rw [hz]; rfl)
  | (rename_i hz; unfold zay; rw [Bool.not_eq_false'] at hz; rw [hz]; rfl)
noncomputable def zcY {A : Type} (n : NodeM) (q : Int × NodeM -> Bool) (f : Int × NodeM -> A) : List A := bif zai 200 n then ztB n q f else []
section
variable {A : Type} {n : NodeM} {q : Int × NodeM -> Bool} {f : Int × NodeM -> A} {k : Nat} {p : Int × NodeM}
theorem zb8 (hp : (zaE 1 n)[k]? = some p) (h : q p = true) : zlx n q f (k + 1) = zlx n q f k ++ [f p] := by
 unfold zlx
 rw [List.take_add_one, hp, List.filter_append, List.map_append]
 simp [h]
theorem zed (hp : (zaE 1 n)[k]? = some p) (h : q p = false) : zlx n q f (k + 1) = zlx n q f k := by
 unfold zlx
 rw [List.take_add_one, hp, List.filter_append, List.map_append]
 simp [h]
theorem zos : zlx n q f (zaE 1 n).length = ztB n q f := by
 unfold zlx ztB
 rw [List.take_of_length_le (Nat.le_refl _)]
theorem zkc : (zlx n q f k).length ≤ (zaE 1 n).length := by
 unfold zlx
 rw [List.length_map]
 refine Nat.le_trans (List.length_filter_le _ _) ?_
 rw [List.length_take]; omega
end
theorem ztu {n : NodeM} (hn : Fit n) {k : Nat} {d : Int} {p : Int × NodeM} (hp : (zaE d n)[k]? = some p) : Fit p.2 := by
 have key : ∀ n : NodeM, Fit n -> ∀ d p, p ∈ zaE d n -> Fit p.2 := by
  intro n
  induction n using zce with | h n ih => ?_
  intro hn d p hp
  rw [zaG] at hp
  rcases List.mem_cons.1 hp with rfl | hp
  ·exact hn
  ·obtain ⟨m, hm, hp⟩ := List.mem_flatMap.1 hp
   exact ih m hm (hn.kid hm) _ _ hp
 exact key n hn d p (List.mem_of_getElem? hp)
def LElA {A : Type} [Inhabited A] (g : A -> List SV) (l : List A) (n : Nat) (el : Nat -> List SV) : Prop := n = l.length /\ ∀ i, i < n -> el i = g (l.getD i default)
theorem LElA.snoc {A : Type} [Inhabited A] {g : A -> List SV} {l : List A} {n sz : Nat} {el : Nat -> List SV} {x : A} {cs : List SV} (h : LElA g l n el) (hc : cs = g x) (hl : cs.length = sz) : LElA g (l ++ [x]) (n + 1) (zeE n el (zgX sz cs)) := by
 obtain ⟨rfl, h⟩ := h
 refine ⟨by simp, fun i hi => ?_⟩
 unfold zeE
 split
 ·rename_i hq
  rw [h i hq, List.getD_eq_getElem?_getD, List.getD_eq_getElem?_getD, List.getElem?_append_left hq]
 ·have : i = l.length := by omega
  subst this
  rw [<- hl]
  simp [zgX, <- hc]
theorem LElA.one {A : Type} [Inhabited A] {g : A -> List SV} {sz : Nat} {x : A} {cs : List SV} (hc : cs = g x) (hl : cs.length = sz) : LElA g [x] 1 (zgX sz cs) := by
 refine ⟨rfl, fun i hi => ?_⟩
 have : i = 0 := by omega
 subst this
 rw [<- hl]
 simp [zgX, <- hc]
theorem zer {n : NodeM} (h : (zay n != 0) = true) : zai 200 n = false := by
 unfold zay at h
 cases hb : zai 200 n with
 | true => rw [hb] at h; cases h
 | false => rfl
theorem zaO {n : NodeM} (h : (zay n != 0) = false) : zai 200 n = true /\ zay n = 0 := by
 unfold zay at h ⊢
 cases hb : zai 200 n with
 | true => exact ⟨rfl, rfl⟩
 | false => rw [hb] at h; cases h
section
variable {A : Type} [Inhabited A] {g : A -> List SV} {sz : Nat} {n : NodeM} {q : Int × NodeM -> Bool} {f : Int × NodeM -> A} {j m : Nat} {el : Nat -> List SV}
theorem zhk (h : (zay n != 0) = true) : Same (.tup [.cv .nils, ai (zay n)]) (.tup [.isl sz (zcY n q f).length (elF g (zcY n q f)), ai (zay n)]) := by
 have h1 : zcY n q f = [] := by unfold zcY; rw [zer h]; rfl
 rw [h1]; exact .tup (.cons .nils (.cons (.refl _) .nil))
theorem zk1 (h : (zay n != 0) = false) (hj : zlx n q f j = []) (hq : j = (zaE 1 n).length) : Same (.tup [.cv .nils, ai 0]) (.tup [.isl sz (zcY n q f).length (elF g (zcY n q f)), ai (zay n)]) := by
 subst hq
 rw [zos] at hj
 have h1 : zcY n q f = [] := by unfold zcY; rw [(zaO h).1]; exact hj
 rw [h1, (zaO h).2]; exact .tup (.cons .nils (.cons (.refl _) .nil))
theorem zj8 (h : (zay n != 0) = false) (hj : LElA g (zlx n q f j) m el) (hq : j = (zaE 1 n).length) : Same (.tup [.isl sz m el, ai 0]) (.tup [.isl sz (zcY n q f).length (elF g (zcY n q f)), ai (zay n)]) := by
 subst hq
 rw [zos] at hj
 have h1 : zcY n q f = ztB n q f := by unfold zcY; rw [(zaO h).1]; rfl
 obtain ⟨rfl, h2⟩ := hj
 rw [h1, (zaO h).2]; exact .tup (.cons (.isl h2) (.cons (.refl _) .nil))
end
set_option maxHeartbeats 4000000 in
theorem zqO (n : NodeM) (hn : Fit n) (hd : n.dep ≤ 100000) (hs : (zaE 1 n).length ≤ 100000) : DSpec Tryd.prog axX axG 102 [.agg (zaj n), .fn 103 [] []] [] (fun v O => v = .tup [.isl 5 (zcY n zby zhz).length (elF zbA (zcY n zby zhz)), ai (zay n)] /\ O = []) := by
 refine DSpec.same (post := fun v O => Same v (.tup [.isl 5 (zcY n zby zhz).length (elF zbA (zcY n zby zhz)), ai (zay n)]) /\ O = []) ?_ fun v O h => ⟨_, h.1, rfl, h.2⟩
 refine zac { glb := axG } true Tryd.func102 (by kernel_rfl) rfl ?_
 repeat' (
   (conv => whnf)
   first
    | exact zad (by kernel_rfl)
    | refine And.intro ?_ ?_
    | refine zaa ?_ ?_
    | (refine ⟨_, zlk n hn, ?_⟩; rintro v O' ⟨rfl, rfl⟩)
    | (refine ⟨_, zll n 1, ?_⟩; rintro v O' ⟨rfl, rfl⟩)
    | ((refine ⟨_, _, zj5 n hn 1 (by omega), fun j O => (zlx n zby zhz j = [] /\ O = [.cells 42 (zaj n), .cells 138 [.fn 103 [] []], .cells 61 [.cv .nils]]) \/ (∃ m el, LElA zbA (zlx n zby zhz j) m el /\ O = [.cells 42 (zaj n), .cells 138 [.fn 103 [] []], .cells 61 [.lst 6], .dead, .dead, .dead, .list 39 5 m el]), .inl ⟨rfl, rfl⟩, ?_, ?_⟩; rintro j O' vs hj hy; obtain ⟨p, hp, rfl⟩ := zha hy; obtain ⟨hj, rfl⟩ | ⟨m, el, hj, rfl⟩ := hj; rotate_left; rotate_left; rintro j O' v hj hy; obtain ⟨hj, rfl⟩ | ⟨m, el, hj, rfl⟩ := hj))
    | (refine ⟨_, ztF p.2 p.1 (ztu hn hp), ?_⟩; rintro v O' ⟨rfl, rfl⟩)
    | intro _)
 all_goals try have hlen := zkc (n := n) (q := zby) (f := zhz) (k := j)
 all_goals first
  | rfl
  | omega
  | (have h1 := hj.1; omega)
  | (rename_i hz; exact zhk hz)
  | exact zk1 (by assumption) hj (hy.2 rfl)
  | exact zj8 (by assumption) hj (hy.2 rfl)
  | (rename_i hz; exact .inl ⟨(zed hp hz).trans hj, rfl⟩)
  | (rename_i hz; exact .inr ⟨1, _, by rw [zb8 (q := zby) hp hz, hj]; exact LElA.one rfl rfl, rfl⟩)
  | (rename_i hz; exact .inr ⟨_, _, by rw [zed (q := zby) hp hz]; exact hj, rfl⟩)
  | (rename_i hz; exact .inr ⟨_, _, by rw [zb8 (q := zby) hp hz]; exact hj.snoc rfl rfl, rfl⟩)
  | exact .inr ⟨1, _, by rw [zb8 (q := zby) hp rfl, hj]; exact LElA.one rfl rfl, rfl⟩
  | exact .inr ⟨_, _, by rw [zb8 (q := zby) hp rfl]; exact hj.snoc rfl rfl, rfl⟩
def zkL (b : Bool) : List SV := [ab b]
def zxH (x : Int) : List SV := [ai x]
set_option maxHeartbeats 4000000 in
theorem zp0 (n : NodeM) (hn : Fit n) (hd : n.dep ≤ 100000) (hs : (zaE 1 n).length ≤ 100000) : DSpec Tryd.prog axX axG 109 [.agg (zaj n), .fn 110 [] []] [] (fun v O => v = .tup [.isl 1 (zcY n zby ztM).length (elF zkL (zcY n zby ztM)), ai (zay n)] /\ O = []) := by
 refine DSpec.same (post := fun v O => Same v (.tup [.isl 1 (zcY n zby ztM).length (elF zkL (zcY n zby ztM)), ai (zay n)]) /\ O = []) ?_ fun v O h => ⟨_, h.1, rfl, h.2⟩
 refine zac { glb := axG } true Tryd.func109 (by kernel_rfl) rfl ?_
 repeat' (
   (conv => whnf)
   first
    | exact zad (by kernel_rfl)
    | refine And.intro ?_ ?_
    | refine zaa ?_ ?_
    | (refine ⟨_, zlk n hn, ?_⟩; rintro v O' ⟨rfl, rfl⟩)
    | (refine ⟨_, zll n 1, ?_⟩; rintro v O' ⟨rfl, rfl⟩)
    | ((refine ⟨_, _, zj5 n hn 1 (by omega), fun j O => (zlx n zby ztM j = [] /\ O = [.cells 42 (zaj n), .cells 144 [.fn 110 [] []], .cells 68 [.cv .nils]]) \/ (∃ m el, LElA zkL (zlx n zby ztM j) m el /\ O = [.cells 42 (zaj n), .cells 144 [.fn 110 [] []], .cells 68 [.lst 5], .dead, .dead, .list 4 1 m el]), .inl ⟨rfl, rfl⟩, ?_, ?_⟩; rintro j O' vs hj hy; obtain ⟨p, hp, rfl⟩ := zha hy; obtain ⟨hj, rfl⟩ | ⟨m, el, hj, rfl⟩ := hj; rotate_left; rotate_left; rintro j O' v hj hy; obtain ⟨hj, rfl⟩ | ⟨m, el, hj, rfl⟩ := hj))
    | (refine ⟨_, zqH p.2 p.1, ?_⟩; rintro v O' ⟨rfl, rfl⟩)
    | intro _)
 all_goals try have hlen := zkc (n := n) (q := zby) (f := ztM) (k := j)
 all_goals first
  | rfl
  | omega
  | (have h1 := hj.1; omega)
  | (rename_i hz; exact zhk hz)
  | exact zk1 (by assumption) hj (hy.2 rfl)
  | exact zj8 (by assumption) hj (hy.2 rfl)
  | (rename_i hz; exact .inl ⟨(zed hp hz).trans hj, rfl⟩)
  | (rename_i hz; exact .inr ⟨1, _, by rw [zb8 (q := zby) hp hz, hj]; exact LElA.one rfl rfl, rfl⟩)
  | (rename_i hz; exact .inr ⟨_, _, by rw [zed (q := zby) hp hz]; exact hj, rfl⟩)
  | (rename_i hz; exact .inr ⟨_, _, by rw [zb8 (q := zby) hp hz]; exact hj.snoc rfl rfl, rfl⟩)
  | exact .inr ⟨1, _, by rw [zb8 (q := zby) hp rfl, hj]; exact LElA.one rfl rfl, rfl⟩
  | exact .inr ⟨_, _, by rw [zb8 (q := zby) hp rfl]; exact hj.snoc rfl rfl, rfl⟩
set_option maxHeartbeats 4000000 in
theorem zqA (n : NodeM) (hn : Fit n) (hd : n.dep ≤ 100000) (hs : (zaE 1 n).length ≤ 100000) : DSpec Tryd.prog axX axG 155 [.agg (zaj n), .fn 156 [] []] [] (fun v O => v = .tup [.isl 1 (zcY n zdA zoi).length (elF zxH (zcY n zdA zoi)), ai (zay n)] /\ O = []) := by
 refine DSpec.same (post := fun v O => Same v (.tup [.isl 1 (zcY n zdA zoi).length (elF zxH (zcY n zdA zoi)), ai (zay n)]) /\ O = []) ?_ fun v O h => ⟨_, h.1, rfl, h.2⟩
 refine zac { glb := axG } true Tryd.func155 (by kernel_rfl) rfl ?_
 repeat' (
   (conv => whnf)
   first
    | exact zad (by kernel_rfl)
    | refine And.intro ?_ ?_
    | refine zaa ?_ ?_
    | (refine ⟨_, zlk n hn, ?_⟩; rintro v O' ⟨rfl, rfl⟩)
    | (refine ⟨_, zll n 1, ?_⟩; rintro v O' ⟨rfl, rfl⟩)
    | ((refine ⟨_, _, zj5 n hn 1 (by omega), fun j O => (zlx n zdA zoi j = [] /\ O = [.cells 42 (zaj n), .cells 189 [.fn 156 [] []], .cells 35 [.cv .nils]]) \/ (∃ m el, LElA zxH (zlx n zdA zoi j) m el /\ O = [.cells 42 (zaj n), .cells 189 [.fn 156 [] []], .cells 35 [.lst 5], .dead, .dead, .list 3 1 m el]), .inl ⟨rfl, rfl⟩, ?_, ?_⟩; rintro j O' vs hj hy; obtain ⟨p, hp, rfl⟩ := zha hy; obtain ⟨hj, rfl⟩ | ⟨m, el, hj, rfl⟩ := hj; rotate_left; rotate_left; rintro j O' v hj hy; obtain ⟨hj, rfl⟩ | ⟨m, el, hj, rfl⟩ := hj))
    | (refine ⟨_, zsz p.2 p.1, ?_⟩; rintro v O' ⟨rfl, rfl⟩)
    | intro _)
 all_goals try have hlen := zkc (n := n) (q := zdA) (f := zoi) (k := j)
 all_goals first
  | rfl
  | omega
  | (have h1 := hj.1; omega)
  | (rename_i hz; exact zhk hz)
  | exact zk1 (by assumption) hj (hy.2 rfl)
  | exact zj8 (by assumption) hj (hy.2 rfl)
  | (rename_i hz; exact .inl ⟨(zed hp hz).trans hj, rfl⟩)
  | (rename_i hz; exact .inr ⟨1, _, by rw [zb8 (q := zdA) hp hz, hj]; exact LElA.one rfl rfl, rfl⟩)
  | (rename_i hz; exact .inr ⟨_, _, by rw [zed (q := zdA) hp hz]; exact hj, rfl⟩)
  | (rename_i hz; exact .inr ⟨_, _, by rw [zb8 (q := zdA) hp hz]; exact hj.snoc rfl rfl, rfl⟩)
  | exact .inr ⟨1, _, by rw [zb8 (q := zdA) hp rfl, hj]; exact LElA.one rfl rfl, rfl⟩
  | exact .inr ⟨_, _, by rw [zb8 (q := zdA) hp rfl]; exact hj.snoc rfl rfl, rfl⟩
end Go.Proofs.YtlfhikphdkpfgaaDoor
