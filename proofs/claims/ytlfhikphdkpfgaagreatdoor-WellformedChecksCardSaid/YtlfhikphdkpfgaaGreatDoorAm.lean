import Derived.Test.YtlfhikphdkpfgaaGreatDoorAl
set_option linter.unusedSimpArgs false
set_option linter.unusedVariables false
set_option maxRecDepth 100000
namespace Go.Proofs.YtlfhikphdkpfgaaGreatDoor
open Go Go.Cx
theorem zeV (n : NodeM) : zav n = ((zaL 1 n).filter zbp).map (·.2) := by
 unfold zav
 rw [<- zdz n 1, List.filter_map]; rfl
theorem zmf {n : NodeM} (h : zao 200 n = true) : zaf n = (zav n).map NodeM.atom := by
 show zdl n zbp zgy = _
 unfold zdl
 rw [h, zeV, List.map_map]; rfl
theorem zvx {n : NodeM} (h : zao 200 n = true) : zgW n = (zav n).map fun m => m.kind == 2 := by
 show zdl n zbp ztZ = _
 unfold zdl
 rw [h, zeV, List.map_map]; rfl
def LElS {A : Type} [Inhabited A] (g : A -> List SV) (l : List A) (n : Nat) (el : Nat -> List SV) : Prop := n = l.length /\ ∀ i, i < n -> SameL (el i) (g (l.getD i default))
theorem LElS.snoc {A : Type} [Inhabited A] {g : A -> List SV} {l : List A} {n sz : Nat} {el : Nat -> List SV} {x : A} {cs : List SV} (h : LElS g l n el) (hc : SameL cs (g x)) (hl : cs.length = sz) : LElS g (l ++ [x]) (n + 1) (zdG n el (zfy sz cs)) := by
 obtain ⟨rfl, h⟩ := h
 refine ⟨by simp, fun i hi => ?_⟩
 unfold zdG
 split
 ·rename_i hq
  have := h i hq
  rw [List.getD_eq_getElem?_getD] at this ⊢
  rw [List.getElem?_append_left hq]; exact this
 ·have : i = l.length := by omega
  subst this
  rw [<- hl]
  simp [zfy]
  exact hc
theorem zwi (a : AtomM) {e : Nat -> List SV} : SameL [ai a.kind, ab a.bnd, au a.bound, .isl 2 (0 + a.cs.length) (zdG 0 e (zdx a.cs)), zrz a.name] (zcU a) := by
 rw [Nat.zero_add]
 exact .cons (.refl _) (.cons (.refl _) (.cons (.refl _) (.cons (.isl fun i _ => zAW i) (.cons (.refl _) .nil))))
theorem zpR {A B : Type} [Inhabited A] {l : List A} {f : A -> B} {k : Nat} {x : A} (hk : k < l.length) (hx : l.getD k default = x) : (l.take (k + 1)).map f = (l.take k).map f ++ [f x] := by
 subst hx
 rw [List.take_add_one, List.getElem?_eq_getElem hk, List.map_append, List.getD_eq_getElem?_getD, List.getElem?_eq_getElem hk]; simp
theorem zvp {n : NodeM} (hn : Fit n) {k : Nat} (hk : k < (zav n).length) : Fit ((zav n).getD k default) := by
 have hm : (zav n).getD k default ∈ zav n := zlT hk
 rw [zeV] at hm
 obtain ⟨p, hp, he⟩ := List.mem_map.1 hm
 rw [<- zeV] at he
 rw [<- he]
 obtain ⟨i, hi⟩ := List.mem_iff_getElem?.1 (List.mem_filter.1 hp).1
 exact zob hn hi
theorem zs1 {A : Type} [Inhabited A] {g : A -> List SV} {sz : Nat} {n : NodeM} {q : Int × NodeM -> Bool} {f : Int × NodeM -> A} (h : (zaC n != 0) = true) : Same (.tup [.cv .nils, ai (zaC n)]) (.tup [.isl sz (zdl n q f).length (elF g (zdl n q f)), ai (zaC n)]) := zh4 h
set_option maxHeartbeats 8000000 in
theorem zhN (n : NodeM) (hn : NFit n) : DSpec Tryz.prog axX axG 46 [.agg (zah n)] [] (fun v O => v = .tup [.isl 5 (zaf n).length (elF zcU (zaf n)), ai (zaC n)] /\ O = []) := by
 have hll := zdn n
 have hnum := hn.num
 refine DSpec.same (post := fun v O => Same v (.tup [.isl 5 (zaf n).length (elF zcU (zaf n)), ai (zaC n)]) /\ O = []) ?_ fun v O h => ⟨_, h.1, rfl, h.2⟩
 refine zac { glb := axG, ann := [(7, [7, 6])], nils := [(7, [(.slot 6, 25, 5)])] } true Tryz.func46 (by kernel_rfl) rfl ?_
 repeat' (
   (conv => whnf)
   first
    | exact zad (by kernel_rfl)
    | refine And.intro ?_ ?_
    | refine zaa ?_ ?_
    | (refine ⟨_, zlo n hn.fit, ?_⟩; rintro v O' ⟨rfl, rfl⟩)
    | (refine ⟨_, zpO n hn.fit ⟨200, (zaZ (by assumption)).1⟩ hn.num, ?_⟩; rintro v O' ⟨rfl, rfl⟩)
    | ((refine ⟨fun vs O _ => ∃ (k m : Nat) (el : Nat -> List SV), k ≤ (zav n).length /\ LElS zcU (((zav n).take k).map NodeM.atom) m el /\ vs = [ai k, .lst 1] /\ O = [.cells 28 (zah n), .list 25 5 m el], fun vs O => match vs with | [.cv (.int _ k), _] => (zav n).length - k.toNat | _ => 0, ⟨0, 0, _, Nat.zero_le _, ⟨rfl, fun i h => absurd h (by omega)⟩, rfl, rfl⟩, ?_⟩; rintro vs O _ ⟨k, m, el, hk, hl, rfl, rfl⟩))
    | intro _)
 all_goals first
  | rfl
  | omega
  | (simp only [zz] at *; omega)
  | (rename_i hz; exact zs1 hz)
  | (have h1 := hl.1; rw [List.length_map, List.length_take] at h1; omega)
  | (have hlf := (zvp hn.fit (k := k) (by (simp only [zz] at *; omega))).self.2; rw [Nat.zero_add]; exact hlf)
  | exact ⟨k + 1, _, _, by (simp only [zz] at *; omega), by rw [zpR (k := k) (by (simp only [zz] at *; omega)) rfl]; exact hl.snoc (zwi _) rfl, rfl, rfl⟩
  | (have hkk : k = (zav n).length := by (simp only [zz] at *; omega)
     subst hkk
     rw [List.take_of_length_le (Nat.le_refl _)] at hl
     obtain ⟨rfl, h2⟩ := hl
     have hso := zaZ (n := n) (by assumption)
     rw [zmf hso.1, hso.2]
     exact .tup (.cons (.islD h2) (.cons (.refl _) .nil)))
set_option maxHeartbeats 8000000 in
theorem zkk (n : NodeM) (hn : NFit n) : DSpec Tryz.prog axX axG 70 [.agg (zah n)] [] (fun v O => v = .tup [.isl 1 (zgW n).length (elF zo2 (zgW n)), ai (zaC n)] /\ O = []) := by
 have hll := zdn n
 have hnum := hn.num
 refine DSpec.same (post := fun v O => Same v (.tup [.isl 1 (zgW n).length (elF zo2 (zgW n)), ai (zaC n)]) /\ O = []) ?_ fun v O h => ⟨_, h.1, rfl, h.2⟩
 refine zac { glb := axG, ann := [(7, [7, 6])], nils := [(7, [(.slot 6, 4, 1)])] } true Tryz.func70 (by kernel_rfl) rfl ?_
 repeat' (
   (conv => whnf)
   first
    | exact zad (by kernel_rfl)
    | refine And.intro ?_ ?_
    | refine zaa ?_ ?_
    | (refine ⟨_, zlo n hn.fit, ?_⟩; rintro v O' ⟨rfl, rfl⟩)
    | (refine ⟨_, zpO n hn.fit ⟨200, (zaZ (by assumption)).1⟩ hn.num, ?_⟩; rintro v O' ⟨rfl, rfl⟩)
    | ((refine ⟨fun vs O _ => ∃ (k m : Nat) (el : Nat -> List SV), k ≤ (zav n).length /\ LElA zo2 (((zav n).take k).map fun m => m.kind == 2) m el /\ vs = [ai k, .lst 1] /\ O = [.cells 28 (zah n), .list 4 1 m el], fun vs O => match vs with | [.cv (.int _ k), _] => (zav n).length - k.toNat | _ => 0, ⟨0, 0, _, Nat.zero_le _, ⟨rfl, fun i h => absurd h (by omega)⟩, rfl, rfl⟩, ?_⟩; rintro vs O _ ⟨k, m, el, hk, hl, rfl, rfl⟩))
    | intro _)
 all_goals first
  | rfl
  | omega
  | (simp only [zz] at *; omega)
  | (rename_i hz; exact zs1 hz)
  | (have h1 := hl.1; rw [List.length_map, List.length_take] at h1; omega)
  | exact ⟨k + 1, _, _, by (simp only [zz] at *; omega), by rw [zpR (k := k) (by (simp only [zz] at *; omega)) rfl]; exact hl.snoc rfl rfl, rfl, rfl⟩
  | (have hkk : k = (zav n).length := by (simp only [zz] at *; omega)
     subst hkk
     rw [List.take_of_length_le (Nat.le_refl _)] at hl
     obtain ⟨rfl, h2⟩ := hl
     have hso := zaZ (n := n) (by assumption)
     rw [zvx hso.1, hso.2]
     exact .tup (.cons (.isl h2) (.cons (.refl _) .nil)))
theorem zpF : ∀ (l : List NodeM) (x : NodeM), depL (l ++ [x]) = max (depL l) x.dep
 | [], x => by simp [depL]
 | a :: r, x => by rw [List.cons_append, depL, depL, zpF r x]; omega
theorem zne {n : NodeM} {k : Nat} (hk : k < n.kids.length) : ((depL (n.kids.take (k + 1)) : Nat) : Int) = max ((depL (n.kids.take k) : Nat) : Int) (((atN n.kids k).dep : Nat) : Int) := by
 rw [List.take_add_one, List.getElem?_eq_getElem hk, zhb hk]
 simp only [Option.toList_some]
 rw [zpF]; omega
theorem zsp {n : NodeM} {k : Nat} (hk : decide ((k : Int) < n.kids.length) = false) : ((depL (n.kids.take k) : Nat) : Int) + 1 = n.dep := by
 rw [List.take_of_length_le (by simp at hk; omega), zbI]; omega
theorem zml (n : NodeM) (k : Nat) : depL (n.kids.take k) ≤ depL n.kids := by
 have : ∀ (l r : List NodeM), depL l ≤ depL (l ++ r) := by
  intro l
  induction l with
  | nil => intro r; rw [depL]; omega
  | cons a l ih => intro r; rw [List.cons_append, depL, depL]; have := ih r; omega
 have h := this (n.kids.take k) (n.kids.drop k)
 rwa [List.take_append_drop] at h
set_option maxHeartbeats 8000000 in
theorem zvJ : ∀ (n : NodeM) (hn : Fit n) (hd : n.dep ≤ 100000), DSpec Tryz.prog axX axG 69 [.agg (zah n)] [] (fun v O => v = ai (n.dep : Int) /\ O = []) := by
 intro n
 induction n using zbH with | h n ih => ?_
 intro hn hd
 have hz := hn.self.1
 rcases zbr n with he | he
 ·skip
  refine zac { glb := axG, ann := [(3, [4, 3])] } true Tryz.func69 (by kernel_rfl) rfl ?_
  repeat' (
    (conv => whnf)
    first
     | exact zad (by kernel_rfl)
     | refine And.intro ?_ ?_
     | refine zaa ?_ ?_
     | ((refine ⟨fun vs O _ => ∃ k : Nat, k ≤ n.kids.length /\ vs = [ai k, ai ((depL (n.kids.take k) : Nat) : Int)] /\ O = [.cells 28 (zcg n (zbY n.kids))], fun vs O => match vs with | [.cv (.int _ k), _] => n.kids.length - k.toNat | _ => 0, ⟨0, Nat.zero_le _, rfl, rfl⟩, ?_⟩; rintro vs O _ ⟨k, hk, rfl, rfl⟩))
     | (refine ⟨_, ih (atN n.kids k) (zaY (by (simp only [zz] at *; omega))) (hn.kid (zaY (by (simp only [zz] at *; omega)))) (by have := zgU (zaY (l := n.kids) (k := k) (by (simp only [zz] at *; omega))); omega), ?_⟩; rintro v O' ⟨rfl, rfl⟩)
     | intro _)
  all_goals try have htk := zml n k
  all_goals have hdk := zbI n
  all_goals first
   | rfl
   | omega
   | (simp only [zz] at *; omega)
   | (exfalso; (simp only [zz] at *; omega))
   | exact ⟨k + 1, by (simp only [zz] at *; omega), by rw [zne (by (simp only [zz] at *; omega))]; rfl, rfl⟩
   | exact congrArg ai (zsp (by assumption))
   | skip
 ·rw [he]
  refine zac { glb := axG, ann := [(3, [4, 3])] } true Tryz.func69 (by kernel_rfl) rfl ?_
  repeat' (
    (conv => whnf)
    first
     | exact zad (by kernel_rfl)
     | refine And.intro ?_ ?_
     | refine zaa ?_ ?_
     | ((refine ⟨fun vs O _ => ∃ k : Nat, k ≤ n.kids.length /\ vs = [ai k, ai ((depL (n.kids.take k) : Nat) : Int)] /\ O = [.cells 28 (zcg n (fun i => zah (atN n.kids i)))], fun vs O => match vs with | [.cv (.int _ k), _] => n.kids.length - k.toNat | _ => 0, ⟨0, Nat.zero_le _, rfl, rfl⟩, ?_⟩; rintro vs O _ ⟨k, hk, rfl, rfl⟩))
     | (refine ⟨_, ih (atN n.kids k) (zaY (by (simp only [zz] at *; omega))) (hn.kid (zaY (by (simp only [zz] at *; omega)))) (by have := zgU (zaY (l := n.kids) (k := k) (by (simp only [zz] at *; omega))); omega), ?_⟩; rintro v O' ⟨rfl, rfl⟩)
     | intro _)
  all_goals try have htk := zml n k
  all_goals have hdk := zbI n
  all_goals first
   | rfl
   | omega
   | (simp only [zz] at *; omega)
   | (exfalso; (simp only [zz] at *; omega))
   | exact ⟨k + 1, by (simp only [zz] at *; omega), by rw [zne (by (simp only [zz] at *; omega))]; rfl, rfl⟩
   | exact congrArg ai (zsp (by assumption))
theorem zql (n : NodeM) (hn : NFit n) : DSpec Tryz.prog axX axG 37 [.agg (zah n)] [] (fun v O => v = .tup [ai (zpe n), ai (zaC n)] /\ O = []) := by
 refine zac { glb := axG } true Tryz.func37 (by kernel_rfl) rfl ?_
 repeat' (
   (conv => whnf)
   first
    | exact zad (by kernel_rfl)
    | refine And.intro ?_ ?_
    | refine zaa ?_ ?_
    | (refine ⟨_, zlo n hn.fit, ?_⟩; rintro v O' ⟨rfl, rfl⟩)
    | (refine ⟨_, zvJ n hn.fit hn.dep, ?_⟩; rintro v O' ⟨rfl, rfl⟩)
    | intro _)
 all_goals first
  | rfl
  | (rename_i hz; unfold zpe; rw [zg1 hz]; rfl)
  | (rename_i hz; unfold zpe; rw [(zaZ hz).1, (zaZ hz).2]; rfl)
end Go.Proofs.YtlfhikphdkpfgaaGreatDoor
