import Derived.Test.YtlfhikphdkpfgaaDoorAl
set_option linter.unusedSimpArgs false
set_option linter.unusedVariables false
set_option maxRecDepth 100000
namespace Go.Proofs.YtlfhikphdkpfgaaDoor
open Go Go.Cx
theorem zeh (n : NodeM) : zas n = ((zaE 1 n).filter zby).map (·.2) := by
 unfold zas
 rw [<- zd8 n 1, List.filter_map]; rfl
theorem zfN {n : NodeM} (h : zai 200 n = true) : zaZ n = (zas n).map NodeM.atom := by
 show zcY n zby zhz = _
 unfold zcY
 rw [h, zeh, List.map_map]; rfl
theorem zut {n : NodeM} (h : zai 200 n = true) : zlQ n = (zas n).map fun m => m.kind == 2 := by
 show zcY n zby ztM = _
 unfold zcY
 rw [h, zeh, List.map_map]; rfl
def LElS {A : Type} [Inhabited A] (g : A -> List SV) (l : List A) (n : Nat) (el : Nat -> List SV) : Prop := n = l.length /\ ∀ i, i < n -> SameL (el i) (g (l.getD i default))
theorem LElS.snoc {A : Type} [Inhabited A] {g : A -> List SV} {l : List A} {n sz : Nat} {el : Nat -> List SV} {x : A} {cs : List SV} (h : LElS g l n el) (hc : SameL cs (g x)) (hl : cs.length = sz) : LElS g (l ++ [x]) (n + 1) (zeE n el (zgX sz cs)) := by
 obtain ⟨rfl, h⟩ := h
 refine ⟨by simp, fun i hi => ?_⟩
 unfold zeE
 split
 ·rename_i hq
  have := h i hq
  rw [List.getD_eq_getElem?_getD] at this ⊢
  rw [List.getElem?_append_left hq]; exact this
 ·have : i = l.length := by omega
  subst this
  rw [<- hl]
  simp [zgX]
  exact hc
theorem zt3 (a : AtomM) {e : Nat -> List SV} : SameL [ai a.kind, ab a.bnd, au a.bound, .isl 2 (0 + a.cs.length) (zeE 0 e (zdI a.cs)), zvh a.name] (zbA a) := by
 rw [Nat.zero_add]
 exact .cons (.refl _) (.cons (.refl _) (.cons (.refl _) (.cons (.isl fun i _ => zyT i) (.cons (.refl _) .nil))))
theorem zpo {A B : Type} [Inhabited A] {l : List A} {f : A -> B} {k : Nat} {x : A} (hk : k < l.length) (hx : l.getD k default = x) : (l.take (k + 1)).map f = (l.take k).map f ++ [f x] := by
 subst hx
 rw [List.take_add_one, List.getElem?_eq_getElem hk, List.map_append, List.getD_eq_getElem?_getD, List.getElem?_eq_getElem hk]; simp
theorem ztP {n : NodeM} (hn : Fit n) {k : Nat} (hk : k < (zas n).length) : Fit ((zas n).getD k default) := by
 have hm : (zas n).getD k default ∈ zas n := zv9 hk
 rw [zeh] at hm
 obtain ⟨p, hp, he⟩ := List.mem_map.1 hm
 rw [<- zeh] at he
 rw [<- he]
 obtain ⟨i, hi⟩ := List.mem_iff_getElem?.1 (List.mem_filter.1 hp).1
 exact ztu hn hi
theorem zsy {A : Type} [Inhabited A] {g : A -> List SV} {sz : Nat} {n : NodeM} {q : Int × NodeM -> Bool} {f : Int × NodeM -> A} (h : (zay n != 0) = true) : Same (.tup [.cv .nils, ai (zay n)]) (.tup [.isl sz (zcY n q f).length (elF g (zcY n q f)), ai (zay n)]) := zhk h
set_option maxHeartbeats 8000000 in
theorem ztV (n : NodeM) (hn : NFit n) : DSpec Tryd.prog axX axG 47 [.agg (zaj n)] [] (fun v O => v = .tup [.isl 5 (zaZ n).length (elF zbA (zaZ n)), ai (zay n)] /\ O = []) := by
 have hll := zc1 n
 have hnum := hn.num
 refine DSpec.same (post := fun v O => Same v (.tup [.isl 5 (zaZ n).length (elF zbA (zaZ n)), ai (zay n)]) /\ O = []) ?_ fun v O h => ⟨_, h.1, rfl, h.2⟩
 refine zac { glb := axG, ann := [(7, [7, 6])], nils := [(7, [(.slot 6, 39, 5)])] } true Tryd.func47 (by kernel_rfl) rfl ?_
 repeat' (
   (conv => whnf)
   first
    | exact zad (by kernel_rfl)
    | refine And.intro ?_ ?_
    | refine zaa ?_ ?_
    | (refine ⟨_, zg7 n hn.fit, ?_⟩; rintro v O' ⟨rfl, rfl⟩)
    | (refine ⟨_, zo8 n hn.fit ⟨200, (zaO (by assumption)).1⟩ hn.num, ?_⟩; rintro v O' ⟨rfl, rfl⟩)
    | ((refine ⟨fun vs O _ => ∃ (k m : Nat) (el : Nat -> List SV), k ≤ (zas n).length /\ LElS zbA (((zas n).take k).map NodeM.atom) m el /\ vs = [ai k, .lst 1] /\ O = [.cells 42 (zaj n), .list 39 5 m el], fun vs O => match vs with | [.cv (.int _ k), _] => (zas n).length - k.toNat | _ => 0, ⟨0, 0, _, Nat.zero_le _, ⟨rfl, fun i h => absurd h (by omega)⟩, rfl, rfl⟩, ?_⟩; rintro vs O _ ⟨k, m, el, hk, hl, rfl, rfl⟩))
    | intro _)
 all_goals first
  | rfl
  | omega
  | (simp only [zz] at *; omega)
  | (rename_i hz; exact zsy hz)
  | (have h1 := hl.1; rw [List.length_map, List.length_take] at h1; omega)
  | (have hlf := (ztP hn.fit (k := k) (by (simp only [zz] at *; omega))).self.2; rw [Nat.zero_add]; exact hlf)
  | exact ⟨k + 1, _, _, by (simp only [zz] at *; omega), by rw [zpo (k := k) (by (simp only [zz] at *; omega)) rfl]; exact hl.snoc (zt3 _) rfl, rfl, rfl⟩
  | (have hkk : k = (zas n).length := by (simp only [zz] at *; omega)
     subst hkk
     rw [List.take_of_length_le (Nat.le_refl _)] at hl
     obtain ⟨rfl, h2⟩ := hl
     have hso := zaO (n := n) (by assumption)
     rw [zfN hso.1, hso.2]
     exact .tup (.cons (.islD h2) (.cons (.refl _) .nil)))
set_option maxHeartbeats 8000000 in
theorem zqC (n : NodeM) (hn : NFit n) : DSpec Tryd.prog axX axG 49 [.agg (zaj n)] [] (fun v O => v = .tup [.isl 1 (zlQ n).length (elF zkL (zlQ n)), ai (zay n)] /\ O = []) := by
 have hll := zc1 n
 have hnum := hn.num
 refine DSpec.same (post := fun v O => Same v (.tup [.isl 1 (zlQ n).length (elF zkL (zlQ n)), ai (zay n)]) /\ O = []) ?_ fun v O h => ⟨_, h.1, rfl, h.2⟩
 refine zac { glb := axG, ann := [(7, [7, 6])], nils := [(7, [(.slot 6, 4, 1)])] } true Tryd.func49 (by kernel_rfl) rfl ?_
 repeat' (
   (conv => whnf)
   first
    | exact zad (by kernel_rfl)
    | refine And.intro ?_ ?_
    | refine zaa ?_ ?_
    | (refine ⟨_, zg7 n hn.fit, ?_⟩; rintro v O' ⟨rfl, rfl⟩)
    | (refine ⟨_, zo8 n hn.fit ⟨200, (zaO (by assumption)).1⟩ hn.num, ?_⟩; rintro v O' ⟨rfl, rfl⟩)
    | ((refine ⟨fun vs O _ => ∃ (k m : Nat) (el : Nat -> List SV), k ≤ (zas n).length /\ LElA zkL (((zas n).take k).map fun m => m.kind == 2) m el /\ vs = [ai k, .lst 1] /\ O = [.cells 42 (zaj n), .list 4 1 m el], fun vs O => match vs with | [.cv (.int _ k), _] => (zas n).length - k.toNat | _ => 0, ⟨0, 0, _, Nat.zero_le _, ⟨rfl, fun i h => absurd h (by omega)⟩, rfl, rfl⟩, ?_⟩; rintro vs O _ ⟨k, m, el, hk, hl, rfl, rfl⟩))
    | intro _)
 all_goals first
  | rfl
  | omega
  | (simp only [zz] at *; omega)
  | (rename_i hz; exact zsy hz)
  | (have h1 := hl.1; rw [List.length_map, List.length_take] at h1; omega)
  | exact ⟨k + 1, _, _, by (simp only [zz] at *; omega), by rw [zpo (k := k) (by (simp only [zz] at *; omega)) rfl]; exact hl.snoc rfl rfl, rfl, rfl⟩
  | (have hkk : k = (zas n).length := by (simp only [zz] at *; omega)
     subst hkk
     rw [List.take_of_length_le (Nat.le_refl _)] at hl
     obtain ⟨rfl, h2⟩ := hl
     have hso := zaO (n := n) (by assumption)
     rw [zut hso.1, hso.2]
     exact .tup (.cons (.isl h2) (.cons (.refl _) .nil)))
theorem zoK : ∀ (l : List NodeM) (x : NodeM), depL (l ++ [x]) = max (depL l) x.dep
 | [], x => by simp [depL]
 | a :: r, x => by rw [List.cons_append, depL, depL, zoK r x]; omega
theorem zio {n : NodeM} {k : Nat} (hk : k < n.kids.length) : ((depL (n.kids.take (k + 1)) : Nat) : Int) = max ((depL (n.kids.take k) : Nat) : Int) (((atN n.kids k).dep : Nat) : Int) := by
 rw [List.take_add_one, List.getElem?_eq_getElem hk, zia hk]
 simp only [Option.toList_some]
 rw [zoK]; omega
theorem zru {n : NodeM} {k : Nat} (hk : decide ((k : Int) < n.kids.length) = false) : ((depL (n.kids.take k) : Nat) : Int) + 1 = n.dep := by
 rw [List.take_of_length_le (by simp at hk; omega), zaT]; omega
theorem zhV (n : NodeM) (k : Nat) : depL (n.kids.take k) ≤ depL n.kids := by
 have : ∀ (l r : List NodeM), depL l ≤ depL (l ++ r) := by
  intro l
  induction l with
  | nil => intro r; rw [depL]; omega
  | cons a l ih => intro r; rw [List.cons_append, depL, depL]; have := ih r; omega
 have h := this (n.kids.take k) (n.kids.drop k)
 rwa [List.take_append_drop] at h
set_option maxHeartbeats 8000000 in
theorem zt4 : ∀ (n : NodeM) (hn : Fit n) (hd : n.dep ≤ 100000), DSpec Tryd.prog axX axG 111 [.agg (zaj n)] [] (fun v O => v = ai (n.dep : Int) /\ O = []) := by
 intro n
 induction n using zce with | h n ih => ?_
 intro hn hd
 have hz := hn.self.1
 rcases zbM n with he | he
 ·skip
  refine zac { glb := axG, ann := [(3, [4, 3])] } true Tryd.func111 (by kernel_rfl) rfl ?_
  repeat' (
    (conv => whnf)
    first
     | exact zad (by kernel_rfl)
     | refine And.intro ?_ ?_
     | refine zaa ?_ ?_
     | ((refine ⟨fun vs O _ => ∃ k : Nat, k ≤ n.kids.length /\ vs = [ai k, ai ((depL (n.kids.take k) : Nat) : Int)] /\ O = [.cells 42 (zfm n (zeb n.kids))], fun vs O => match vs with | [.cv (.int _ k), _] => n.kids.length - k.toNat | _ => 0, ⟨0, Nat.zero_le _, rfl, rfl⟩, ?_⟩; rintro vs O _ ⟨k, hk, rfl, rfl⟩))
     | (refine ⟨_, ih (atN n.kids k) (zba (by (simp only [zz] at *; omega))) (hn.kid (zba (by (simp only [zz] at *; omega)))) (by have := zcW (zba (l := n.kids) (k := k) (by (simp only [zz] at *; omega))); omega), ?_⟩; rintro v O' ⟨rfl, rfl⟩)
     | intro _)
  all_goals try have htk := zhV n k
  all_goals have hdk := zaT n
  all_goals first
   | rfl
   | omega
   | (simp only [zz] at *; omega)
   | (exfalso; (simp only [zz] at *; omega))
   | exact ⟨k + 1, by (simp only [zz] at *; omega), by rw [zio (by (simp only [zz] at *; omega))]; rfl, rfl⟩
   | exact congrArg ai (zru (by assumption))
   | skip
 ·rw [he]
  refine zac { glb := axG, ann := [(3, [4, 3])] } true Tryd.func111 (by kernel_rfl) rfl ?_
  repeat' (
    (conv => whnf)
    first
     | exact zad (by kernel_rfl)
     | refine And.intro ?_ ?_
     | refine zaa ?_ ?_
     | ((refine ⟨fun vs O _ => ∃ k : Nat, k ≤ n.kids.length /\ vs = [ai k, ai ((depL (n.kids.take k) : Nat) : Int)] /\ O = [.cells 42 (zfm n (fun i => zaj (atN n.kids i)))], fun vs O => match vs with | [.cv (.int _ k), _] => n.kids.length - k.toNat | _ => 0, ⟨0, Nat.zero_le _, rfl, rfl⟩, ?_⟩; rintro vs O _ ⟨k, hk, rfl, rfl⟩))
     | (refine ⟨_, ih (atN n.kids k) (zba (by (simp only [zz] at *; omega))) (hn.kid (zba (by (simp only [zz] at *; omega)))) (by have := zcW (zba (l := n.kids) (k := k) (by (simp only [zz] at *; omega))); omega), ?_⟩; rintro v O' ⟨rfl, rfl⟩)
     | intro _)
  all_goals try have htk := zhV n k
  all_goals have hdk := zaT n
  all_goals first
   | rfl
   | omega
   | (simp only [zz] at *; omega)
   | (exfalso; (simp only [zz] at *; omega))
   | exact ⟨k + 1, by (simp only [zz] at *; omega), by rw [zio (by (simp only [zz] at *; omega))]; rfl, rfl⟩
   | exact congrArg ai (zru (by assumption))
theorem ztL (n : NodeM) (hn : NFit n) : DSpec Tryd.prog axX axG 51 [.agg (zaj n)] [] (fun v O => v = .tup [ai (zuQ n), ai (zay n)] /\ O = []) := by
 refine zac { glb := axG } true Tryd.func51 (by kernel_rfl) rfl ?_
 repeat' (
   (conv => whnf)
   first
    | exact zad (by kernel_rfl)
    | refine And.intro ?_ ?_
    | refine zaa ?_ ?_
    | (refine ⟨_, zg7 n hn.fit, ?_⟩; rintro v O' ⟨rfl, rfl⟩)
    | (refine ⟨_, zt4 n hn.fit hn.dep, ?_⟩; rintro v O' ⟨rfl, rfl⟩)
    | intro _)
 all_goals first
  | rfl
  | (rename_i hz; unfold zuQ; rw [zer hz]; rfl)
  | (rename_i hz; unfold zuQ; rw [(zaO hz).1, (zaO hz).2]; rfl)
end Go.Proofs.YtlfhikphdkpfgaaDoor
