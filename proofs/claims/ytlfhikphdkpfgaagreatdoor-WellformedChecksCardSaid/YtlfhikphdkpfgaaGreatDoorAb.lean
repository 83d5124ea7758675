import Derived.Test.YtlfhikphdkpfgaaGreatDoorAa
import Derived.Test.YtlfhikphdkpfgaaGreatDoorProg
import Derived.KernelRfl
set_option linter.unusedSimpArgs false
set_option linter.unusedVariables false
set_option maxRecDepth 100000
namespace Go.Proofs.YtlfhikphdkpfgaaGreatDoor
open Go Go.Cx
def axT : Mem -> List CV -> Option CV := fun _ args => match args with
 | [] => some (.bool true)
 | _ :: _ => none
def axA (f : FuncId) : Bool := false
def axK (f : FuncId) : Bool := false
abbrev axX : Ext := fun f => match axA f || axK f with
 | true => some axT
 | false => none
def aggNames : List (List Nat) := [[99, 111, 117, 110, 116], [115, 117, 109], [109, 105, 110], [109, 97, 120], [102, 105, 114, 115, 116], [108, 97, 115, 116]]
def axG : List (Nat × List CV) := [(0, [.str [99, 111, 117, 110, 116], .str [115, 117, 109], .str [109, 105, 110], .str [109, 97, 120], .str [102, 105, 114, 115, 116], .str [108, 97, 115, 116]])]
def zl4 (b : Nat) : Bool := Nat.ble 97 b && Nat.ble b 122
def wordsL : List (List Nat) := [[119, 105, 116, 104, 105, 110], [104, 97, 118, 105, 110, 103], [97, 110, 100], [101, 109, 105, 116], [110, 111, 116]]
noncomputable def zd9 (s : List Nat) : Bool := !(za1 s [] || decide ((s.length : Int) > 8)) && ((s.all fun b => zl4 (b % 256)) && (!(wordsL.any fun w => za1 s w) && !(aggNames.any fun w => za1 s w)))
def opB (n : Int) : Bool := inB n 1 6
@[reducible] noncomputable def isE (s : List Nat) : Bool := za1 s (List.map UInt8.toNat (ByteArray.mk #[]).data.toList)
noncomputable def zmH (a : AtomM) : Bool := (decide (a.kind ≥ 0) && decide (a.kind ≤ 25)) && ((a.bnd || a.bound == 0) && ((isE (nm a.name) || zd9 (nm a.name)) && !(a.cs.any fun c => !opB c.op)))
noncomputable def zsI (a : AtomM) : Bool := a.kind == 0 && (!a.bnd && (a.bound == 0 && ((a.cs.length : Int) == 0 && isE (nm a.name))))
noncomputable def zao : Nat -> NodeM -> Bool
 | 0, _ => false
 | d + 1, n => bif n.kind == 1 then zmH n.atom && (decide (n.mn ≥ 0) && (decide (n.mn ≤ 99) && (decide (n.mx ≥ 0) && (decide (n.mx ≤ 99) && (n.kids.length : Int) == 0))))
  else bif n.kind == 2 then zmH n.atom && (n.mn == 0 && (n.mx == 0 && (n.kids.length : Int) == 0))
  else bif (n.kind == 3 || n.kind == 4) then decide ((n.kids.length : Int) ≥ 2) && (n.mn == 0 && (n.mx == 0 && (zsI n.atom && !(n.kids.any fun m => !zao d m))))
  else false
theorem zck {A : Type} {d : A} {l : List A} {p : A -> Bool} {k : Nat} (hk : k < l.length) (h : p (l.getD k d) = true) : decide ((k : Int) ≥ 0) = l.any p := by
 have : l.any p = true := by
  rw [List.any_eq_true]
  refine ⟨l.getD k d, ?_, h⟩
  rw [List.getD_eq_getElem?_getD, List.getElem?_eq_getElem hk]; exact List.getElem_mem hk
 rw [this]; simp
theorem zcp {A : Type} {d : A} {l : List A} {p : A -> Bool} {k : Nat} (hk : l.length ≤ k) (h : ∀ j, j < k -> p (l.getD j d) = false) : decide ((-1 : Int) ≥ 0) = l.any p := by
 have : l.any p = false := by
  rw [Bool.eq_false_iff, Ne, List.any_eq_true]
  rintro ⟨x, hx, hp⟩
  obtain ⟨i, hi, rfl⟩ := List.mem_iff_getElem.1 hx
  have := h i (by omega)
  rw [List.getD_eq_getElem?_getD, List.getElem?_eq_getElem hi] at this
  simp only [Option.getD_some] at this
  rw [this] at hp; cases hp
 rw [this]; rfl
theorem zaO {p : Nat -> Bool} {k : Nat} (h : ∀ j, j < k -> p j = false) (hk : p k = false) : ∀ j, j < k + 1 -> p j = false := fun j hj => by
 rcases Nat.lt_succ_iff_lt_or_eq.1 hj with h1 | rfl
 ·exact h j h1
 ·exact hk
theorem zlT {A : Type} [Inhabited A] {l : List A} {k : Nat} (hk : k < l.length) : l.getD k default ∈ l := by
 rw [List.getD_eq_getElem?_getD, List.getElem?_eq_getElem hk]; exact List.getElem_mem hk
theorem zAY (n : Int) : DSpec Tryz.prog axX axG 84 [ai n] [] (fun v O => v = ab (opB n) /\ O = []) := by
 refine zac { glb := axG } true Tryz.func84 (by kernel_rfl) rfl ?_
 repeat' (
   (conv => whnf)
   first
    | exact zad (by kernel_rfl)
    | refine And.intro ?_ ?_
    | refine zaa ?_ ?_
    | intro _)
 all_goals first
  | rfl
  | (unfold opB; ((try (refine congrArg (fun b => SV.cv (CV.bool b)) ?_)); (try rw [Bool.eq_iff_iff]); simp only [zz] at *; first | done | omega))
set_option maxRecDepth 100000 in
theorem zxb (c : CondM) : DSpec Tryz.prog axX axG 139 [.agg (ztd c)] [] (fun v O => v = ab (!opB c.op) /\ O = []) := by
 refine zac { glb := axG } true Tryz.func139 (by kernel_rfl) rfl ?_
 repeat' (
   (conv => whnf)
   first
    | exact zad (by kernel_rfl)
    | refine And.intro ?_ ?_
    | refine zaa ?_ ?_
    | (refine ⟨_, zAY _, ?_⟩; rintro v O' ⟨rfl, rfl⟩)
    | intro _)
 all_goals rfl
set_option maxRecDepth 100000 in
theorem zrI (l : List CondM) (hl : l.length ≤ 9223372036854775807) : DSpec Tryz.prog axX axG 150 [.isl 2 l.length (zdx l), .fn 139 [] []] [] (fun v O => ∃ k : Int, v = ai k /\ decide (k ≥ 0) = (l.any fun c => !opB c.op) /\ O = []) := by
 refine zac { glb := axG, ann := [(2, [8])] } true Tryz.func150 (by kernel_rfl) rfl ?_
 repeat' (
   (conv => whnf)
   first
    | exact zad (by kernel_rfl)
    | refine And.intro ?_ ?_
    | refine zaa ?_ ?_
    | ((refine ⟨fun vs O _ => ∃ k : Nat, k ≤ l.length /\ (∀ j, j < k -> (!opB (l.getD j default).op) = false) /\ vs = [ai k] /\ O = [], fun vs O => match vs with | [.cv (.int _ k)] => l.length - k.toNat | _ => 0, ⟨0, Nat.zero_le _, fun j h => absurd h (by omega), rfl, rfl⟩, ?_⟩; rintro vs O _ ⟨k, hk, hj, rfl, rfl⟩))
    | (refine ⟨_, zxb (l.getD k default), ?_⟩; rintro v O' ⟨rfl, rfl⟩)
    | intro _)
 all_goals first
  | rfl
  | omega
  | (simp only [zz] at *; omega)
  | (rename_i hz; exact ⟨k, rfl, zck (p := fun c : CondM => !opB c.op) (by (simp only [zz] at *; omega)) hz, rfl⟩)
  | (rename_i hz; exact ⟨k + 1, by (simp only [zz] at *; omega), zaO (p := fun j => !opB (l.getD j default).op) hj hz, rfl, rfl⟩)
  | exact ⟨-1, rfl, zcp (p := fun c : CondM => !opB c.op) (by (simp only [zz] at *; omega)) hj, rfl⟩
set_option maxRecDepth 100000 in
theorem ztt (l : List CondM) (hl : l.length ≤ 9223372036854775807) : DSpec Tryz.prog axX axG 138 [.isl 2 l.length (zdx l), .fn 139 [] []] [] (fun v O => v = ab (l.any fun c => !opB c.op) /\ O = []) := by
 refine zac { glb := axG } true Tryz.func138 (by kernel_rfl) rfl ?_
 repeat' (
   (conv => whnf)
   first
    | exact zad (by kernel_rfl)
    | refine And.intro ?_ ?_
    | refine zaa ?_ ?_
    | (refine ⟨_, zrI l hl, ?_⟩; rintro v O' ⟨k, rfl, hk, rfl⟩)
    | intro _)
 all_goals first
  | rfl
  | exact congrArg (fun b => SV.cv (CV.bool b)) hk
set_option maxRecDepth 100000 in
theorem zuD (s : List Nat) : DSpec Tryz.prog axX axG 141 [.isl 1 6 (zfy 1 (aggNames.map fun x => SV.cv (.str x))), .cv (.str s)] [] (fun v O => ∃ k : Int, v = ai k /\ decide (k ≥ 0) = (aggNames.any fun w => za1 s w) /\ O = []) := by
 refine zac { glb := axG, ann := [(2, [8])] } true Tryz.func141 (by kernel_rfl) rfl ?_
 repeat' (
   (conv => whnf)
   first
    | exact zad (by kernel_rfl)
    | refine And.intro ?_ ?_
    | refine zaa ?_ ?_
    | ((refine ⟨fun vs O _ => ∃ k : Nat, k ≤ 6 /\ (∀ j, j < k -> za1 s (aggNames.getD j default) = false) /\ vs = [ai k] /\ O = [], fun vs O => match vs with | [.cv (.int _ k)] => 6 - k.toNat | _ => 0, ⟨0, Nat.zero_le _, fun j h => absurd h (by omega), rfl, rfl⟩, ?_⟩; rintro vs O _ ⟨k, hk, hj, rfl, rfl⟩; obtain rfl | rfl | rfl | rfl | rfl | rfl | rfl : k = 0 \/ k = 1 \/ k = 2 \/ k = 3 \/ k = 4 \/ k = 5 \/ k = 6 := by omega))
    | intro _)
 all_goals first
  | rfl
  | omega
  | (simp only [zz] at *; omega)
  | (rename_i hz; exact ⟨0, rfl, zck (d := ([] : List Nat)) (l := aggNames) (k := 0) (p := fun w => za1 s w) (by decide) hz, rfl⟩)
  | (rename_i hz; exact ⟨1, rfl, zck (d := ([] : List Nat)) (l := aggNames) (k := 1) (p := fun w => za1 s w) (by decide) hz, rfl⟩)
  | (rename_i hz; exact ⟨2, rfl, zck (d := ([] : List Nat)) (l := aggNames) (k := 2) (p := fun w => za1 s w) (by decide) hz, rfl⟩)
  | (rename_i hz; exact ⟨3, rfl, zck (d := ([] : List Nat)) (l := aggNames) (k := 3) (p := fun w => za1 s w) (by decide) hz, rfl⟩)
  | (rename_i hz; exact ⟨4, rfl, zck (d := ([] : List Nat)) (l := aggNames) (k := 4) (p := fun w => za1 s w) (by decide) hz, rfl⟩)
  | (rename_i hz; exact ⟨5, rfl, zck (d := ([] : List Nat)) (l := aggNames) (k := 5) (p := fun w => za1 s w) (by decide) hz, rfl⟩)
  | (rename_i hz; exact ⟨0 + 1, by decide, zaO (p := fun j => za1 s (aggNames.getD j default)) hj hz, rfl, rfl⟩)
  | (rename_i hz; exact ⟨1 + 1, by decide, zaO (p := fun j => za1 s (aggNames.getD j default)) hj hz, rfl, rfl⟩)
  | (rename_i hz; exact ⟨2 + 1, by decide, zaO (p := fun j => za1 s (aggNames.getD j default)) hj hz, rfl, rfl⟩)
  | (rename_i hz; exact ⟨3 + 1, by decide, zaO (p := fun j => za1 s (aggNames.getD j default)) hj hz, rfl, rfl⟩)
  | (rename_i hz; exact ⟨4 + 1, by decide, zaO (p := fun j => za1 s (aggNames.getD j default)) hj hz, rfl, rfl⟩)
  | (rename_i hz; exact ⟨5 + 1, by decide, zaO (p := fun j => za1 s (aggNames.getD j default)) hj hz, rfl, rfl⟩)
  | exact Nat.le_of_ble_eq_true rfl
  | exact ⟨-1, rfl, zcp (l := aggNames) (p := fun w => za1 s w) (k := 6) (by decide) hj, rfl⟩
theorem zt8 (s : List Nat) : DSpec Tryz.prog axX axG 127 [.isl 1 6 (zfy 1 (aggNames.map fun x => SV.cv (.str x))), .cv (.str s)] [] (fun v O => v = ab (aggNames.any fun w => za1 s w) /\ O = []) := by
 refine zac { glb := axG } true Tryz.func127 (by kernel_rfl) rfl ?_
 repeat' (
   (conv => whnf)
   first
    | exact zad (by kernel_rfl)
    | refine And.intro ?_ ?_
    | refine zaa ?_ ?_
    | (refine ⟨_, zuD s, ?_⟩; rintro v O' ⟨k, rfl, hk, rfl⟩)
    | intro _)
 all_goals first
  | rfl
  | exact congrArg (fun b => SV.cv (CV.bool b)) hk
theorem zAS {s : List Nat} (h : za1 s [] = true) : zd9 s = false := by unfold zd9; rw [h]; rfl
theorem zA2 {s : List Nat} (h : decide ((s.length : Int) > 8) = true) : zd9 s = false := by unfold zd9; rw [h, Bool.or_true]; rfl
theorem zzT {s : List Nat} {k : Nat} (hk : k < s.length) (h : zl4 (s.getD k 0 % 256) = false) : zd9 s = false := by
 have : (s.all fun b => zl4 (b % 256)) = false := by
  rw [List.all_eq_false]
  refine ⟨s.getD k 0, ?_, by rw [h]; simp⟩
  rw [List.getD_eq_getElem?_getD, List.getElem?_eq_getElem hk]; exact List.getElem_mem hk
 unfold zd9; rw [this]; simp
theorem zzy {s : List Nat} (i : Nat) (hi : i < 5) (h : za1 s (wordsL.getD i []) = true) : zd9 s = false := by
 have : (wordsL.any fun w => za1 s w) = true := by
  rw [List.any_eq_true]
  refine ⟨wordsL.getD i [], ?_, h⟩
  rw [List.getD_eq_getElem?_getD, List.getElem?_eq_getElem (by exact hi)]; exact List.getElem_mem _
 unfold zd9; rw [this]; simp
theorem zA9 {s : List Nat} {k : Nat} (h0 : za1 s [] = false) (h1 : decide ((s.length : Int) > 8) = false) (hk : decide ((k : Int) < s.length) = false) (hj : ∀ j, j < k -> zl4 (s.getD j 0 % 256) = true) (w0 : za1 s (wordsL.getD 0 []) = false) (w1 : za1 s (wordsL.getD 1 []) = false) (w2 : za1 s (wordsL.getD 2 []) = false) (w3 : za1 s (wordsL.getD 3 []) = false) (w4 : za1 s (wordsL.getD 4 []) = false) : zd9 s = !(aggNames.any fun w => za1 s w) := by
 have a1 : (s.all fun b => zl4 (b % 256)) = true := by
  rw [List.all_eq_true]
  intro x hx
  obtain ⟨i, hi, rfl⟩ := List.mem_iff_getElem.1 hx
  have := hj i (by simp at hk; omega)
  rwa [List.getD_eq_getElem?_getD, List.getElem?_eq_getElem hi] at this
 have a2 : (wordsL.any fun w => za1 s w) = false := by
  show (za1 s (wordsL.getD 0 []) || (za1 s (wordsL.getD 1 []) || (za1 s (wordsL.getD 2 []) || (za1 s (wordsL.getD 3 []) || (za1 s (wordsL.getD 4 []) || false))))) = false
  rw [w0, w1, w2, w3, w4]; rfl
 unfold zd9
 rw [h0, h1, a1, a2]; simp
theorem zwV {b : Nat} (h : decide ((b : Int) < 97) = true) : zl4 b = false := by
 have : b < 97 := by simp at h; omega
 unfold zl4; rw [show Nat.ble 97 b = false by rw [<- Bool.not_eq_true, Nat.ble_eq]; omega]; rfl
theorem zwB {b : Nat} (h : decide ((b : Int) > 122) = true) : zl4 b = false := by
 have : b > 122 := by simp at h; omega
 unfold zl4; rw [show Nat.ble b 122 = false by rw [<- Bool.not_eq_true, Nat.ble_eq]; omega]; simp
theorem zw5 {b : Nat} (h : decide ((b : Int) < 97) = false) (h' : decide ((b : Int) > 122) = false) : zl4 b = true := by
 have : 97 ≤ b := by simp at h; omega
 have : b ≤ 122 := by simp at h'; omega
 unfold zl4; rw [show Nat.ble 97 b = true by rw [Nat.ble_eq]; omega, show Nat.ble b 122 = true by rw [Nat.ble_eq]; omega]; rfl
theorem zA4 {s : List Nat} {k : Nat} (h : ∀ j, j < k -> zl4 (s.getD j 0 % 256) = true) (hk : zl4 (s.getD k 0 % 256) = true) : ∀ j, j < k + 1 -> zl4 (s.getD j 0 % 256) = true := fun j hj => by
 rcases Nat.lt_succ_iff_lt_or_eq.1 hj with h1 | rfl
 ·exact h j h1
 ·exact hk
theorem abF {b : Bool} (h : b = false) : SV.cv (CV.bool false) = ab b := by rw [h]
set_option maxRecDepth 100000 in
theorem zw1 (s : List Nat) : DSpec Tryz.prog axX axG 108 [.cv (.str s)] [] (fun v O => v = ab (zd9 s) /\ O = []) := by
 refine zac { glb := axG, ann := [(4, [15, 13])] } true Tryz.func108 (by kernel_rfl) rfl ?_
 repeat' (
   (conv => whnf)
   first
    | exact zad (by kernel_rfl)
    | refine And.intro ?_ ?_
    | refine zaa ?_ ?_
    | ((refine ⟨fun vs O _ => ∃ k : Nat, k ≤ s.length /\ (∀ j, j < k -> zl4 (s.getD j 0 % 256) = true) /\ vs = [ai k, .lst 0] /\ O = [.list 5 1 s.length (zis s)], fun vs O => match vs with | [.cv (.int _ k), _] => s.length - k.toNat | _ => 0, ⟨0, Nat.zero_le _, fun j h => absurd h (by omega), rfl, rfl⟩, ?_⟩; rintro vs O _ ⟨k, hk, hj, rfl, rfl⟩))
    | (refine ⟨_, zt8 s, ?_⟩; rintro v O' ⟨rfl, rfl⟩)
    | intro _)
 all_goals first
  | rfl
  | omega
  | (simp only [zz] at *; omega)
  | (rename_i hz; exact abF (zAS hz))
  | (rename_i hz; exact abF (zA2 hz))
  | (rename_i hz; exact abF (zzT (k := k) (by (simp only [zz] at *; omega)) (zwV hz)))
  | (rename_i hz; exact abF (zzT (k := k) (by (simp only [zz] at *; omega)) (zwB hz)))
  | (rename_i hz; exact abF (zzy 0 (by decide) hz))
  | (rename_i hz; exact abF (zzy 1 (by decide) hz))
  | (rename_i hz; exact abF (zzy 2 (by decide) hz))
  | (rename_i hz; exact abF (zzy 3 (by decide) hz))
  | (rename_i hz; exact abF (zzy 4 (by decide) hz))
  | (rename_i hz1 hz2; exact ⟨k + 1, by (simp only [zz] at *; omega), zA4 hj (zw5 hz1 hz2), rfl, rfl⟩)
  | (rename_i h0 h1 _ hk w0 w1 w2 w3 w4; exact congrArg (fun b => SV.cv (CV.bool b)) (zA9 h0 h1 hk hj w0 w1 w2 w3 w4).symm)
end Go.Proofs.YtlfhikphdkpfgaaGreatDoor
