import Derived.Test.YtlfhikphdkpfgaaDoorAa
import Derived.Test.YtlfhikphdkpfgaaDoorProg
import Derived.KernelRfl
set_option linter.unusedSimpArgs false
set_option linter.unusedVariables false
set_option maxRecDepth 100000
namespace Go.Proofs.YtlfhikphdkpfgaaDoor
open Go Go.Cx
def axT : Mem -> List CV -> Option CV := fun _ args => match args with
 | [] => some (.bool true)
 | _ :: _ => none
def axA (f : FuncId) : Bool := Nat.beq f 29
abbrev axX : Ext := fun f => match axA f with
 | true => some axT
 | false => none
def aggNames : List (List Nat) := [[99, 111, 117, 110, 116], [115, 117, 109], [109, 105, 110], [109, 97, 120], [102, 105, 114, 115, 116], [108, 97, 115, 116]]
def axG : List (Nat × List CV) := [(0, [.str [99, 111, 117, 110, 116], .str [115, 117, 109], .str [109, 105, 110], .str [109, 97, 120], .str [102, 105, 114, 115, 116], .str [108, 97, 115, 116]])]
def zlr (b : Nat) : Bool := Nat.ble 97 b && Nat.ble b 122
def wordsL : List (List Nat) := [[119, 105, 116, 104, 105, 110], [104, 97, 118, 105, 110, 103], [97, 110, 100], [101, 109, 105, 116], [110, 111, 116]]
noncomputable def zd5 (s : List Nat) : Bool := !(zaV s [] || decide ((s.length : Int) > 8)) && ((s.all fun b => zlr (b % 256)) && (!(wordsL.any fun w => zaV s w) && !(aggNames.any fun w => zaV s w)))
def opB (n : Int) : Bool := inB n 1 6
@[reducible] noncomputable def isE (s : List Nat) : Bool := zaV s (List.map UInt8.toNat (ByteArray.mk #[]).data.toList)
noncomputable def zl7 (a : AtomM) : Bool := (decide (a.kind ≥ 0) && decide (a.kind ≤ 25)) && ((a.bnd || a.bound == 0) && ((isE (nm a.name) || zd5 (nm a.name)) && !(a.cs.any fun c => !opB c.op)))
noncomputable def zrw (a : AtomM) : Bool := a.kind == 0 && (!a.bnd && (a.bound == 0 && ((a.cs.length : Int) == 0 && isE (nm a.name))))
noncomputable def zai : Nat -> NodeM -> Bool
 | 0, _ => false
 | d + 1, n => bif n.kind == 1 then zl7 n.atom && (decide (n.mn ≥ 0) && (decide (n.mn ≤ 99) && (decide (n.mx ≥ 0) && (decide (n.mx ≤ 99) && (n.kids.length : Int) == 0))))
  else bif n.kind == 2 then zl7 n.atom && (n.mn == 0 && (n.mx == 0 && (n.kids.length : Int) == 0))
  else bif (n.kind == 3 || n.kind == 4) then decide ((n.kids.length : Int) ≥ 2) && (n.mn == 0 && (n.mx == 0 && (zrw n.atom && !(n.kids.any fun m => !zai d m))))
  else false
theorem zdZ {A : Type} {d : A} {l : List A} {p : A -> Bool} {k : Nat} (hk : k < l.length) (h : p (l.getD k d) = true) : decide ((k : Int) ≥ 0) = l.any p := by
 have : l.any p = true := by
  rw [List.any_eq_true]
  refine ⟨l.getD k d, ?_, h⟩
  rw [List.getD_eq_getElem?_getD, List.getElem?_eq_getElem hk]; exact List.getElem_mem hk
 rw [this]; simp
theorem zgh {A : Type} {d : A} {l : List A} {p : A -> Bool} {k : Nat} (hk : l.length ≤ k) (h : ∀ j, j < k -> p (l.getD j d) = false) : decide ((-1 : Int) ≥ 0) = l.any p := by
 have : l.any p = false := by
  rw [Bool.eq_false_iff, Ne, List.any_eq_true]
  rintro ⟨x, hx, hp⟩
  obtain ⟨i, hi, rfl⟩ := List.mem_iff_getElem.1 hx
  have := h i (by omega)
  rw [List.getD_eq_getElem?_getD, List.getElem?_eq_getElem hi] at this
  simp only [Option.getD_some] at this
  rw [this] at hp; cases hp
 rw [this]; rfl
theorem zdg {p : Nat -> Bool} {k : Nat} (h : ∀ j, j < k -> p j = false) (hk : p k = false) : ∀ j, j < k + 1 -> p j = false := fun j hj => by
 rcases Nat.lt_succ_iff_lt_or_eq.1 hj with h1 | rfl
 ·exact h j h1
 ·exact hk
theorem zv9 {A : Type} [Inhabited A] {l : List A} {k : Nat} (hk : k < l.length) : l.getD k default ∈ l := by
 rw [List.getD_eq_getElem?_getD, List.getElem?_eq_getElem hk]; exact List.getElem_mem hk
theorem zy9 {f : FuncId} (h : axX f = some axT) : DSpec Tryd.prog axX axG f [] [] (fun v O => v = SV.cv (.bool true) /\ O = []) :=
 zth (g := axT) h (y := .bool true) (fun _ _ => .cv rfl) (fun _ _ _ _ h => by cases h; rfl) rfl
theorem zy2 (n : Int) : DSpec Tryd.prog axX axG 89 [ai n] [] (fun v O => v = ab (opB n) /\ O = []) := by
 refine zac { glb := axG } true Tryd.func89 (by kernel_rfl) rfl ?_
 repeat' (
   (conv => whnf)
   first
    | exact zad (by kernel_rfl)
    | refine And.intro ?_ ?_
    | refine zaa ?_ ?_
    | intro _)
 all_goals first
  | rfl
  | (unfold opB; ((try (refine congrArg (fun b => SV.cv (CV.bool b)) ?_)); (try rw [Bool.eq_iff_iff]); simp only [zz] at *; first | done | omega))
set_option maxRecDepth 100000 in
theorem zwz (c : CondM) : DSpec Tryd.prog axX axG 182 [.agg (zq6 c)] [] (fun v O => v = ab (!opB c.op) /\ O = []) := by
 refine zac { glb := axG } true Tryd.func182 (by kernel_rfl) rfl ?_
 repeat' (
   (conv => whnf)
   first
    | exact zad (by kernel_rfl)
    | refine And.intro ?_ ?_
    | refine zaa ?_ ?_
    | (refine ⟨_, zy2 _, ?_⟩; rintro v O' ⟨rfl, rfl⟩)
    | intro _)
 all_goals rfl
set_option maxRecDepth 100000 in
theorem zsX (l : List CondM) (hl : l.length ≤ 9223372036854775807) : DSpec Tryd.prog axX axG 204 [.isl 2 l.length (zdI l), .fn 182 [] []] [] (fun v O => ∃ k : Int, v = ai k /\ decide (k ≥ 0) = (l.any fun c => !opB c.op) /\ O = []) := by
 refine zac { glb := axG, ann := [(2, [8])] } true Tryd.func204 (by kernel_rfl) rfl ?_
 repeat' (
   (conv => whnf)
   first
    | exact zad (by kernel_rfl)
    | refine And.intro ?_ ?_
    | refine zaa ?_ ?_
    | ((refine ⟨fun vs O _ => ∃ k : Nat, k ≤ l.length /\ (∀ j, j < k -> (!opB (l.getD j default).op) = false) /\ vs = [ai k] /\ O = [], fun vs O => match vs with | [.cv (.int _ k)] => l.length - k.toNat | _ => 0, ⟨0, Nat.zero_le _, fun j h => absurd h (by omega), rfl, rfl⟩, ?_⟩; rintro vs O _ ⟨k, hk, hj, rfl, rfl⟩))
    | (refine ⟨_, zwz (l.getD k default), ?_⟩; rintro v O' ⟨rfl, rfl⟩)
    | intro _)
 all_goals first
  | rfl
  | omega
  | (simp only [zz] at *; omega)
  | (rename_i hz; exact ⟨k, rfl, zdZ (p := fun c : CondM => !opB c.op) (by (simp only [zz] at *; omega)) hz, rfl⟩)
  | (rename_i hz; exact ⟨k + 1, by (simp only [zz] at *; omega), zdg (p := fun j => !opB (l.getD j default).op) hj hz, rfl, rfl⟩)
  | exact ⟨-1, rfl, zgh (p := fun c : CondM => !opB c.op) (by (simp only [zz] at *; omega)) hj, rfl⟩
set_option maxRecDepth 100000 in
theorem ztk (l : List CondM) (hl : l.length ≤ 9223372036854775807) : DSpec Tryd.prog axX axG 181 [.isl 2 l.length (zdI l), .fn 182 [] []] [] (fun v O => v = ab (l.any fun c => !opB c.op) /\ O = []) := by
 refine zac { glb := axG } true Tryd.func181 (by kernel_rfl) rfl ?_
 repeat' (
   (conv => whnf)
   first
    | exact zad (by kernel_rfl)
    | refine And.intro ?_ ?_
    | refine zaa ?_ ?_
    | (refine ⟨_, zsX l hl, ?_⟩; rintro v O' ⟨k, rfl, hk, rfl⟩)
    | intro _)
 all_goals first
  | rfl
  | exact congrArg (fun b => SV.cv (CV.bool b)) hk
set_option maxRecDepth 100000 in
theorem zsE (s : List Nat) : DSpec Tryd.prog axX axG 150 [.isl 1 6 (zgX 1 (aggNames.map fun x => SV.cv (.str x))), .cv (.str s)] [] (fun v O => ∃ k : Int, v = ai k /\ decide (k ≥ 0) = (aggNames.any fun w => zaV s w) /\ O = []) := by
 refine zac { glb := axG, ann := [(2, [8])] } true Tryd.func150 (by kernel_rfl) rfl ?_
 repeat' (
   (conv => whnf)
   first
    | exact zad (by kernel_rfl)
    | refine And.intro ?_ ?_
    | refine zaa ?_ ?_
    | ((refine ⟨fun vs O _ => ∃ k : Nat, k ≤ 6 /\ (∀ j, j < k -> zaV s (aggNames.getD j default) = false) /\ vs = [ai k] /\ O = [], fun vs O => match vs with | [.cv (.int _ k)] => 6 - k.toNat | _ => 0, ⟨0, Nat.zero_le _, fun j h => absurd h (by omega), rfl, rfl⟩, ?_⟩; rintro vs O _ ⟨k, hk, hj, rfl, rfl⟩; obtain rfl | rfl | rfl | rfl | rfl | rfl | rfl : k = 0 \/ k = 1 \/ k = 2 \/ k = 3 \/ k = 4 \/ k = 5 \/ k = 6 := by omega))
    | intro _)
 all_goals first
  | rfl
  | omega
  | (simp only [zz] at *; omega)
  | (rename_i hz; exact ⟨0, rfl, zdZ (d := ([] : List Nat)) (l := aggNames) (k := 0) (p := fun w => zaV s w) (by decide) hz, rfl⟩)
  | (rename_i hz; exact ⟨1, rfl, zdZ (d := ([] : List Nat)) (l := aggNames) (k := 1) (p := fun w => zaV s w) (by decide) hz, rfl⟩)
  | (rename_i hz; exact ⟨2, rfl, zdZ (d := ([] : List Nat)) (l := aggNames) (k := 2) (p := fun w => zaV s w) (by decide) hz, rfl⟩)
  | (rename_i hz; exact ⟨3, rfl, zdZ (d := ([] : List Nat)) (l := aggNames) (k := 3) (p := fun w => zaV s w) (by decide) hz, rfl⟩)
  | (rename_i hz; exact ⟨4, rfl, zdZ (d := ([] : List Nat)) (l := aggNames) (k := 4) (p := fun w => zaV s w) (by decide) hz, rfl⟩)
  | (rename_i hz; exact ⟨5, rfl, zdZ (d := ([] : List Nat)) (l := aggNames) (k := 5) (p := fun w => zaV s w) (by decide) hz, rfl⟩)
  | (rename_i hz; exact ⟨0 + 1, by decide, zdg (p := fun j => zaV s (aggNames.getD j default)) hj hz, rfl, rfl⟩)
  | (rename_i hz; exact ⟨1 + 1, by decide, zdg (p := fun j => zaV s (aggNames.getD j default)) hj hz, rfl, rfl⟩)
  | (rename_i hz; exact ⟨2 + 1, by decide, zdg (p := fun j => zaV s (aggNames.getD j default)) hj hz, rfl, rfl⟩)
  | (rename_i hz; exact ⟨3 + 1, by decide, zdg (p := fun j => zaV s (aggNames.getD j default)) hj hz, rfl, rfl⟩)
  | (rename_i hz; exact ⟨4 + 1, by decide, zdg (p := fun j => zaV s (aggNames.getD j default)) hj hz, rfl, rfl⟩)
  | (rename_i hz; exact ⟨5 + 1, by decide, zdg (p := fun j => zaV s (aggNames.getD j default)) hj hz, rfl, rfl⟩)
  | exact Nat.le_of_ble_eq_true rfl
  | exact ⟨-1, rfl, zgh (l := aggNames) (p := fun w => zaV s w) (k := 6) (by decide) hj, rfl⟩
theorem zsb (s : List Nat) : DSpec Tryd.prog axX axG 96 [.isl 1 6 (zgX 1 (aggNames.map fun x => SV.cv (.str x))), .cv (.str s)] [] (fun v O => v = ab (aggNames.any fun w => zaV s w) /\ O = []) := by
 refine zac { glb := axG } true Tryd.func96 (by kernel_rfl) rfl ?_
 repeat' (
   (conv => whnf)
   first
    | exact zad (by kernel_rfl)
    | refine And.intro ?_ ?_
    | refine zaa ?_ ?_
    | (refine ⟨_, zsE s, ?_⟩; rintro v O' ⟨k, rfl, hk, rfl⟩)
    | intro _)
 all_goals first
  | rfl
  | exact congrArg (fun b => SV.cv (CV.bool b)) hk
theorem zyX {s : List Nat} (h : zaV s [] = true) : zd5 s = false := by unfold zd5; rw [h]; rfl
theorem zyS {s : List Nat} (h : decide ((s.length : Int) > 8) = true) : zd5 s = false := by unfold zd5; rw [h, Bool.or_true]; rfl
theorem zx2 {s : List Nat} {k : Nat} (hk : k < s.length) (h : zlr (s.getD k 0 % 256) = false) : zd5 s = false := by
 have : (s.all fun b => zlr (b % 256)) = false := by
  rw [List.all_eq_false]
  refine ⟨s.getD k 0, ?_, by rw [h]; simp⟩
  rw [List.getD_eq_getElem?_getD, List.getElem?_eq_getElem hk]; exact List.getElem_mem hk
 unfold zd5; rw [this]; simp
theorem zxy {s : List Nat} (i : Nat) (hi : i < 5) (h : zaV s (wordsL.getD i []) = true) : zd5 s = false := by
 have : (wordsL.any fun w => zaV s w) = true := by
  rw [List.any_eq_true]
  refine ⟨wordsL.getD i [], ?_, h⟩
  rw [List.getD_eq_getElem?_getD, List.getElem?_eq_getElem (by exact hi)]; exact List.getElem_mem _
 unfold zd5; rw [this]; simp
theorem zzb {s : List Nat} {k : Nat} (h0 : zaV s [] = false) (h1 : decide ((s.length : Int) > 8) = false) (hk : decide ((k : Int) < s.length) = false) (hj : ∀ j, j < k -> zlr (s.getD j 0 % 256) = true) (w0 : zaV s (wordsL.getD 0 []) = false) (w1 : zaV s (wordsL.getD 1 []) = false) (w2 : zaV s (wordsL.getD 2 []) = false) (w3 : zaV s (wordsL.getD 3 []) = false) (w4 : zaV s (wordsL.getD 4 []) = false) : zd5 s = !(aggNames.any fun w => zaV s w) := by
 have a1 : (s.all fun b => zlr (b % 256)) = true := by
  rw [List.all_eq_true]
  intro x hx
  obtain ⟨i, hi, rfl⟩ := List.mem_iff_getElem.1 hx
  have := hj i (by simp at hk; omega)
  rwa [List.getD_eq_getElem?_getD, List.getElem?_eq_getElem hi] at this
 have a2 : (wordsL.any fun w => zaV s w) = false := by
  show (zaV s (wordsL.getD 0 []) || (zaV s (wordsL.getD 1 []) || (zaV s (wordsL.getD 2 []) || (zaV s (wordsL.getD 3 []) || (zaV s (wordsL.getD 4 []) || false))))) = false
  rw [w0, w1, w2, w3, w4]; rfl
 unfold zd5
 rw [h0, h1, a1, a2]; simp
theorem zvb {b : Nat} (h : decide ((b : Int) < 97) = true) : zlr b = false := by
 have : b < 97 := by simp at h; omega
 unfold zlr; rw [show Nat.ble 97 b = false by rw [<- Bool.not_eq_true, Nat.ble_eq]; omega]; rfl
theorem zu1 {b : Nat} (h : decide ((b : Int) > 122) = true) : zlr b = false := by
 have : b > 122 := by simp at h; omega
 unfold zlr; rw [show Nat.ble b 122 = false by rw [<- Bool.not_eq_true, Nat.ble_eq]; omega]; simp
theorem zu3 {b : Nat} (h : decide ((b : Int) < 97) = false) (h' : decide ((b : Int) > 122) = false) : zlr b = true := by
 have : 97 ≤ b := by simp at h; omega
 have : b ≤ 122 := by simp at h'; omega
 unfold zlr; rw [show Nat.ble 97 b = true by rw [Nat.ble_eq]; omega, show Nat.ble b 122 = true by rw [Nat.ble_eq]; omega]; rfl
theorem zyL {s : List Nat} {k : Nat} (h : ∀ j, j < k -> zlr (s.getD j 0 % 256) = true) (hk : zlr (s.getD k 0 % 256) = true) : ∀ j, j < k + 1 -> zlr (s.getD j 0 % 256) = true := fun j hj => by
 rcases Nat.lt_succ_iff_lt_or_eq.1 hj with h1 | rfl
 ·exact h j h1
 ·exact hk
theorem abF {b : Bool} (h : b = false) : SV.cv (CV.bool false) = ab b := by rw [h]
set_option maxRecDepth 100000 in
theorem zwZ (s : List Nat) : DSpec Tryd.prog axX axG 38 [.cv (.str s)] [] (fun v O => v = ab (zd5 s) /\ O = []) := by
 refine zac { glb := axG, ann := [(4, [15, 13])] } true Tryd.func38 (by kernel_rfl) rfl ?_
 repeat' (
   (conv => whnf)
   first
    | exact zad (by kernel_rfl)
    | refine And.intro ?_ ?_
    | refine zaa ?_ ?_
    | ((refine ⟨fun vs O _ => ∃ k : Nat, k ≤ s.length /\ (∀ j, j < k -> zlr (s.getD j 0 % 256) = true) /\ vs = [ai k, .lst 0] /\ O = [.list 5 1 s.length (zhZ s)], fun vs O => match vs with | [.cv (.int _ k), _] => s.length - k.toNat | _ => 0, ⟨0, Nat.zero_le _, fun j h => absurd h (by omega), rfl, rfl⟩, ?_⟩; rintro vs O _ ⟨k, hk, hj, rfl, rfl⟩))
    | (refine ⟨_, zsb s, ?_⟩; rintro v O' ⟨rfl, rfl⟩)
    | intro _)
 all_goals first
  | rfl
  | omega
  | (simp only [zz] at *; omega)
  | (rename_i hz; exact abF (zyX hz))
  | (rename_i hz; exact abF (zyS hz))
  | (rename_i hz; exact abF (zx2 (k := k) (by (simp only [zz] at *; omega)) (zvb hz)))
  | (rename_i hz; exact abF (zx2 (k := k) (by (simp only [zz] at *; omega)) (zu1 hz)))
  | (rename_i hz; exact abF (zxy 0 (by decide) hz))
  | (rename_i hz; exact abF (zxy 1 (by decide) hz))
  | (rename_i hz; exact abF (zxy 2 (by decide) hz))
  | (rename_i hz; exact abF (zxy 3 (by decide) hz))
  | (rename_i hz; exact abF (zxy 4 (by decide) hz))
  | (rename_i hz1 hz2; exact ⟨k + 1, by (simp only [zz] at *; omega), zyL hj (zu3 hz1 hz2), rfl, rfl⟩)
  | (rename_i h0 h1 _ hk w0 w1 w2 w3 w4; exact congrArg (fun b => SV.cv (CV.bool b)) (zzb h0 h1 hk hj w0 w1 w2 w3 w4).symm)
end Go.Proofs.YtlfhikphdkpfgaaDoor
