import Derived.Test.YtlfhikphdkpfgaaDoorAh
set_option linter.unusedSimpArgs false
set_option linter.unusedVariables false
set_option maxRecDepth 100000
namespace Go.Proofs.YtlfhikphdkpfgaaDoor
open Go Go.Cx
theorem zrc {x y : List Nat} (h : zaV y x = true) (z : List Nat) : zaV y z = zaV x z := by
 rw [zdl] at h ⊢
 rw [zdl, eq_of_beq h]
theorem zuH {l : List (List Nat)} {x y : List Nat} (h : zaV y x = true) : inU l y = inU l x := by
 unfold inU
 congr 1
 funext z
 exact zrc h z
abbrev znQ := List (AtomM × Bool)
def nmP (p : AtomM × Bool) : List Nat := nm p.1.name
noncomputable def zd0 (l : znQ) : List (List Nat) := (l.filter fun p => !isE (nmP p)).map nmP
noncomputable def zcR (l : znQ) : List (List Nat) := (l.filter fun p => !isE (nmP p) && !p.2).map nmP
section
variable {l : znQ} {p : AtomM × Bool}
theorem zvC (h : isE (nmP p) = true) : zd0 (l ++ [p]) = zd0 l := by
 unfold zd0; rw [List.filter_append]; simp [h]
theorem zwv (h : isE (nmP p) = false) : zd0 (l ++ [p]) = zd0 l ++ [nmP p] := by
 unfold zd0; rw [List.filter_append]; simp [h]
theorem zvA (h : isE (nmP p) = true) : zcR (l ++ [p]) = zcR l := by
 unfold zcR; rw [List.filter_append]; simp [h]
theorem zvE (h : isE (nmP p) = false) : zcR (l ++ [p]) = zcR l ++ (bif p.2 then [] else [nmP p]) := by
 unfold zcR; rw [List.filter_append]; cases hp : p.2 <;> simp [h, hp]
theorem zpH (x : List Nat) (h : inU (zcR l) x = true) : inU (zd0 l) x = true := by
 unfold inU at h ⊢
 rw [List.any_eq_true] at h ⊢
 obtain ⟨y, hy, hb⟩ := h
 refine ⟨y, ?_, hb⟩
 unfold zcR at hy
 unfold zd0
 obtain ⟨r, hr, rfl⟩ := List.mem_map.1 hy
 rw [List.mem_filter] at hr
 simp only [Bool.and_eq_true] at hr
 exact List.mem_map.2 ⟨r, List.mem_filter.2 ⟨hr.1, hr.2.1⟩, rfl⟩
end
def KnownS (l : znQ) (f : CV -> Option SV) : Prop := ∀ x, f (.str x) = if inU (zd0 l) x then some (ab (inU (zcR l) x)) else none
theorem KnownS.at {l : znQ} {f : CV -> Option SV} (h : KnownS l f) (x : List Nat) : mapB f (.str x) = inU (zcR l) x := by
 unfold Go.Cx.mapB
 rw [h x]
 cases hq : inU (zd0 l) x with
 | true => cases inU (zcR l) x <;> rfl
 | false =>
  cases hk : inU (zcR l) x with
  | true => rw [zpH x hk] at hq; cases hq
  | false => rfl
theorem KnownS.add {l : znQ} {f : CV -> Option SV} {p : AtomM × Bool} (h : KnownS l f) (hp : isE (nmP p) = false) (hx : inU (zd0 l) (nmP p) = false) : KnownS (l ++ [p]) (zqS (.str (nmP p)) (ab (!p.2)) f) := fun y => by
 rw [zwv hp, zvE hp, zhg]
 unfold zqS
 show (match zaV y (nmP p) with | true => _ | false => _) = _
 cases hb : zaV y (nmP p) with
 | true =>
  have h1 : inU (zcR l) y = false := by
   cases hk : inU (zcR l) y with
   | false => rfl
   | true => rw [zuH hb] at hk; rw [zpH _ hk] at hx; cases hx
  rw [Bool.or_true, if_pos rfl]
  cases hq : p.2 with
  | true => simp [h1]
  | false => simp [zhg, hb]
 | false =>
  rw [Bool.or_false]
  show f (.str y) = _
  rw [h y]
  cases hq : p.2 with
  | true => simp
  | false => simp [zhg, hb]
theorem KnownS.skip {l : znQ} {f : CV -> Option SV} {p : AtomM × Bool} (h : KnownS l f) (hp : isE (nmP p) = true) : KnownS (l ++ [p]) f := fun y => by rw [zvC hp, zvA hp]; exact h y
end Go.Proofs.YtlfhikphdkpfgaaDoor
