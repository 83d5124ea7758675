import Derived.Test.YtlfhikphdkpfgaaGreatDoorAb
import Derived.Test.YtlfhikphdkpfgaaGreatDoorGh
set_option linter.unusedSimpArgs false
set_option linter.unusedVariables false
set_option maxRecDepth 100000
namespace Go.Proofs.YtlfhikphdkpfgaaGreatDoor
open Go Go.Cx
section
variable {H : Type} {P : Program} {n : Nat} {t : TypeId} {d : DataW H}
theorem zmC (ht : P.underlying t = some .string) (h : wfD P n t d) : ∃ s : List UInt8, d = .lit (.string s) /\ s.length ≤ maxLen /\ svD P n t d = [zrz s] := by
 cases n with
 | zero => exact h.elim
 | succ n =>
  cases d with
  | lit l =>
   cases l with
   | string s =>
    simp only [wfD, ht] at h
    exact ⟨s, rfl, h, by simp only [svD, ht]; rfl⟩
   | _ => simp only [wfD, ht] at h
  | _ => simp only [wfD, ht] at h
theorem zkv {A B : Type} [Inhabited B] {f : A -> List SV} {g : B -> List SV} : ∀ {l : List A}, (∀ y ∈ l, ∃ b, SameL (f y) (g b)) -> ∃ r : List B, r.length = l.length /\ ∀ (i : Nat) y, l[i]? = some y -> SameL (f y) (g (r.getD i default))
 | [], _ => ⟨[], rfl, fun i y h => by simp at h⟩
 | y :: l, h => by
  obtain ⟨b, hb⟩ := h y List.mem_cons_self
  obtain ⟨r, h1, h2⟩ := zkv fun z hz => h z (List.mem_cons_of_mem _ hz)
  refine ⟨b :: r, by simp [h1], fun i z hz => ?_⟩
  cases i with
  | zero => simp at hz; subst hz; simpa using hb
  | succ i => simpa using h2 i z (by simpa using hz)
theorem zk4 {e : TypeId} {B : Type} [Inhabited B] {g : B -> List SV} (ht : P.underlying t = some (.slice e)) (h : wfD P n t d) (hg : ∀ m (y : DataW H), m < n -> wfD P m e y -> ∃ b, SameL (svD P m e y) (g b)) : ∃ (r : List B) (v : SV), svD P n t d = [v] /\ ∀ el' : Nat -> List SV, (∀ i, i < r.length -> el' i = g (r.getD i default)) -> Same v (.isl (P.cellsOf e) r.length el') := by
 obtain ⟨m, elems, hm, h1, h2, el, h3, h4⟩ := zpL ht h
 obtain ⟨r, h5, h6⟩ := zkv (f := fun y => svD P m e y) (g := g) (l := elems) fun y hy => hg m y (by omega) (h2 y hy)
 refine ⟨r, _, h3, fun el' hel => ?_⟩
 rw [h5]
 exact .islD fun i hi => by
  rw [h4 i _ (List.getElem?_eq_getElem hi), hel i (by omega)]
  exact h6 i _ (List.getElem?_eq_getElem hi)
end
variable {H : Type}
theorem zsK {A : Type} {l : List A} (h : l.length = 2) : ∃ a b, l = [a, b] := by
 match l, h with
 | [a, b], _ => exact ⟨a, b, rfl⟩
theorem zx5 {A : Type} {l : List A} (h : l.length = 4) : ∃ a b c d, l = [a, b, c, d] := by
 match l, h with
 | [a, b, c, d], _ => exact ⟨a, b, c, d, rfl⟩
theorem ztP {A : Type} {l : List A} (h : l.length = 5) : ∃ a b c d e, l = [a, b, c, d, e] := by
 match l, h with
 | [a, b, c, d, e], _ => exact ⟨a, b, c, d, e, rfl⟩
theorem zm5 (n : Nat) (d : DataW H) (h : wfD Tryz.prog n 59 d) : ∃ c : CondM, svD Tryz.prog n 59 d = ztd c := by
 obtain ⟨m, parts, _, _, hl, hp, hs⟩ := zdA Tryz.underlying59 h
 obtain ⟨a, b, rfl⟩ := zsK hl
 obtain ⟨x0, _, _, s0⟩ := zfK Tryz.underlying3 (hp 0 _ _ rfl rfl)
 obtain ⟨x1, _, _, s1⟩ := zfK Tryz.underlying2 (hp 1 _ _ rfl rfl)
 refine ⟨⟨x0, x1⟩, ?_⟩
 rw [hs]
 show svD _ _ _ _ ++ (svD _ _ _ _ ++ []) = _
 rw [s0, s1]; rfl
theorem zqq (n : Nat) (d : DataW H) (h : wfD Tryz.prog n 57 d) : ∃ c : AggM, svD Tryz.prog n 57 d = zxC c := by
 obtain ⟨m, parts, _, _, hl, hp, hs⟩ := zdA Tryz.underlying57 h
 obtain ⟨a, b, rfl⟩ := zsK hl
 obtain ⟨x0, _, _, s0⟩ := zfK Tryz.underlying3 (hp 0 _ _ rfl rfl)
 obtain ⟨x1, _, _, s1⟩ := zmC Tryz.underlying9 (hp 1 _ _ rfl rfl)
 refine ⟨⟨x0, x1⟩, ?_⟩
 rw [hs]
 show svD _ _ _ _ ++ (svD _ _ _ _ ++ []) = _
 rw [s0, s1]; rfl
theorem zs9 (n : Nat) (d : DataW H) (h : wfD Tryz.prog n 61 d) : ∃ c : HaveM, svD Tryz.prog n 61 d = zv7 c := by
 obtain ⟨m, parts, _, _, hl, hp, hs⟩ := zdA Tryz.underlying61 h
 obtain ⟨a, b, rfl⟩ := zsK hl
 obtain ⟨x0, s0⟩ := zqq _ _ (hp 0 _ _ rfl rfl)
 obtain ⟨x1, s1⟩ := zm5 _ _ (hp 1 _ _ rfl rfl)
 refine ⟨⟨x0, x1⟩, ?_⟩
 rw [hs]
 show svD _ _ _ _ ++ (svD _ _ _ _ ++ []) = _
 rw [s0, s1]; rfl
theorem zsU (n : Nat) (d : DataW H) (h : wfD Tryz.prog n 25 d) : ∃ c : AtomM, SameL (svD Tryz.prog n 25 d) (zcU c) := by
 obtain ⟨m, parts, _, _, hl, hp, hs⟩ := zdA Tryz.underlying25 h
 obtain ⟨a, b, c, d, e, rfl⟩ := ztP hl
 obtain ⟨x0, _, _, s0⟩ := zfK Tryz.underlying3 (hp 0 _ _ rfl rfl)
 obtain ⟨x1, _, s1⟩ := zxp Tryz.underlying4 (hp 1 _ _ rfl rfl)
 obtain ⟨x2, _, _, s2⟩ := zfK Tryz.underlying22 (hp 2 _ _ rfl rfl)
 obtain ⟨x3, _, v3, s3, e3⟩ := zdj (g := ztd) Tryz.underlying23 (hp 3 _ _ rfl rfl) zm5
 obtain ⟨x4, _, _, s4⟩ := zmC Tryz.underlying9 (hp 4 _ _ rfl rfl)
 refine ⟨⟨x0, x1, x2, x3, x4⟩, ?_⟩
 rw [hs]
 show SameL (svD _ _ _ _ ++ (svD _ _ _ _ ++ (svD _ _ _ _ ++ (svD _ _ _ _ ++ (svD _ _ _ _ ++ []))))) _
 rw [s0, s1, s2, s3, s4]
 rw [show Tryz.prog.cellsOf 59 = 2 by kernel_rfl] at e3
 exact .cons (.refl _) (.cons (.refl _) (.cons (.refl _) (.cons e3 (.cons (.refl _) .nil))))
theorem zy7 {l : List NodeM} {i : Nat} (hi : i < l.length) : zbY l i = zah (l.getD i default) := by
 unfold zbY
 rw [zgm, List.getD_eq_getElem?_getD, List.getElem?_map, List.getD_eq_getElem?_getD, List.getElem?_eq_getElem hi]; rfl
theorem zso (a b c : Int) (x : AtomM) (l : List NodeM) : zah (.mk a b c x l) = [ai a] ++ ([ai b] ++ ([ai c] ++ (zcU x ++ ([.isl 9 l.length (zbY l)] ++ [])))) := rfl
theorem ztf : ∀ (k n : Nat) (hk : n ≤ k) (d : DataW H) (h : wfD Tryz.prog n 28 d), ∃ c : NodeM, SameL (svD Tryz.prog n 28 d) (zah c) := by
 intro k
 induction k with
 | zero =>
  intro n hk d h
  obtain rfl : n = 0 := by omega
  exact h.elim
 | succ k ih =>
  intro n hk d h
  obtain ⟨m, parts, hm, _, hl, hp, hs⟩ := zdA Tryz.underlying28 h
  obtain ⟨a, b, c, d, e, rfl⟩ := ztP hl
  obtain ⟨x0, _, _, s0⟩ := zfK Tryz.underlying3 (hp 0 _ _ rfl rfl)
  obtain ⟨x1, _, _, s1⟩ := zfK Tryz.underlying3 (hp 1 _ _ rfl rfl)
  obtain ⟨x2, _, _, s2⟩ := zfK Tryz.underlying3 (hp 2 _ _ rfl rfl)
  obtain ⟨x3, s3⟩ := zsU _ _ (hp 3 _ _ rfl rfl)
  obtain ⟨x4, v4, s4, e4⟩ := zk4 (g := zah) Tryz.underlying26 (hp 4 _ _ rfl rfl) fun j y hj hy => ih j (by omega) y hy
  refine ⟨.mk x0 x1 x2 x3 x4, ?_⟩
  rw [hs, zso]
  show SameL (svD _ _ _ _ ++ (svD _ _ _ _ ++ (svD _ _ _ _ ++ (svD _ _ _ _ ++ (svD _ _ _ _ ++ []))))) _
  rw [s0, s1, s2, s4]
  have e4 := e4 (zbY x4) fun i hi => zy7 hi
  rw [show Tryz.prog.cellsOf 28 = 9 by kernel_rfl] at e4
  exact .app SameL.rfl (.app SameL.rfl (.app SameL.rfl (.app s3 (.app (.cons e4 .nil) .nil))))
theorem zqH (q : QueryM) : zaj q = zah q.p ++ ([au q.within] ++ ([.isl 4 q.hv.length (zpH q.hv)] ++ ([.isl 2 q.em.length (zuV q.em)] ++ []))) := rfl
theorem zrb (n : Nat) (d : DataW H) (h : wfD Tryz.prog n 32 d) : ∃ c : QueryM, SameL (svD Tryz.prog n 32 d) (zaj c) := by
 obtain ⟨m, parts, hm, _, hl, hp, hs⟩ := zdA Tryz.underlying32 h
 obtain ⟨a, b, c, d, rfl⟩ := zx5 hl
 obtain ⟨x0, s0⟩ := ztf _ _ (Nat.le_refl _) _ (hp 0 _ _ rfl rfl)
 obtain ⟨x1, _, _, s1⟩ := zfK Tryz.underlying22 (hp 1 _ _ rfl rfl)
 obtain ⟨x2, _, v2, s2, e2⟩ := zdj (g := zv7) Tryz.underlying29 (hp 2 _ _ rfl rfl) zs9
 obtain ⟨x3, _, v3, s3, e3⟩ := zdj (g := zxC) Tryz.underlying30 (hp 3 _ _ rfl rfl) zqq
 refine ⟨⟨x0, x1, x2, x3⟩, ?_⟩
 rw [hs, zqH]
 show SameL (svD _ _ _ _ ++ (svD _ _ _ _ ++ (svD _ _ _ _ ++ (svD _ _ _ _ ++ [])))) _
 rw [s1, s2, s3]
 rw [show Tryz.prog.cellsOf 61 = 4 by kernel_rfl] at e2
 rw [show Tryz.prog.cellsOf 57 = 2 by kernel_rfl] at e3
 exact .app s0 (.app SameL.rfl (.app (.cons e2 .nil) (.app (.cons e3 .nil) .nil)))
end Go.Proofs.YtlfhikphdkpfgaaGreatDoor
