import Derived.Test.YtlfhikphdkpfgaaDoorAb
import Derived.Test.YtlfhikphdkpfgaaDoorGh
set_option linter.unusedSimpArgs false
set_option linter.unusedVariables false
set_option maxRecDepth 100000
namespace Go.Proofs.YtlfhikphdkpfgaaDoor
open Go Go.Cx
section
variable {H : Type} {P : Program} {n : Nat} {t : TypeId} {d : DataW H}
theorem zlM (ht : P.underlying t = some .string) (h : wfD P n t d) : ∃ s : List UInt8, d = .lit (.string s) /\ s.length ≤ maxLen /\ svD P n t d = [zvh s] := by
 cases n with
 | zero => exact h.elim
 | succ n =>
  cases d with
  | lit l =>
   cases l with
   | string s =>
    simp only [wfD, ht] at h
    exact ⟨s, rfl, h, by simp only [svD, ht]; rfl⟩
   | _ => simp only [wfD, ht] at h
  | _ => simp only [wfD, ht] at h
theorem zj0 {A B : Type} [Inhabited B] {f : A -> List SV} {g : B -> List SV} : ∀ {l : List A}, (∀ y ∈ l, ∃ b, SameL (f y) (g b)) -> ∃ r : List B, r.length = l.length /\ ∀ (i : Nat) y, l[i]? = some y -> SameL (f y) (g (r.getD i default))
 | [], _ => ⟨[], rfl, fun i y h => by simp at h⟩
 | y :: l, h => by
  obtain ⟨b, hb⟩ := h y List.mem_cons_self
  obtain ⟨r, h1, h2⟩ := zj0 fun z hz => h z (List.mem_cons_of_mem _ hz)
  refine ⟨b :: r, by simp [h1], fun i z hz => ?_⟩
  cases i with
  | zero => simp at hz; subst hz; simpa using hb
  | succ i => simpa using h2 i z (by simpa using hz)
theorem zkA {e : TypeId} {B : Type} [Inhabited B] {g : B -> List SV} (ht : P.underlying t = some (.slice e)) (h : wfD P n t d) (hg : ∀ m (y : DataW H), m < n -> wfD P m e y -> ∃ b, SameL (svD P m e y) (g b)) : ∃ (r : List B) (v : SV), svD P n t d = [v] /\ ∀ el' : Nat -> List SV, (∀ i, i < r.length -> el' i = g (r.getD i default)) -> Same v (.isl (P.cellsOf e) r.length el') := by
 obtain ⟨m, elems, hm, h1, h2, el, h3, h4⟩ := zoY ht h
 obtain ⟨r, h5, h6⟩ := zj0 (f := fun y => svD P m e y) (g := g) (l := elems) fun y hy => hg m y (by omega) (h2 y hy)
 refine ⟨r, _, h3, fun el' hel => ?_⟩
 rw [h5]
 exact .islD fun i hi => by
  rw [h4 i _ (List.getElem?_eq_getElem hi), hel i (by omega)]
  exact h6 i _ (List.getElem?_eq_getElem hi)
end
variable {H : Type}
theorem zs6 {A : Type} {l : List A} (h : l.length = 2) : ∃ a b, l = [a, b] := by
 match l, h with
 | [a, b], _ => exact ⟨a, b, rfl⟩
theorem zvM {A : Type} {l : List A} (h : l.length = 4) : ∃ a b c d, l = [a, b, c, d] := by
 match l, h with
 | [a, b, c, d], _ => exact ⟨a, b, c, d, rfl⟩
theorem ztn {A : Type} {l : List A} (h : l.length = 5) : ∃ a b c d e, l = [a, b, c, d, e] := by
 match l, h with
 | [a, b, c, d, e], _ => exact ⟨a, b, c, d, e, rfl⟩
theorem zmP (n : Nat) (d : DataW H) (h : wfD Tryd.prog n 100 d) : ∃ c : CondM, svD Tryd.prog n 100 d = zq6 c := by
 obtain ⟨m, parts, _, _, hl, hp, hs⟩ := zdf Tryd.underlying100 h
 obtain ⟨a, b, rfl⟩ := zs6 hl
 obtain ⟨x0, _, _, s0⟩ := zfT Tryd.underlying3 (hp 0 _ _ rfl rfl)
 obtain ⟨x1, _, _, s1⟩ := zfT Tryd.underlying2 (hp 1 _ _ rfl rfl)
 refine ⟨⟨x0, x1⟩, ?_⟩
 rw [hs]
 show svD _ _ _ _ ++ (svD _ _ _ _ ++ []) = _
 rw [s0, s1]; rfl
theorem zpO (n : Nat) (d : DataW H) (h : wfD Tryd.prog n 93 d) : ∃ c : AggM, svD Tryd.prog n 93 d = zyi c := by
 obtain ⟨m, parts, _, _, hl, hp, hs⟩ := zdf Tryd.underlying93 h
 obtain ⟨a, b, rfl⟩ := zs6 hl
 obtain ⟨x0, _, _, s0⟩ := zfT Tryd.underlying3 (hp 0 _ _ rfl rfl)
 obtain ⟨x1, _, _, s1⟩ := zlM Tryd.underlying9 (hp 1 _ _ rfl rfl)
 refine ⟨⟨x0, x1⟩, ?_⟩
 rw [hs]
 show svD _ _ _ _ ++ (svD _ _ _ _ ++ []) = _
 rw [s0, s1]; rfl
theorem zrf (n : Nat) (d : DataW H) (h : wfD Tryd.prog n 102 d) : ∃ c : HaveM, svD Tryd.prog n 102 d = zwF c := by
 obtain ⟨m, parts, _, _, hl, hp, hs⟩ := zdf Tryd.underlying102 h
 obtain ⟨a, b, rfl⟩ := zs6 hl
 obtain ⟨x0, s0⟩ := zpO _ _ (hp 0 _ _ rfl rfl)
 obtain ⟨x1, s1⟩ := zmP _ _ (hp 1 _ _ rfl rfl)
 refine ⟨⟨x0, x1⟩, ?_⟩
 rw [hs]
 show svD _ _ _ _ ++ (svD _ _ _ _ ++ []) = _
 rw [s0, s1]; rfl
theorem ztx (n : Nat) (d : DataW H) (h : wfD Tryd.prog n 39 d) : ∃ c : AtomM, SameL (svD Tryd.prog n 39 d) (zbA c) := by
 obtain ⟨m, parts, _, _, hl, hp, hs⟩ := zdf Tryd.underlying39 h
 obtain ⟨a, b, c, d, e, rfl⟩ := ztn hl
 obtain ⟨x0, _, _, s0⟩ := zfT Tryd.underlying3 (hp 0 _ _ rfl rfl)
 obtain ⟨x1, _, s1⟩ := zwk Tryd.underlying4 (hp 1 _ _ rfl rfl)
 obtain ⟨x2, _, _, s2⟩ := zfT Tryd.underlying36 (hp 2 _ _ rfl rfl)
 obtain ⟨x3, _, v3, s3, e3⟩ := zcT (g := zq6) Tryd.underlying37 (hp 3 _ _ rfl rfl) zmP
 obtain ⟨x4, _, _, s4⟩ := zlM Tryd.underlying9 (hp 4 _ _ rfl rfl)
 refine ⟨⟨x0, x1, x2, x3, x4⟩, ?_⟩
 rw [hs]
 show SameL (svD _ _ _ _ ++ (svD _ _ _ _ ++ (svD _ _ _ _ ++ (svD _ _ _ _ ++ (svD _ _ _ _ ++ []))))) _
 rw [s0, s1, s2, s3, s4]
 rw [show Tryd.prog.cellsOf 100 = 2 by kernel_rfl] at e3
 exact .cons (.refl _) (.cons (.refl _) (.cons (.refl _) (.cons e3 (.cons (.refl _) .nil))))
theorem zw3 {l : List NodeM} {i : Nat} (hi : i < l.length) : zeb l i = zaj (l.getD i default) := by
 unfold zeb
 rw [ziS, List.getD_eq_getElem?_getD, List.getElem?_map, List.getD_eq_getElem?_getD, List.getElem?_eq_getElem hi]; rfl
theorem zsl (a b c : Int) (x : AtomM) (l : List NodeM) : zaj (.mk a b c x l) = [ai a] ++ ([ai b] ++ ([ai c] ++ (zbA x ++ ([.isl 9 l.length (zeb l)] ++ [])))) := rfl
theorem zhJ : ∀ (k n : Nat) (hk : n ≤ k) (d : DataW H) (h : wfD Tryd.prog n 42 d), ∃ c : NodeM, SameL (svD Tryd.prog n 42 d) (zaj c) := by
 intro k
 induction k with
 | zero =>
  intro n hk d h
  obtain rfl : n = 0 := by omega
  exact h.elim
 | succ k ih =>
  intro n hk d h
  obtain ⟨m, parts, hm, _, hl, hp, hs⟩ := zdf Tryd.underlying42 h
  obtain ⟨a, b, c, d, e, rfl⟩ := ztn hl
  obtain ⟨x0, _, _, s0⟩ := zfT Tryd.underlying3 (hp 0 _ _ rfl rfl)
  obtain ⟨x1, _, _, s1⟩ := zfT Tryd.underlying3 (hp 1 _ _ rfl rfl)
  obtain ⟨x2, _, _, s2⟩ := zfT Tryd.underlying3 (hp 2 _ _ rfl rfl)
  obtain ⟨x3, s3⟩ := ztx _ _ (hp 3 _ _ rfl rfl)
  obtain ⟨x4, v4, s4, e4⟩ := zkA (g := zaj) Tryd.underlying40 (hp 4 _ _ rfl rfl) fun j y hj hy => ih j (by omega) y hy
  refine ⟨.mk x0 x1 x2 x3 x4, ?_⟩
  rw [hs, zsl]
  show SameL (svD _ _ _ _ ++ (svD _ _ _ _ ++ (svD _ _ _ _ ++ (svD _ _ _ _ ++ (svD _ _ _ _ ++ []))))) _
  rw [s0, s1, s2, s4]
  have e4 := e4 (zeb x4) fun i hi => zw3 hi
  rw [show Tryd.prog.cellsOf 42 = 9 by kernel_rfl] at e4
  exact .app SameL.rfl (.app SameL.rfl (.app SameL.rfl (.app s3 (.app (.cons e4 .nil) .nil))))
theorem zp6 (q : QueryM) : zcs q = zaj q.p ++ ([au q.within] ++ ([.isl 4 q.hv.length (zoB q.hv)] ++ ([.isl 2 q.em.length (ztX q.em)] ++ []))) := rfl
theorem zj4 (n : Nat) (d : DataW H) (h : wfD Tryd.prog n 46 d) : ∃ c : QueryM, SameL (svD Tryd.prog n 46 d) (zcs c) := by
 obtain ⟨m, parts, hm, _, hl, hp, hs⟩ := zdf Tryd.underlying46 h
 obtain ⟨a, b, c, d, rfl⟩ := zvM hl
 obtain ⟨x0, s0⟩ := zhJ _ _ (Nat.le_refl _) _ (hp 0 _ _ rfl rfl)
 obtain ⟨x1, _, _, s1⟩ := zfT Tryd.underlying36 (hp 1 _ _ rfl rfl)
 obtain ⟨x2, _, v2, s2, e2⟩ := zcT (g := zwF) Tryd.underlying43 (hp 2 _ _ rfl rfl) zrf
 obtain ⟨x3, _, v3, s3, e3⟩ := zcT (g := zyi) Tryd.underlying44 (hp 3 _ _ rfl rfl) zpO
 refine ⟨⟨x0, x1, x2, x3⟩, ?_⟩
 rw [hs, zp6]
 show SameL (svD _ _ _ _ ++ (svD _ _ _ _ ++ (svD _ _ _ _ ++ (svD _ _ _ _ ++ [])))) _
 rw [s1, s2, s3]
 rw [show Tryd.prog.cellsOf 102 = 4 by kernel_rfl] at e2
 rw [show Tryd.prog.cellsOf 93 = 2 by kernel_rfl] at e3
 exact .app s0 (.app SameL.rfl (.app (.cons e2 .nil) (.app (.cons e3 .nil) .nil)))
end Go.Proofs.YtlfhikphdkpfgaaDoor
