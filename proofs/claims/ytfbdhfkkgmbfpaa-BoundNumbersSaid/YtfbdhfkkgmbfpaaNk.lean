import Derived.Test.YtfbdhfkkgmbfpaaNj
import Derived.Test.YtfbdhfkkgmbfpaaGh
/-
  Numbers of a configuration. Part k: what comes in.
-/
set_option linter.unusedSimpArgs false
set_option linter.unusedVariables false
namespace Go.Proofs.Ytfbdhfkkgmbfpaa
open Go Go.Cx

variable {H : Type}
theorem len2 {A : Type} {l : List A} (h : l.length = 3) : ∃ a b c, l = [a, b, c] := by
  match l, h with
  | [a, b, c], _ => exact ⟨a, b, c, rfl⟩
theorem len4 {A : Type} {l : List A} (h : l.length = 4) : ∃ a b c d, l = [a, b, c, d] := by
  match l, h with
  | [a, b, c, d], _ => exact ⟨a, b, c, d, rfl⟩
theorem len5 {A : Type} {l : List A} (h : l.length = 5) : ∃ a b c d e, l = [a, b, c, d, e] := by
  match l, h with
  | [a, b, c, d, e], _ => exact ⟨a, b, c, d, e, rfl⟩
theorem len6 {A : Type} {l : List A} (h : l.length = 6) : ∃ a b c d e f, l = [a, b, c, d, e, f] := by
  match l, h with
  | [a, b, c, d, e, f], _ => exact ⟨a, b, c, d, e, f, rfl⟩
theorem len7 {A : Type} {l : List A} (h : l.length = 7) : ∃ a b c d e f g, l = [a, b, c, d, e, f, g] := by
  match l, h with
  | [a, b, c, d, e, f, g], _ => exact ⟨a, b, c, d, e, f, g, rfl⟩
theorem open_cls (n : Nat) (d : DataW H) (h : wfD Try.prog n 75 d) : ∃ c : ClsM, svD Try.prog n 75 d = clsS c := by
  obtain ⟨m, parts, _, _, hl, hp, hs⟩ := wf_struct Try.underlying75 h
  obtain ⟨a, b, c, rfl⟩ := len2 hl
  obtain ⟨x0, _, _, s0⟩ := wf_int Try.underlying27 (hp 0 _ _ rfl rfl)
  obtain ⟨x1, _, _, s1⟩ := wf_int Try.underlying3 (hp 1 _ _ rfl rfl)
  obtain ⟨x2, _, _, s2⟩ := wf_int Try.underlying3 (hp 2 _ _ rfl rfl)
  refine ⟨⟨x0, x1, x2⟩, ?_⟩
  rw [hs]
  show svD _ _ _ _ ++ (svD _ _ _ _ ++ (svD _ _ _ _ ++ [])) = _
  rw [s0, s1, s2]; rfl
theorem open_ten (n : Nat) (d : DataW H) (h : wfD Try.prog n 24 d) : ∃ c : TenM, svD Try.prog n 24 d = tenS c := by
  obtain ⟨m, parts, _, _, hl, hp, hs⟩ := wf_struct Try.underlying24 h
  obtain ⟨a, b, c, d, e, rfl⟩ := len5 hl
  obtain ⟨x0, _, _, s0⟩ := wf_int Try.underlying3 (hp 0 _ _ rfl rfl)
  obtain ⟨x1, _, _, s1⟩ := wf_int Try.underlying3 (hp 1 _ _ rfl rfl)
  obtain ⟨x2, _, _, s2⟩ := wf_int Try.underlying3 (hp 2 _ _ rfl rfl)
  obtain ⟨x3, _, _, s3⟩ := wf_int Try.underlying3 (hp 3 _ _ rfl rfl)
  obtain ⟨x4, _, _, s4⟩ := wf_int Try.underlying3 (hp 4 _ _ rfl rfl)
  refine ⟨⟨x0, x1, x2, x3, x4⟩, ?_⟩
  rw [hs]
  show svD _ _ _ _ ++ (svD _ _ _ _ ++ (svD _ _ _ _ ++ (svD _ _ _ _ ++ (svD _ _ _ _ ++ [])))) = _
  rw [s0, s1, s2, s3, s4]; rfl
theorem open_rule (n : Nat) (d : DataW H) (h : wfD Try.prog n 111 d) : ∃ c : RuleM, svD Try.prog n 111 d = ruleS c := by
  obtain ⟨m, parts, _, _, hl, hp, hs⟩ := wf_struct Try.underlying111 h
  obtain ⟨a, b, c, d, e, f, g, rfl⟩ := len7 hl
  obtain ⟨x0, _, _, s0⟩ := wf_int Try.underlying3 (hp 0 _ _ rfl rfl)
  obtain ⟨x1, _, _, s1⟩ := wf_int Try.underlying27 (hp 1 _ _ rfl rfl)
  obtain ⟨x2, _, _, s2⟩ := wf_int Try.underlying27 (hp 2 _ _ rfl rfl)
  obtain ⟨x3, _, s3⟩ := wf_bool Try.underlying4 (hp 3 _ _ rfl rfl)
  obtain ⟨x4, _, _, s4⟩ := wf_int Try.underlying3 (hp 4 _ _ rfl rfl)
  obtain ⟨x5, _, _, s5⟩ := wf_int Try.underlying2 (hp 5 _ _ rfl rfl)
  obtain ⟨x6, _, _, s6⟩ := wf_int Try.underlying2 (hp 6 _ _ rfl rfl)
  refine ⟨⟨x0, x1, x2, x3, x4, x5, x6⟩, ?_⟩
  rw [hs]
  show svD _ _ _ _ ++ (svD _ _ _ _ ++ (svD _ _ _ _ ++ (svD _ _ _ _ ++ (svD _ _ _ _ ++ (svD _ _ _ _ ++ (svD _ _ _ _ ++ [])))))) = _
  rw [s0, s1, s2, s3, s4, s5, s6]; rfl
set_option maxRecDepth 100000 in
theorem open_conf (n : Nat) (d : DataW H) (h : wfD Try.prog n 29 d) : ∃ c : ConfM, Lim c ∧ SameL (svD Try.prog n 29 d) (confS c) := by
  obtain ⟨m, parts, _, _, hl, hp, hs⟩ := wf_struct Try.underlying29 h
  obtain ⟨a, b, c, e, rfl⟩ := len4 hl
  obtain ⟨cl, l0, v0, s0, e0⟩ := wf_slice_words (g := clsS) Try.underlying22 (hp 0 _ _ rfl rfl) open_cls
  obtain ⟨rl, l2, v2, s2, e2⟩ := wf_slice_words (g := ruleS) Try.underlying26 (hp 2 _ _ rfl rfl) open_rule
  obtain ⟨x3, _, _, s3⟩ := wf_int Try.underlying27 (hp 3 _ _ rfl rfl)
  obtain ⟨m1, ts, _, _, ht, hq, s1⟩ := wf_array Try.underlying25 (hp 1 _ _ rfl rfl)
  obtain ⟨y0, y1, y2, y3, y4, y5, rfl⟩ := len6 ht
  obtain ⟨t0, u0⟩ := open_ten m1 y0 (hq _ (by simp))
  obtain ⟨t1, u1⟩ := open_ten m1 y1 (hq _ (by simp))
  obtain ⟨t2, u2⟩ := open_ten m1 y2 (hq _ (by simp))
  obtain ⟨t3, u3⟩ := open_ten m1 y3 (hq _ (by simp))
  obtain ⟨t4, u4⟩ := open_ten m1 y4 (hq _ (by simp))
  obtain ⟨t5, u5⟩ := open_ten m1 y5 (hq _ (by simp))
  refine ⟨⟨cl, t0, t1, t2, t3, t4, t5, rl, x3⟩, ⟨l0, l2⟩, ?_⟩
  rw [hs]
  have s1 : svD Try.prog m 25 b = tenS t0 ++ (tenS t1 ++ (tenS t2 ++ (tenS t3 ++ (tenS t4 ++ (tenS t5 ++ []))))) := by
    rw [s1]
    show svD _ _ _ _ ++ (svD _ _ _ _ ++ (svD _ _ _ _ ++ (svD _ _ _ _ ++ (svD _ _ _ _ ++ (svD _ _ _ _ ++ []))))) = _
    rw [u0, u1, u2, u3, u4, u5]
  show SameL (svD _ _ _ _ ++ (svD _ _ _ _ ++ (svD _ _ _ _ ++ (svD _ _ _ _ ++ [])))) _
  rw [s0, s1, s2, s3]
  rw [show Try.prog.cellsOf 75 = 3 by kernel_rfl] at e0
  rw [show Try.prog.cellsOf 111 = 7 by kernel_rfl] at e2
  exact .app (b := [.isl 3 cl.length (clsEl cl)]) (.cons e0 .nil) (.app SameL.rfl (.app (b := [.isl 7 rl.length (rulesEl rl)]) (.cons e2 .nil) SameL.rfl))
end Go.Proofs.Ytfbdhfkkgmbfpaa
