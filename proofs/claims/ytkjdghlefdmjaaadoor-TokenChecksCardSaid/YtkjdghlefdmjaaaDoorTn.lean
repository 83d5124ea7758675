import Derived.Test.YtkjdghlefdmjaaaDoorTd
import Derived.Lib.ParseIntBCases
set_option linter.unusedSimpArgs false
set_option linter.unusedVariables false
set_option maxRecDepth 100000
namespace Go.Proofs.YtkjdghlefdmjaaaDoor
open Go Go.Cx
noncomputable def numV (s : List Nat) : Option Int := match Lib.parseIntB 64 (s.map UInt8.ofNat) with
 | .ok v => some v
 | _ => none
theorem pum_ns (M : Nat) : ∀ (l : List UInt8) (acc : Nat), (∀ c ∈ l, 48 ≤ c.toNat ∧ c.toNat ≤ 57) → Lib.parseUintM M acc l ≠ .syntax
 | [], acc, _ => by simp [Lib.parseUintM]
 | c :: r, acc, h => by
  unfold Lib.parseUintM
  rw [if_pos (h c (by simp))]
  split
  ·simp
  ·split
   ·simp
   ·exact pum_ns M r _ fun x hx => h x (List.mem_cons_of_mem _ hx)
theorem rl_full {k : Int} : ∀ {l : List Nat}, rl k l = l.length → ∀ c ∈ l, clsN c = k
 | [], _, c, hc => by cases hc
 | a :: r, h, c, hc => by
  simp only [rl, List.length_cons] at h
  split at h
  ·rename_i ha
   rcases List.mem_cons.1 hc with rfl | hc
   ·exact ha
   ·exact rl_full (l := r) (by omega) c hc
  ·omega
theorem ofNat_toNat' (n : Nat) : (UInt8.ofNat n).toNat = n % 256 := by simp
theorem dig_of {c : Nat} (h : clsN c = 3) : 48 ≤ (UInt8.ofNat c).toNat ∧ (UInt8.ofNat c).toNat ≤ 57 := by
 rw [ofNat_toNat']
 unfold clsN cls at h
 repeat' split at h
 all_goals omega
theorem min_of {c : Nat} (h : clsN c = 4) : UInt8.ofNat c = 45 := by
 have : c % 256 = 45 := by
  unfold clsN cls at h
  repeat' split at h
  all_goals omega
 rw [← UInt8.toNat_inj, ofNat_toNat', this]; rfl
theorem pub_ns {l : List UInt8} (hne : l ≠ []) (h : ∀ c ∈ l, 48 ≤ c.toNat ∧ c.toNat ≤ 57) : Lib.parseUintB 64 l ≠ .syntax := by
 unfold Lib.parseUintB
 rw [if_neg hne]
 exact pum_ns _ _ _ h
theorem num_form {s : List Nat} (hn : numB s = true) (hl : nNeg s + nDig s = s.length) : (∃ r, s.map UInt8.ofNat = 45 :: r ∧ r ≠ [] ∧ ∀ c ∈ r, 48 ≤ c.toNat ∧ c.toNat ≤ 57) ∨ (s.map UInt8.ofNat ≠ [] ∧ ∀ c ∈ s.map UInt8.ofNat, 48 ≤ c.toNat ∧ c.toNat ≤ 57) := by
 simp only [numB, Bool.and_eq_true, decide_eq_true_eq] at hn
 obtain ⟨h1, h2, _⟩ := hn
 have hd : ∀ c ∈ s.drop (nNeg s), clsN c = 3 := rl_full (by rw [List.length_drop]; show nDig s = _; omega)
 rcases Nat.lt_or_ge 0 (nNeg s) with h | h
 ·have hn1 : nNeg s = 1 := by omega
  left
  cases s with
  | nil => simp [rl] at h
  | cons a r =>
   have ha : clsN a = 4 := by
    have : 0 < rl 4 (a :: r) := h
    simp only [rl] at this
    split at this
    ·assumption
    ·omega
   rw [hn1] at hd
   have hd : ∀ c ∈ r, clsN c = 3 := hd
   refine ⟨r.map UInt8.ofNat, by rw [List.map_cons, min_of ha], ?_, fun c hc => ?_⟩
   ·intro hr
    have : r = [] := List.map_eq_nil_iff.1 hr
    subst this
    simp only [List.length_cons, List.length_nil] at hl; omega
   ·obtain ⟨x, hx, rfl⟩ := List.mem_map.1 hc
    exact dig_of (hd x hx)
 ·have hn0 : nNeg s = 0 := by omega
  right
  rw [hn0, List.drop_zero] at hd
  refine ⟨fun hr => ?_, fun c hc => ?_⟩
  ·have : s = [] := List.map_eq_nil_iff.1 hr
   subst this
   simp only [List.length_nil] at hl; omega
  ·obtain ⟨x, hx, rfl⟩ := List.mem_map.1 hc
   exact dig_of (hd x hx)
theorem num_ns {s : List Nat} (hn : numB s = true) (hl : nNeg s + nDig s = s.length) : Lib.parseIntB 64 (s.map UInt8.ofNat) ≠ .syntax := by
 rcases num_form hn hl with ⟨r, h1, h2, h3⟩ | ⟨h2, h3⟩
 ·rw [h1, Lib.parseIntB_minus]
  have := pub_ns h2 h3
  revert this
  cases Lib.parseUintB 64 r with
  | «syntax» => intro h; exact absurd rfl h
  | range => intro _; unfold Lib.signedC; simp
  | ok u => intro _; unfold Lib.signedC; simp only; split <;> simp
 ·cases hs : s.map UInt8.ofNat with
  | nil => exact absurd hs h2
  | cons c r =>
   rw [hs] at h2 h3
   have hc := h3 c (by simp)
   rw [Lib.parseIntB_plain 64 c r (by omega) (by omega)]
   have := pub_ns h2 h3
   revert this
   cases Lib.parseUintB 64 (c :: r) with
   | «syntax» => intro h; exact absurd rfl h
   | range => intro _; unfold Lib.signlessC; simp
   | ok u => intro _; unfold Lib.signlessC; simp only; split <;> simp
theorem parseOk_d {s : List Nat} {v : Int} (h : Lib.parseIntB 64 (s.map UInt8.ofNat) = .ok v) (hs : s.length ≤ 1000000) : DSpec Tryd.prog axX axG 19 [.cv (.str s), ai 10, ai 64] [] (fun x O => x = .tup [ai v, .cv .nili] ∧ O = []) :=
 dspec_extN (g := axPC) rfl (fun R m xs _ _ hx => by
  cases hx with
  | cons h1 h2 => cases h2 with
   | cons h3 h4 => cases h4 with
    | cons h5 h6 =>
     cases h6; cases h1; cases h3; cases h5
     refine ⟨.tup [.int .i64 v, .nili], ?_, fun e => .tup (.cons (.cv rfl) (.cons (.cv rfl) .nil))⟩
     unfold axPC parseC
     simp only [Nat.ble_eq_true_of_le hs, h]) rfl
theorem errRow : (1, [CV.ifc 99 (.ptr 64 0)]) ∈ axG := List.mem_append_right _ (List.mem_append_right _ (List.mem_singleton.2 rfl))
theorem parseRange_d {s : List Nat} (h : Lib.parseIntB 64 (s.map UInt8.ofNat) = .range) (hs : s.length ≤ 1000000) : DSpec Tryd.prog axX axG 19 [.cv (.str s), ai 10, ai 64] [] (fun x O => x = .tup [ai (Lib.intSat 64 (s.map UInt8.ofNat)), .ifc 81 .junk] ∧ O = []) :=
 dspec_extN (g := axPC) rfl (fun R m xs hgl hM hx => by
  cases hx with
  | cons h1 h2 => cases h2 with
   | cons h3 h4 => cases h4 with
    | cons h5 h6 =>
     cases h6; cases h1; cases h3; cases h5
     obtain ⟨o, k1, k2, k3⟩ := hgl _ _ errRow
     refine ⟨.tup [.int .i64 (Lib.intSat 64 (s.map UInt8.ofNat)), .ifc 81 (.ptr m.nxt 0)], ?_, fun e => .tup (.cons (.cv rfl) (.cons (.ifc .junk) .nil))⟩
     unfold axPC parseC
     have hb : (m.get 1).bind rowC = some [CV.ifc 99 (.ptr 64 0)] := by rw [hM.ro _ _ k1]; exact k2
     simp only [Nat.ble_eq_true_of_le hs, h, hb]) rfl
noncomputable def numR (t : Tok) (lo hi : Int) : Int × Int :=
 if chkT t = 0 then (if t.kind = 3 then (match numV t.text with | some v => if v < lo ∨ hi < v then (0, 2) else (v, 0) | none => (0, 2)) else (0, 11)) else (0, chkT t)
def numRS (p : Int × Int) : SV := .tup [ai p.1, ai p.2]
section
variable {t : Tok} {lo hi : Int}
theorem numR_bad (h : (chkT t != 0) = true) : numR t lo hi = (0, chkT t) := by
 rw [bne_iff_ne] at h
 unfold numR; rw [if_neg h]
theorem numR_kind (h : (chkT t != 0) = false) (hk : (t.kind != 3) = true) : numR t lo hi = (0, 11) := by
 rw [bne_iff_ne] at hk
 have h : chkT t = 0 := by simpa using h
 unfold numR; rw [if_pos h, if_neg hk]
theorem numR_none (h : (chkT t != 0) = false) (hk : (t.kind != 3) = false) (hv : numV t.text = none) : numR t lo hi = (0, 2) := by
 have h : chkT t = 0 := by simpa using h
 have hk : t.kind = 3 := by simpa using hk
 unfold numR; rw [if_pos h, if_pos hk, hv]
theorem numR_out {v : Int} (h : (chkT t != 0) = false) (hk : (t.kind != 3) = false) (hv : numV t.text = some v) (ho : v < lo ∨ hi < v) : numR t lo hi = (0, 2) := by
 have h : chkT t = 0 := by simpa using h
 have hk : t.kind = 3 := by simpa using hk
 unfold numR; rw [if_pos h, if_pos hk, hv]; exact if_pos ho
theorem numR_in {v : Int} (h : (chkT t != 0) = false) (hk : (t.kind != 3) = false) (hv : numV t.text = some v) (ho : ¬ (v < lo ∨ hi < v)) : numR t lo hi = (v, 0) := by
 have h : chkT t = 0 := by simpa using h
 have hk : t.kind = 3 := by simpa using hk
 unfold numR; rw [if_pos h, if_pos hk, hv]; exact if_neg ho
end
theorem numRE {p q : Int × Int} (h : q = p) : SV.tup [ai p.1, ai p.2] = numRS q := by rw [h]; rfl
theorem beg_num {l : List Nat} (h : (beg l).1 = 3) : numB l = true ∧ (beg l).2 = nNeg l + nDig l := by
 revert h
 unfold beg
 split
 ·intro h; exact absurd h (by show ¬ (1 : Int) = 3; decide)
 ·split
  ·intro h; exact absurd h (by show ¬ (2 : Int) = 3; decide)
  ·split
   ·split
    ·rename_i hn; intro _; exact ⟨hn, rfl⟩
    ·intro h; exact absurd h (by show ¬ (0 : Int) = 3; decide)
   ·split
    ·intro h; exact absurd h (by show ¬ (4 : Int) = 3; decide)
    ·intro h; exact absurd h (by show ¬ (0 : Int) = 3; decide)
theorem whole_num {t : Tok} (hc : chkT t = 0) (hk : t.kind = 3) : numB t.text = true ∧ nNeg t.text + nDig t.text = t.text.length := by
 have hw : wholeB t = true := by
  cases hw : wholeB t with
  | true => rfl
  | false =>
   unfold chkT at hc
   rw [if_neg (by omega), hw] at hc
   exact absurd hc (by show ¬ (3 : Int) = 0; decide)
 unfold wholeB at hw
 simp only [Bool.and_eq_true, beq_iff_eq] at hw
 obtain ⟨h1, h2, h3, h4⟩ := hw
 have h0 : (0 : Nat) ≤ t.text.length := Nat.zero_le _
 by_cases hl : 0 + rl 5 (t.text.drop 0) = t.text.length
 ·have := nxt_end h0 hl
  rw [Int.natCast_zero] at this
  rw [this] at h1; exact absurd h1 (by show ¬ (5 : Int) = 0; decide)
 ·by_cases hz : (beg (t.text.drop (0 + rl 5 (t.text.drop 0)))).1 = 0
  ·have := nxt_none h0 hl hz
   rw [Int.natCast_zero] at this
   rw [this] at h1; exact absurd h1 (by show ¬ (3 : Int) = 0; decide)
  ·have hn := nxt_some h0 hl hz
   rw [Int.natCast_zero] at hn
   rw [hn] at h2 h3 h4
   have h2 : ((0 + rl 5 (t.text.drop 0) : Nat) : Int) = 0 := h2
   have hr : 0 + rl 5 (t.text.drop 0) = 0 := by omega
   rw [hr] at h3 h4
   rw [List.drop_zero] at h3 h4
   have h4 : (beg t.text).1 = 3 := h4.trans hk
   have h3 : ((0 : Nat) : Int) + (beg t.text).2 = (t.text.length : Int) := h3
   obtain ⟨k1, k2⟩ := beg_num h4
   exact ⟨k1, by omega⟩
theorem Number_d (t : Tok) (lo hi : Int) (hs : t.text.length ≤ 1000000) : DSpec Tryd.prog axX axG 11 [.agg (tokS t), ai lo, ai hi] [] (fun v O => v = numRS (numR t lo hi) ∧ O = []) := by
 cases hp : Lib.parseIntB 64 (t.text.map UInt8.ofNat) with
 | «syntax» =>
  have hns : (chkT t != 0) = false → (t.kind != 3) = false → False := fun h hk => by
   obtain ⟨h1, h2⟩ := whole_num (t := t) (by simpa using h) (by simpa using hk)
   exact num_ns h1 h2 hp
  refine dspec_of { glb := axG } true Tryd.func11 (by kernel_rfl) rfl ?_
  repeat' (
    (conv => whnf)
    first
     | exact closedB (by kernel_rfl)
     | refine And.intro ?_ ?_
     | refine splitB_intro ?_ ?_
     | (refine ⟨_, Check_t t hs, ?_⟩; rintro v O' ⟨rfl, rfl⟩)
     | intro _)
  all_goals first
   | rfl
   | (exfalso; exact hns (by assumption) (by assumption))
   | exact numRE (p := (0, _)) (numR_bad (by assumption))
   | exact numRE (p := (0, _)) (numR_kind (by assumption) (by assumption))
 | range =>
  have hv : numV t.text = none := by unfold numV; rw [hp]
  refine dspec_of { glb := axG } true Tryd.func11 (by kernel_rfl) rfl ?_
  repeat' (
    (conv => whnf)
    first
     | exact closedB (by kernel_rfl)
     | refine And.intro ?_ ?_
     | refine splitB_intro ?_ ?_
     | (refine ⟨_, Check_t t hs, ?_⟩; rintro v O' ⟨rfl, rfl⟩)
     | (refine ⟨_, parseRange_d hp hs, ?_⟩; rintro v O' ⟨rfl, rfl⟩)
     | intro _)
  all_goals first
   | rfl
   | exact numRE (p := (0, _)) (numR_bad (by assumption))
   | exact numRE (p := (0, _)) (numR_kind (by assumption) (by assumption))
   | exact numRE (p := (0, _)) (numR_none (by assumption) (by assumption) hv)
 | ok v =>
  have hv : numV t.text = some v := by unfold numV; rw [hp]
  refine dspec_of { glb := axG } true Tryd.func11 (by kernel_rfl) rfl ?_
  repeat' (
    (conv => whnf)
    first
     | exact closedB (by kernel_rfl)
     | refine And.intro ?_ ?_
     | refine splitB_intro ?_ ?_
     | (refine ⟨_, Check_t t hs, ?_⟩; rintro v O' ⟨rfl, rfl⟩)
     | (refine ⟨_, parseOk_d hp hs, ?_⟩; rintro v O' ⟨rfl, rfl⟩)
     | ((refine ⟨false, ⟨by kernel_rfl⟩, ?_⟩))
     | intro _)
  all_goals first
   | rfl
   | (rename_i h; cases h; done)
   | exact numRE (p := (0, _)) (numR_bad (by assumption))
   | exact numRE (p := (0, _)) (numR_kind (by assumption) (by assumption))
   | exact numRE (p := (0, _)) (numR_out (by assumption) (by assumption) hv (.inl (by (simp only [zz] at *; omega))))
   | exact numRE (p := (0, _)) (numR_out (by assumption) (by assumption) hv (.inr (by (simp only [zz] at *; omega))))
   | exact numRE (p := (v, 0)) (numR_in (by assumption) (by assumption) hv (by (simp only [zz] at *; omega)))
end Go.Proofs.YtkjdghlefdmjaaaDoor
