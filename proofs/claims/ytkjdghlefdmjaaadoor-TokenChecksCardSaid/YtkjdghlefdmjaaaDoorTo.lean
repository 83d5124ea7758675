import Derived.Test.YtkjdghlefdmjaaaDoorTn
import Derived.Test.YtkjdghlefdmjaaaDoorTj
import Derived.IntWalk
set_option linter.unusedSimpArgs false
set_option linter.unusedVariables false
set_option maxRecDepth 100000
namespace Go.Proofs.YtkjdghlefdmjaaaDoor
open Go Go.Cx
def dvF : Nat → List Nat → Option Nat
 | x, [] => some x
 | x, c :: r => if x * 10 + (c % 256 - 48) ≤ 9223372036854775808 then dvF (x * 10 + (c % 256 - 48)) r else none
theorem dvF_le : ∀ {l : List Nat} {x y : Nat}, x ≤ 9223372036854775808 → dvF x l = some y → y ≤ 9223372036854775808
 | [], x, y, h, hy => by cases hy; exact h
 | c :: r, x, y, h, hy => by
  simp only [dvF] at hy
  split at hy
  ·rename_i hq; exact dvF_le hq hy
  ·cases hy
theorem pum_big : ∀ (l : List UInt8) (acc : Nat), (∀ c ∈ l, 48 ≤ c.toNat ∧ c.toNat ≤ 57) → 9223372036854775808 < acc → Lib.parseUintM 18446744073709551615 acc l = .range ∨ ∃ y, 9223372036854775808 < y ∧ Lib.parseUintM 18446744073709551615 acc l = .ok y
 | [], acc, _, h => .inr ⟨acc, h, rfl⟩
 | c :: r, acc, hd, h => by
  unfold Lib.parseUintM
  rw [if_pos (hd c (by simp))]
  split
  ·exact .inl rfl
  ·split
   ·exact .inl rfl
   ·exact pum_big r _ (fun x hx => hd x (List.mem_cons_of_mem _ hx)) (by omega)
theorem dvF_pum : ∀ (l : List Nat) (x : Nat), x ≤ 9223372036854775808 → (∀ c ∈ l, 48 ≤ c % 256 ∧ c % 256 ≤ 57) →
  (∀ y, dvF x l = some y → Lib.parseUintM 18446744073709551615 x (l.map UInt8.ofNat) = .ok y) ∧
  (dvF x l = none → Lib.parseUintM 18446744073709551615 x (l.map UInt8.ofNat) = .range ∨ ∃ y, 9223372036854775808 < y ∧ Lib.parseUintM 18446744073709551615 x (l.map UInt8.ofNat) = .ok y)
 | [], x, _, _ => ⟨fun y h => by cases h; rfl, fun h => by cases h⟩
 | c :: r, x, hx, hd => by
  have hc := hd c (by simp)
  have hr : ∀ a ∈ r, 48 ≤ a % 256 ∧ a % 256 ≤ 57 := fun a ha => hd a (List.mem_cons_of_mem _ ha)
  have hn : (UInt8.ofNat c).toNat = c % 256 := ofNat_toNat' c
  have hu : Lib.parseUintM 18446744073709551615 x ((c :: r).map UInt8.ofNat) = if 1844674407370955162 ≤ x then .range else if 18446744073709551615 < x * 10 + (c % 256 - 48) then .range else Lib.parseUintM 18446744073709551615 (x * 10 + (c % 256 - 48)) (r.map UInt8.ofNat) := by
   rw [List.map_cons]
   show (if 48 ≤ (UInt8.ofNat c).toNat ∧ (UInt8.ofNat c).toNat ≤ 57 then _ else _) = _
   rw [hn, if_pos hc]
  simp only [dvF]
  by_cases hq : x * 10 + (c % 256 - 48) ≤ 9223372036854775808
  ·rw [if_pos hq, hu, if_neg (by omega), if_neg (by omega)]
   exact dvF_pum r _ hq hr
  ·rw [if_neg hq, hu]
   refine ⟨fun y h => (by cases h), fun _ => ?_⟩
   split
   ·exact .inl rfl
   ·split
    ·exact .inl rfl
    ·refine pum_big _ _ (fun a ha => ?_) (by omega)
     obtain ⟨b, hb, rfl⟩ := List.mem_map.1 ha
     rw [ofNat_toNat']; exact hr b hb
theorem dig_mod {c : Nat} (h : 48 ≤ (UInt8.ofNat c).toNat ∧ (UInt8.ofNat c).toNat ≤ 57) : 48 ≤ c % 256 ∧ c % 256 ≤ 57 := by rwa [ofNat_toNat'] at h
theorem numV_plain {s : List Nat} (h2 : s ≠ []) (hd : ∀ c ∈ s, 48 ≤ c % 256 ∧ c % 256 ≤ 57) : numV s = match dvF 0 s with | some y => if 9223372036854775808 ≤ y then none else some (y : Int) | none => none := by
 cases s with
 | nil => exact absurd rfl h2
 | cons a r =>
  have ha := hd a (by simp)
  have hp : Lib.parseIntB 64 ((a :: r).map UInt8.ofNat) = Lib.signlessC (2 ^ (64 - 1)) (Lib.parseUintB 64 ((a :: r).map UInt8.ofNat)) := by
   rw [List.map_cons]
   exact Lib.parseIntB_plain 64 _ _ (by rw [ofNat_toNat']; omega) (by rw [ofNat_toNat']; omega)
  have hb : Lib.parseUintB 64 ((a :: r).map UInt8.ofNat) = Lib.parseUintM 18446744073709551615 0 ((a :: r).map UInt8.ofNat) := by
   unfold Lib.parseUintB; rw [if_neg (by simp)]
  have h := dvF_pum (a :: r) 0 (by omega) hd
  unfold numV
  rw [hp, hb]
  cases hv : dvF 0 (a :: r) with
  | some y =>
   rw [h.1 y hv]
   show (match (if 9223372036854775808 ≤ y then Lib.NumEnd.range else .ok (y : Int)) with | .ok v => some v | _ => none) = if 9223372036854775808 ≤ y then none else some (y : Int)
   by_cases hq : 9223372036854775808 ≤ y
   ·rw [if_pos hq, if_pos hq]
   ·rw [if_neg hq, if_neg hq]
  | none =>
   rcases h.2 hv with h1 | ⟨y, h1, h3⟩
   ·rw [h1]; rfl
   ·rw [h3]
    show (match (if 9223372036854775808 ≤ y then Lib.NumEnd.range else .ok (y : Int)) with | .ok v => some v | _ => none) = _
    rw [if_pos (by omega)]
theorem numV_minus {a : Nat} {r : List Nat} (ha : UInt8.ofNat a = 45) (h2 : r ≠ []) (hd : ∀ c ∈ r, 48 ≤ c % 256 ∧ c % 256 ≤ 57) : numV (a :: r) = match dvF 0 r with | some y => some (-(y : Int)) | none => none := by
 have hp : Lib.parseIntB 64 ((a :: r).map UInt8.ofNat) = Lib.signedC (2 ^ (64 - 1)) (Lib.parseUintB 64 (r.map UInt8.ofNat)) := by
  rw [List.map_cons, ha]
  exact Lib.parseIntB_minus 64 _
 have hb : Lib.parseUintB 64 (r.map UInt8.ofNat) = Lib.parseUintM 18446744073709551615 0 (r.map UInt8.ofNat) := by
  unfold Lib.parseUintB; rw [if_neg (by simpa using h2)]
 have h := dvF_pum r 0 (by omega) hd
 unfold numV
 rw [hp, hb]
 cases hv : dvF 0 r with
 | some y =>
  have hy := dvF_le (by omega) hv
  rw [h.1 y hv]
  show (match (if 9223372036854775808 < y then Lib.NumEnd.range else .ok (-(y : Int))) with | .ok v => some v | _ => none) = _
  rw [if_neg (by omega)]
 | none =>
  rcases h.2 hv with h1 | ⟨y, h1, h3⟩
  ·rw [h1]; rfl
  ·rw [h3]
   show (match (if 9223372036854775808 < y then Lib.NumEnd.range else .ok (-(y : Int))) with | .ok v => some v | _ => none) = _
   rw [if_pos (by omega)]
def valS (o : Option Int) (v : SV) : Prop := match o with
 | some x => v = .tup [ai x, ab true]
 | none => ∃ x, v = .tup [ai x, ab false]
theorem subN_tail {a : Nat} {r : List Nat} : subN (a :: r) 1 (((a :: r).length : Nat) : Int) = r := by
 unfold subN
 rw [Int.toNat_natCast]
 show ((r).take ((r.length + 1) - 1)) = r
 rw [Nat.add_sub_cancel, List.take_length]
theorem dvF_step {l : List Nat} {x k : Nat} (hk : k < l.length) (h : x * 10 + (l.getD k 0 % 256 - 48) ≤ 9223372036854775808) : dvF x (l.drop k) = dvF (x * 10 + (l.getD k 0 % 256 - 48)) (l.drop (k + 1)) := by
 rw [List.drop_eq_getElem_cons hk]
 have : l.getD k 0 = l[k] := by rw [List.getD_eq_getElem?_getD, List.getElem?_eq_getElem hk]; rfl
 rw [this] at h ⊢
 simp only [dvF]
 rw [if_pos h]
theorem dvF_stop {l : List Nat} {x k : Nat} (hk : k < l.length) (h : ¬ x * 10 + (l.getD k 0 % 256 - 48) ≤ 9223372036854775808) : dvF x (l.drop k) = none := by
 rw [List.drop_eq_getElem_cons hk]
 have : l.getD k 0 = l[k] := by rw [List.getD_eq_getElem?_getD, List.getElem?_eq_getElem hk]; rfl
 rw [this] at h
 simp only [dvF]
 rw [if_neg h]
theorem val_next {s : List Nat} {k x : Nat} {o : Option Nat} (hkl : k < s.length) (hx : x ≤ 9223372036854775808) (hg : gbN s k = ((s.getD k 0 % 256 : Nat) : Int) ∧ 48 ≤ s.getD k 0 % 256 ∧ s.getD k 0 % 256 ≤ 57) (hz : (x : Int) ≤ (9223372036854775808 - (gbN s k - 48)) / 10) (hdv : o = dvF x (s.drop k)) (hs : s.length ≤ 1000000 := by assumption) :
  ∃ k' x' : Nat, k' ≤ s.length ∧ x' ≤ 9223372036854775808 ∧ o = dvF x' (s.drop k') ∧ [SV.cv (CV.int IntKind.i64 (IntKind.i64.wrap ((k : Int) + 1))), SV.cv (CV.int IntKind.u64 (IntKind.u64.wrap (IntKind.u64.wrap (10 * (x : Int)) + (gbN s k - 48))))] = [ai k', .cv (.int .u64 x')] ∧ True := by
 have e5 : IntKind.u64.wrap (10 * (x : Int)) = 10 * x := IntWalk.u64_in _ (by omega)
 have e6 : IntKind.u64.wrap (10 * (x : Int) + (gbN s k - 48)) = 10 * x + (gbN s k - 48) := IntWalk.u64_in _ (by omega)
 have e7 : IntKind.i64.wrap ((k : Int) + 1) = k + 1 := IntWalk.i64_in _ (by omega)
 have e8 : 10 * (x : Int) + (gbN s k - 48) = ((x * 10 + (s.getD k 0 % 256 - 48) : Nat) : Int) := by omega
 refine ⟨k + 1, x * 10 + (s.getD k 0 % 256 - 48), by omega, by omega, hdv.trans (dvF_step hkl (by omega)), ?_, trivial⟩
 rw [e5, e6, e7, e8]; rfl
theorem val_end {x : Nat} (hx : x ≤ 9223372036854775808) : valS (match dvF x [] with | some y => if 9223372036854775808 ≤ y then none else some (y : Int) | none => none) (.tup [ai (IntKind.i64.wrap x), ab (decide ((x : Int) < 9223372036854775808))]) := by
 show valS (if 9223372036854775808 ≤ x then none else some (x : Int)) _
 by_cases h : 9223372036854775808 ≤ x
 ·rw [if_pos h]
  exact ⟨_, by rw [decide_eq_false (by omega)]⟩
 ·rw [if_neg h]
  show _ = _
  rw [IntWalk.i64_in _ (by omega), decide_eq_true (by omega)]
set_option maxHeartbeats 4000000 in
theorem value_plain {s : List Nat} (h2 : s ≠ []) (hs : s.length ≤ 1000000) (hd : ∀ c ∈ s, 48 ≤ c % 256 ∧ c % 256 ≤ 57) (h45 : gbN s 0 ≠ 45) : DSpec Tryd.prog axX axG 20 [.cv (.str s)] [] (fun v O => valS (numV s) v ∧ O = []) := by
 rw [numV_plain h2 hd]
 have hl : 0 < s.length := List.length_pos_iff.2 h2
 have hdg : ∀ k : Nat, k < s.length → gbN s k = ((s.getD k 0 % 256 : Nat) : Int) ∧ 48 ≤ s.getD k 0 % 256 ∧ s.getD k 0 % 256 ≤ 57 := fun k hk => by
  have : s.getD k 0 = s[k] := by rw [List.getD_eq_getElem?_getD, List.getElem?_eq_getElem hk]; rfl
  refine ⟨by unfold gbN; rw [Int.toNat_natCast], ?_⟩
  rw [this]; exact hd _ (List.getElem_mem hk)
 refine dspec_of { glb := axG, ann := [(6, [6, 5])], wrap := true } true Tryd.func20 (by kernel_rfl) rfl ?_
 repeat' (
   (conv => whnf)
   first
    | exact closedB (by kernel_rfl)
    | refine And.intro ?_ ?_
    | refine splitB_intro ?_ ?_
    | ((refine ⟨fun vs O _ => ∃ k x : Nat, k ≤ s.length ∧ x ≤ 9223372036854775808 ∧ dvF 0 s = dvF x (s.drop k) ∧ vs = [ai k, .cv (.int .u64 x)] ∧ O = [], fun vs O => match vs with | [.cv (.int _ k), _] => s.length - k.toNat | _ => 0, ⟨0, 0, Nat.zero_le _, by decide, rfl, rfl, rfl⟩, ?_⟩; rintro vs O _ ⟨k, x, hk, hx, hdv, rfl, rfl⟩; by_cases hkl : k < s.length; have hg := hdg k hkl; have e1 : IntKind.u8.wrap (gbN s k - 48) = gbN s k - 48 := IntWalk.u8_in _ (by omega); have e2 : IntKind.u64.wrap (gbN s k - 48) = gbN s k - 48 := IntWalk.u64_in _ (by omega); have e3 : IntKind.u64.wrap (9223372036854775808 - (gbN s k - 48)) = 9223372036854775808 - (gbN s k - 48) := IntWalk.u64_in _ (by omega); have e4 : (9223372036854775808 - (gbN s k - 48)).tdiv 10 = (9223372036854775808 - (gbN s k - 48)) / 10 := Int.tdiv_eq_ediv_of_nonneg (by omega); rotate_left; rotate_left))
    | intro _)
 all_goals try simp only [e1, e2, e3, e4]
 all_goals first
  | rfl
  | (show (0 : Int) ≤ _; omega)
  | (show _ ≤ (18446744073709551615 : Int); omega)
  | (rename_i hz; simp only [e1, e2, e3, e4, decide_eq_true_eq] at hz; rw [hdv, dvF_stop hkl (by omega)]; exact ⟨0, rfl⟩)
  | (rename_i hz; simp only [e1, e2, e3, e4, decide_eq_false_iff_not] at hz; exact val_next hkl hx hg (by omega) hdv)
  | (have e7 : IntKind.i64.wrap ((k : Int) + 1) = k + 1 := IntWalk.i64_in _ (by omega)
     show (s.length - (IntKind.i64.wrap ((k : Int) + 1)).toNat).succ ≤ s.length - (k : Int).toNat
     rw [e7]; omega)
  | (rw [hdv, List.drop_eq_nil_of_le (by omega)]
     exact val_end hx)
  | omega
  | (simp only [zz] at *; omega)
  | (exfalso; (simp only [zz] at *; omega))
end Go.Proofs.YtkjdghlefdmjaaaDoor
