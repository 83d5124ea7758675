import Derived.Test.YtkjdghlefdmjaaaDoorTo
set_option linter.unusedSimpArgs false
set_option linter.unusedVariables false
set_option maxRecDepth 100000
namespace Go.Proofs.YtkjdghlefdmjaaaDoor
open Go Go.Cx
theorem val_endm {x : Nat} (hx : x ≤ 9223372036854775808) : valS (match dvF x [] with | some y => some (-(y : Int)) | none => none) (.tup [ai (IntKind.i64.wrap (0 - IntKind.i64.wrap x)), ab true]) := by
 show valS (some (-(x : Int))) _
 show _ = _
 have : IntKind.i64.wrap (0 - IntKind.i64.wrap (x : Int)) = -(x : Int) := by
  rw [IntKind.wrap_i64, IntKind.wrap_i64]; omega
 rw [this]
set_option maxHeartbeats 4000000 in
theorem value_minus {s r : List Nat} {a : Nat} (hsr : s = a :: r) (ha : UInt8.ofNat a = 45) (h2 : r ≠ []) (hs : s.length ≤ 1000000) (hd : ∀ c ∈ r, 48 ≤ c % 256 ∧ c % 256 ≤ 57) : DSpec Tryd.prog axX axG 20 [.cv (.str s)] [] (fun v O => valS (numV s) v ∧ O = []) := by
 have hnv : numV s = match dvF 0 r with | some y => some (-(y : Int)) | none => none := by rw [hsr]; exact numV_minus ha h2 hd
 rw [hnv]
 have hR : subN s 1 (s.length : Int) = r := by rw [hsr]; exact subN_tail
 have h45 : gbN s 0 = 45 := by
  rw [hsr]
  have := congrArg UInt8.toNat ha
  rw [ofNat_toNat'] at this
  show ((a % 256 : Nat) : Int) = 45
  rw [this]; rfl
 have hls : s.length = r.length + 1 := by rw [hsr]; rfl
 rw [← hR]
 rw [← hR] at hd
 have hRl : (subN s 1 (s.length : Int)).length = r.length := by rw [hR]
 have hdg : ∀ k : Nat, k < (subN s 1 (s.length : Int)).length → gbN (subN s 1 (s.length : Int)) k = (((subN s 1 (s.length : Int)).getD k 0 % 256 : Nat) : Int) ∧ 48 ≤ (subN s 1 (s.length : Int)).getD k 0 % 256 ∧ (subN s 1 (s.length : Int)).getD k 0 % 256 ≤ 57 := fun k hk => by
  have : (subN s 1 (s.length : Int)).getD k 0 = (subN s 1 (s.length : Int))[k] := by rw [List.getD_eq_getElem?_getD, List.getElem?_eq_getElem hk]; rfl
  refine ⟨by unfold gbN; rw [Int.toNat_natCast], ?_⟩
  rw [this]; exact hd _ (List.getElem_mem hk)
 clear hsr hR hnv
 refine dspec_of { glb := axG, ann := [(6, [6, 5])], wrap := true } true Tryd.func20 (by kernel_rfl) rfl ?_
 repeat' (
   (conv => whnf)
   first
    | exact closedB (by kernel_rfl)
    | refine And.intro ?_ ?_
    | refine splitB_intro ?_ ?_
    | ((refine ⟨fun vs O _ => ∃ k x : Nat, k ≤ (subN s 1 (s.length : Int)).length ∧ x ≤ 9223372036854775808 ∧ dvF 0 (subN s 1 (s.length : Int)) = dvF x ((subN s 1 (s.length : Int)).drop k) ∧ vs = [ai k, .cv (.int .u64 x)] ∧ O = [], fun vs O => match vs with | [.cv (.int _ k), _] => (subN s 1 (s.length : Int)).length - k.toNat | _ => 0, ⟨0, 0, Nat.zero_le _, by decide, rfl, rfl, rfl⟩, ?_⟩; rintro vs O _ ⟨k, x, hk, hx, hdv, rfl, rfl⟩; by_cases hkl : k < (subN s 1 (s.length : Int)).length; have hg := hdg k hkl; have e1 : IntKind.u8.wrap (gbN (subN s 1 (s.length : Int)) k - 48) = gbN (subN s 1 (s.length : Int)) k - 48 := IntWalk.u8_in _ (by omega); have e2 : IntKind.u64.wrap (gbN (subN s 1 (s.length : Int)) k - 48) = gbN (subN s 1 (s.length : Int)) k - 48 := IntWalk.u64_in _ (by omega); have e3 : IntKind.u64.wrap (9223372036854775808 - (gbN (subN s 1 (s.length : Int)) k - 48)) = 9223372036854775808 - (gbN (subN s 1 (s.length : Int)) k - 48) := IntWalk.u64_in _ (by omega); have e4 : (9223372036854775808 - (gbN (subN s 1 (s.length : Int)) k - 48)).tdiv 10 = (9223372036854775808 - (gbN (subN s 1 (s.length : Int)) k - 48)) / 10 := Int.tdiv_eq_ediv_of_nonneg (by omega); rotate_left; rotate_left))
    | intro _)
 all_goals try simp only [e1, e2, e3, e4]
 all_goals first
  | rfl
  | (show (0 : Int) ≤ _; omega)
  | (show _ ≤ (18446744073709551615 : Int); omega)
  | (rename_i hz; simp only [e1, e2, e3, e4, decide_eq_true_eq] at hz; rw [hdv, dvF_stop hkl (by omega)]; exact ⟨0, rfl⟩)
  | (rename_i hz; simp only [e1, e2, e3, e4, decide_eq_false_iff_not] at hz; exact val_next hkl hx hg (by omega) hdv (by omega))
  | (have e7 : IntKind.i64.wrap ((k : Int) + 1) = k + 1 := IntWalk.i64_in _ (by omega)
     show ((subN s 1 (s.length : Int)).length - (IntKind.i64.wrap ((k : Int) + 1)).toNat).succ ≤ (subN s 1 (s.length : Int)).length - (k : Int).toNat
     rw [e7]; omega)
  | (rw [hdv, List.drop_eq_nil_of_le (by omega)]
     exact val_endm hx)
  | omega
  | (simp only [zz] at *; omega)
  | (exfalso; (simp only [zz] at *; omega))
end Go.Proofs.YtkjdghlefdmjaaaDoor
