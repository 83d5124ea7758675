/-
  partywallkit.Mod at a divisor above 0: the remainder that is not negative. Conditions: the divisor is below a million.
-/
import Derived.Test.YtpgbihleidcdkaaDoorChecked
import Derived.ProofKit
import Derived.WalkKit
import Derived.IntWalk
import Derived.KernelRfl
set_option linter.unusedSimpArgs false
set_option linter.unusedVariables false
namespace Go.Proofs.YtpgbihleidcdkaaDoor
open Go Go.RowKit
theorem Tryd.mixed : Tryd.prog.follows .mixedOrders = true := by kernel_rfl
theorem few_emod (x : Int) (k : Nat) (hk : 0 < k) : (if x.tmod k < 0 then x.tmod k + k else x.tmod k) = x.emod k := by
  rw [Int.tmod_eq_emod]
  have h0 := Int.emod_nonneg x (b := (k : Int)) (by omega)
  have h1 := Int.emod_lt_of_pos x (b := (k : Int)) (by omega)
  have e1 : x % (k : Int) = x.emod k := rfl
  split <;> split <;> omega
set_option maxHeartbeats 4000000 in
theorem few_mod (x : Int) (k : Nat) (hk : 0 < k) (hk2 : k < 1000000) (w : World) : Calls Tryd.prog 20 #[.int .i64 x, .int .i64 k] w fun en w' => en = .returned (.int .i64 (x.emod k)) ∧ w' = w := by
  have mixed := Tryd.mixed
  have c1 : ¬ ((k : Int) < 1) := by omega
  have h0 := Int.emod_nonneg x (b := (k : Int)) (by omega)
  have h1 := Int.emod_lt_of_pos x (b := (k : Int)) (by omega)
  have he := few_emod x k hk
  go_enter Tryd.func20, Tryd.ntmps20
  go_wp2
  · go_ret
    rename_i hlt
    rw [if_pos hlt] at he
    refine ⟨?_, rfl⟩
    rw [he]
    have e1 : x.emod (k : Int) = x % (k : Int) := rfl
    have e2 := IntWalk.wrap64_in (x.emod (k : Int)) (by omega)
    rw [e2]
    rfl
  · go_ret
    rename_i hlt
    rw [if_neg (by omega)] at he
    refine ⟨?_, rfl⟩
    rw [he]
    rfl
end Go.Proofs.YtpgbihleidcdkaaDoor
