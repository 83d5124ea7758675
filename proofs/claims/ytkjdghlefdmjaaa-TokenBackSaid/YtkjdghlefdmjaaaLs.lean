import Derived.Test.YtkjdghlefdmjaaaSx
import Derived.Test.YtkjdghlefdmjaaaChecked
import Derived.KernelRfl
set_option linter.unusedSimpArgs false
set_option linter.unusedVariables false
set_option maxRecDepth 1000000
namespace Go.Proofs.Ytkjdghlefdmjaaa
open Go Go.Cx Go.Shelf Go.Proofs
def ren : Ren where
 f := fun x => match x with
  | 156 => 13
  | 165 => 19
  | 166 => 20
  | 169 => 21
  | 240 => 25
  | 241 => 26
  | 276 => 29
  | 277 => 30
  | n => n
 t := fun x => match x with
  | 31 => 41
  | 9 => 9
  | 3 => 3
  | 4 => 4
  | 0 => 0
  | 20 => 20
  | 72 => 56
  | 76 => 60
  | 70 => 53
  | 37 => 54
  | 75 => 59
  | 127 => 65
  | 164 => 69
  | 5 => 5
  | 80 => 62
  | n => n
 g := fun x => x
theorem lays156 : Lays.n156 Try.prog ren where
 mixed := by kernel_rfl
 f156 := Try.func13.trans (congrArg some (by kernel_rfl))
 f165 := Try.func19.trans (congrArg some (by kernel_rfl))
 f166 := Try.func20.trans (congrArg some (by kernel_rfl))
 f169 := Try.func21.trans (congrArg some (by kernel_rfl))
 f240 := Try.func25.trans (congrArg some (by kernel_rfl))
 f241 := Try.func26.trans (congrArg some (by kernel_rfl))
 f276 := Try.func29.trans (congrArg some (by kernel_rfl))
 f277 := Try.func30.trans (congrArg some (by kernel_rfl))
 t0 := Try.underlying0
 a0 := Try.isAgg0
 z0 := Try.sizeOf0
 v0 := Try.zeroValue0
 t3 := Try.underlying3
 a3 := Try.isAgg3
 z3 := Try.sizeOf3
 v3 := Try.zeroValue3
 t4 := Try.underlying4
 a4 := Try.isAgg4
 z4 := Try.sizeOf4
 v4 := Try.zeroValue4
 t9 := Try.underlying9
 a9 := Try.isAgg9
 z9 := Try.sizeOf9
 v9 := Try.zeroValue9
 t20 := Try.underlying20
 a20 := Try.isAgg20
 z20 := Try.sizeOf20
 v20 := Try.zeroValue20
 t31 := Try.underlying41
 a31 := Try.isAgg41
 z31 := Try.sizeOf41
 v31 := Try.zeroValue41
 t37 := Try.underlying54
 a37 := Try.isAgg54
 z37 := Try.sizeOf54
 v37 := Try.zeroValue54
 t70 := Try.underlying53
 a70 := Try.isAgg53
 z70 := Try.sizeOf53
 v70 := Try.zeroValue53
 t72 := Try.underlying56
 a72 := Try.isAgg56
 z72 := Try.sizeOf56
 v72 := Try.zeroValue56
 t75 := Try.underlying59
 a75 := Try.isAgg59
 z75 := Try.sizeOf59
 v75 := Try.zeroValue59
 t76 := Try.underlying60
 a76 := Try.isAgg60
 z76 := Try.sizeOf60
 v76 := Try.zeroValue60
 t127 := Try.underlying65
 a127 := Try.isAgg65
 z127 := Try.sizeOf65
 v127 := Try.zeroValue65
 t164 := Try.underlying69
 a164 := Try.isAgg69
 z164 := Try.sizeOf69
 v164 := Try.zeroValue69
theorem layX : Builder.Extra Try.prog ren where
 sizeBuilder := by kernel_rfl
 liesBuilder := by kernel_rfl
 t5 := Try.underlying5
 a5 := Try.isAgg5
 z5 := Try.sizeOf5
 v5 := Try.zeroValue5
 infoByte := by kernel_rfl
 cellsByte := by kernel_rfl
 sizeByte := by kernel_rfl
 neB5 := by decide
noncomputable def strX : Ext := fun f => match Nat.beq f 13 with
 | true => some joinC
 | false => none
theorem strX_ok : ExtOk Try.prog strX := ExtOk0.to <| by
 intro f g hf
 unfold strX at hf
 split at hf
 ·rename_i h
  obtain rfl := Nat.eq_of_beq_eq_true h
  cases hf
  exact joinC_ok (ρ := ren) lays156 layX (fun l w => callFunc_ok Try.func13 rfl (by kernel_rfl) l w)
 ·cases hf
end Go.Proofs.Ytkjdghlefdmjaaa
