import Derived.Test.YtmgibblhcoimfaaDoorAx
import Derived.Test.YtmgibblhcoimfaaDoorLs
import Derived.Test.YtmgibblhcoimfaaDoorGi
import Derived.Test.YtmgibblhcoimfaaDoorFu
set_option linter.unusedSimpArgs false
set_option linter.unusedVariables false
namespace Go.Proofs.YtmgibblhcoimfaaDoor
open Go Go.Cx
theorem ax_mixed:Tryd.prog.follows .mixedOrders=true:=by kernel_rfl
theorem awake_ext{P:Program}{f:FuncId}(hm:P.follows .mixedOrders=true)(he:∀vs w,(callFunc f vs).run P w=.ok (.enter f vs) w)(hr:zir (zAq P (fun _=>none) 1000000 (.call f [] (zhT 64 [])))=true):ziZ P f axT:=by
 intro m args v hv;cases args with
 |cons x r=>cases hv
 |nil=>
  cases hv;refine⟨he,fun e vs w hvs _ _=>?_⟩;have:vs=[]:=by simpa[denL]using hvs.symm
  subst this;exact(zm9 (P:=P) (X:=fun _=>none) (n:=1000000) (f:=f) (l:=[]) (bs:=[]) (k:=64) (W:=w) zDe hm rfl hr (zsd w [])).mono fun en w' ⟨h1,h2⟩=>⟨⟨e,.bool true,fun _ _=>rfl,rfl,h1⟩,h2⟩
theorem aw7:∀f,axA7 f=true->ziZ Tryd.prog f axT:=fun f h=>by cases h
set_option maxRecDepth 1000000 in theorem aw8_run:zir (zAq Tryd.prog (fun _=>none) 1000000 (.call 6 [] (zhT 64 [])))=true:=by kernel_rfl
theorem aw8:∀f,axA8 f=true->ziZ Tryd.prog f axT:=fun f h=>by have h:=yb0 h;subst h;exact awake_ext ax_mixed (fun vs w=>zaR Tryd.func6 rfl (by kernel_rfl) vs w) aw8_run
theorem aw9:∀f,axA9 f=true->ziZ Tryd.prog f axT:=fun f h=>by cases h
theorem axJ_ok:∀f,axJ f=true->ziZ Tryd.prog f znT:=fun f h=>by have h:=yb0 h;subst h;exact Ext1.to (zxb (ρ := ren) lays156 layX (fun l w=>zaR Tryd.func92 rfl (by kernel_rfl) l w))
theorem axP_ok:∀f,axP f=true->ziZ Tryd.prog f axPC:=fun f h=>by cases h
theorem axI_ok:∀f,axI f=true->ziZ Tryd.prog f axIC:=fun f h=>by have h:=yb0 h;subst h;exact zAf (ρ := renF) lays246 (by kernel_rfl) (by decide) (fun l w=>zaR Tryd.func90 rfl (by kernel_rfl) l w)
theorem axU_ok:∀f,axU f=true->ziZ Tryd.prog f axUC:=fun f h=>by have h:=yb0 h;subst h;exact fmtuC_ok
theorem axZ_ok:∀f,axZ f=true->ziZ Tryd.prog f axZC:=fun f h=>by have h:=yb0 h;subst h;exact zA8 (ρ := renZ) lays29 (by decide) (fun l w=>zaR Tryd.func101 rfl (by kernel_rfl) l w)
theorem ax_ok:zpm Tryd.prog axX:=by
 intro f g hf;have hA:∀f,axA f=true->ziZ Tryd.prog f axT:=fun f h=>by
  unfold axA at h;rcases Bool.or_eq_true _ _ ▸ h with h |h
  ·exact aw7 f h
  ·rcases Bool.or_eq_true _ _ ▸ h with h |h
   ·exact aw8 f h
   ·exact aw9 f h
 unfold axX at hf;split at hf
 ·rename_i h;cases hf;exact hA f h
 ·split at hf
  ·rename_i h;cases hf;exact axJ_ok f h
  ·split at hf
   ·rename_i h;cases hf;exact axP_ok f h
   ·split at hf
    ·rename_i h;cases hf;exact axI_ok f h
    ·split at hf
     ·rename_i h;cases hf;exact axU_ok f h
     ·split at hf
      ·rename_i h;cases hf;exact axZ_ok f h
      ·cases hf
end Go.Proofs.YtmgibblhcoimfaaDoor
