import Derived.Test.YteaemnicofpbeaaGreatDoorAx
import Derived.Test.YteaemnicofpbeaaGreatDoorGi
import Derived.Test.YteaemnicofpbeaaGreatDoorLs
set_option linter.unusedSimpArgs false
set_option linter.unusedVariables false
namespace Go.Proofs.YteaemnicofpbeaaGreatDoor
open Go Go.Cx
theorem ax_mixed:Tryz.prog.follows .mixedOrders=true:=by kernel_rfl
theorem awake_ext{P:Program}{f:FuncId}(hm:P.follows .mixedOrders=true)(he:∀vs w,(callFunc f vs).run P w=.ok (.enter f vs) w)(hr:zem (zsD P (fun _=>none) 1000000 (.call f [] (zf0 64 [])))=true):zfF P f axT:=by
 intro m args v hv;cases args with
 |cons x r=>cases hv
 |nil=>
  cases hv;refine⟨he,fun e vs w hvs _ _=>?_⟩;have:vs=[]:=by simpa[denL]using hvs.symm
  subst this;exact(zgl (P:=P) (X:=fun _=>none) (n:=1000000) (f:=f) (l:=[]) (bs:=[]) (k:=64) (W:=w) zxM hm rfl hr (zpY w [])).mono fun en w' ⟨h1,h2⟩=>⟨⟨e,.bool true,fun _ _=>rfl,rfl,h1⟩,h2⟩
theorem aw7:∀f,axA7 f=true->zfF Tryz.prog f axT:=fun f h=>by cases h
theorem aw8:∀f,axA8 f=true->zfF Tryz.prog f axT:=fun f h=>by cases h
theorem aw9:∀f,axA9 f=true->zfF Tryz.prog f axT:=fun f h=>by cases h
theorem axJ_ok:∀f,axJ f=true->zfF Tryz.prog f zlU:=fun f h=>by have h:=yb0 h;subst h;exact Ext1.to (zsO (ρ := ren) lays156 layX (fun l w=>zaF Tryz.func26 rfl (by kernel_rfl) l w))
theorem axP_ok:∀f,axP f=true->zfF Tryz.prog f axPC:=fun f h=>by cases h
theorem axI_ok:∀f,axI f=true->zfF Tryz.prog f axIC:=fun f h=>by have h:=yb0 h;subst h;exact zvD (ρ := renF) lays246 (by kernel_rfl) (by decide) (fun l w=>zaF Tryz.func46 rfl (by kernel_rfl) l w)
theorem axU_ok:∀f,axU f=true->zfF Tryz.prog f axUC:=fun f h=>by cases h
theorem axZ_ok:∀f,axZ f=true->zfF Tryz.prog f axZC:=fun f h=>by have h:=yb0 h;subst h;exact zwr (ρ := renZ) lays29 (by decide) (fun l w=>zaF Tryz.func102 rfl (by kernel_rfl) l w)
def numC:CV->Bool
 |.int _ _=>true
 |.str _=>true
 |_=>false
theorem denL_num{e e':Env}:∀{cs:List CV},(cs.all numC)=true->denL e cs=denL e' cs
 |[],_=>rfl
 |x::r,h=>by
  rw[List.all_cons,ya2]at h;have h1:den e x=den e' x:=by
   cases x<;>first |rfl |(exfalso;cases h.1)
  rw[denL,denL,h1,denL_num (e:=e) (e':=e') h.2]
theorem axF_num:(axF.all fun p=>Nat.ble (p.1+1) 64&&(p.2.all one&&p.2.all numC))=true:=by kernel_rfl
theorem rowsF_ok{e:Env}{m:Mem}{w:World}(hm:Mok e m w)(he:∀g,g<64->e g=some ⟨g,0,0,0⟩)(h:(axF.all fun p=>zp6 m p.1 p.2)=true):RowsOk w [] axF:=fun g cs hmem=>by
 have h1:=List.all_eq_true.1 h (g,cs) hmem;have h2:=List.all_eq_true.1 axF_num (g,cs) hmem;simp only[ya2]at h2;obtain⟨hg,hone,hnum⟩:=h2;have hg:g<64:=ya9 hg;unfold zp6 at h1;obtain⟨o,k1,k2⟩:=Option.bind_eq_some_iff.1 (@of_decide_eq_true _ (Classical.propDecidable _) h1);obtain⟨vs,ty,fr,k3,k4⟩:=zua hm k1 k2 (he g hg) hg;exact⟨hg,hone,vs,ty,fr,by rw[denL_num (e':=e) hnum];exact k3,k4⟩
noncomputable def kX:Ext:=fun f=>match axJ f with
 |true=>some zlU
 |false=>none
theorem kX_ok:zkz Tryz.prog kX:=by
 intro f g hf;unfold kX at hf;split at hf
 ·rename_i h;cases hf;exact axJ_ok f h
 ·cases hf
theorem known_ext{P:Program}{X:Ext}(hX:zkz P X){f:FuncId}(hm:P.follows .mixedOrders=true)(he:∀vs w,(callFunc f vs).run P w=.ok (.enter f vs) w)(hr:zem (zsD P X 1000000 (.call f [] (zf0 64 axF)))=true):zfF P f axKC:=by
 intro m args v hv;cases args with
 |cons x r=>cases hv
 |nil=>
  unfold axKC at hv;simp only at hv;split at hv
  ·rename_i hb;cases hv;refine⟨he,fun e vs w hvs hmm hgl=>?_⟩;have:vs=[]:=by simpa[denL]using hvs.symm
   subst this;exact(zgl (P:=P) (X:=X) (n:=1000000) (f:=f) (l:=axF) (bs:=[]) (k:=64) (W:=w) hX hm rfl hr (rowsF_ok hmm hgl hb)).mono fun en w' ⟨h1,h2⟩=>⟨⟨e,.bool true,fun _ _=>rfl,rfl,h1⟩,h2⟩
  ·cases hv
theorem ak10:∀f,axK10 f=true->zfF Tryz.prog f axKC:=fun f h=>by cases h
set_option maxRecDepth 1000000 in theorem ak12_run:zem (zsD Tryz.prog kX 1000000 (.call 5 [] (zf0 64 axF)))=true:=by kernel_rfl
theorem ak12:∀f,axK12 f=true->zfF Tryz.prog f axKC:=fun f h=>by have h:=yb0 h;subst h;exact known_ext kX_ok ax_mixed (fun vs w=>zaF Tryz.func5 rfl (by kernel_rfl) vs w) ak12_run
theorem axK_ok:∀f,axK f=true->zfF Tryz.prog f axKC:=fun f h=>by
 unfold axK at h;rcases Bool.or_eq_true _ _ ▸ h with h |h
 ·exact ak10 f h
 ·exact ak12 f h
theorem ax_ok:zkz Tryz.prog axX:=by
 intro f g hf;have hA:∀f,axA f=true->zfF Tryz.prog f axT:=fun f h=>by
  unfold axA at h;rcases Bool.or_eq_true _ _ ▸ h with h |h
  ·exact aw7 f h
  ·rcases Bool.or_eq_true _ _ ▸ h with h |h
   ·exact aw8 f h
   ·exact aw9 f h
 unfold axX at hf;split at hf
 ·rename_i h;cases hf;exact hA f h
 ·split at hf
  ·rename_i h;cases hf;exact axJ_ok f h
  ·split at hf
   ·rename_i h;cases hf;exact axP_ok f h
   ·split at hf
    ·rename_i h;cases hf;exact axI_ok f h
    ·split at hf
     ·rename_i h;cases hf;exact axU_ok f h
     ·split at hf
      ·rename_i h;cases hf;exact axZ_ok f h
      ·split at hf
       ·rename_i h;cases hf;exact axK_ok f h
       ·cases hf
end Go.Proofs.YteaemnicofpbeaaGreatDoor
