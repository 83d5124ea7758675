import Derived.Test.YtogdglnaagkaaaaGreatDoorLs
import Derived.Test.YtogdglnaagkaaaaGreatDoorGs
import Derived.Lib.Walk
import Derived.Lib.ItoaMem
import Derived.WalkKit
import Derived.BigCall
import Derived.BigGuard
set_option linter.unusedSimpArgs false
set_option linter.unusedVariables false
namespace Go.Proofs.YtogdglnaagkaaaaGreatDoor
open Go Go.Cx Go.Shelf Go.RowKit Go.Sort Go.Lib Go.Proofs
abbrev u8v:UInt8->Value:=fun b=>Value.int .u8 (b.toNat:Int)
theorem row_zero(w:World)(T:TypeId)(nd:Nat)(hs:nd<=24):Holds u8v (w.alloc (.cells Lib.zeros24 T)) w.heap.size 0 (Array.replicate nd (0:UInt8)):=fun j hj=>by
 have hj':j<nd:=by simpa using hj
 refine⟨?_,World.frozen?_alloc_new _ _ _ _⟩;rw[World.cell?_alloc_new,Lib.zeros24_at _ (by omega),getElem!_pos _ j hj];simp
theorem row_fin(w:World)(o:Obj)(dk:Array UInt8)(k:Nat):∃os,(putRow u8v (w.alloc o) w.heap.size 0 dk).drewN k=grow (w.drewN k) os:=by
 rw[alloc_eq_grow];obtain⟨os',_,e⟩:=putRow_grow_new u8v w #[o] w.heap.size 0 dk (Nat.le_refl _);exact⟨os',by rw[e];rfl⟩
set_option maxHeartbeats 6400000 in
set_option maxRecDepth 100000 in
theorem fmtU_in(u:Nat)(hu64:u<18446744073709551616)(w:World)(htab:Lib.TabIs Tryz.prog w "internal/strconv.uint64pow10" .u64 Lib.pow10Tab):
  Calls Tryz.prog 79 #[.int .u64 u,.int .i64 10] w fun e w'=>e=.returned (.string ⟨(Lib.decDigits u).toArray⟩)/\∃k os,w'=grow (w.drewN k) os:=by
 have e283:∀args w,(callFunc 95 args).run Tryz.prog w=.ok (.enter 95 args) w:=enters_of Tryz.func95 (by kernel_rfl) rfl;have e284:∀args w,(callFunc 96 args).run Tryz.prog w=.ok (.enter 96 args) w:=enters_of Tryz.func96 (by kernel_rfl) rfl;have e285:∀args w,(callFunc 97 args).run Tryz.prog w=.ok (.enter 97 args) w:=enters_of Tryz.func97 (by kernel_rfl) rfl;by_cases hs:u<100
 ·have hwr:IntKind.i64.wrap (u:Int)=(u:Int):=by rw[IntKind.wrap_i64];omega
  go_enter Tryz.func79,Tryz.ntmps79
  go_wp2_with (go_at_fn 95;refine(Any.internal_strconv_small { lays246 with } u hs _).mono ?_;rintro e w' ⟨rfl,rfl⟩)
  go_ret
  exact⟨rfl,0, #[],by simp[World.drewN_zero]⟩
 ·have hu1:1<=u:=by omega
  have hnd20:Lib.nDigits u<=20:=by have:=Lib.numDigits_eq u hu1 hu64;split at this<;>omega
  have hal:Tryz.prog.arrayLen 139=24:=by kernel_rfl
  have hsl1:∀W,(Instr.sliceAt 139 (.pointer (some ⟨w.heap.size,0,none⟩)) none (some (.int .i64 (Lib.nDigits u:Int))) none).run Tryz.prog W=.ok (.slice (some ⟨w.heap.size,0,none⟩) (Lib.nDigits u) 24) W:=fun W=>by
   rw[run_sliceAt_array_h W 139 ⟨w.heap.size,0,none⟩ (by simp[Program.arrayLen,Program.elem,Tryz.underlying139]) .i64 (Lib.nDigits u:Int) (by omega) (by rw[hal];omega)]
   go_simp
  have hH0:=row_zero w 139 (Lib.nDigits u) (by omega);have hfmt:=Any.internal_strconv_formatBase10 (P:=Tryz.prog) (ρ := renF) { lays246 with } w.heap.size 0 24 u (Array.replicate (Lib.nDigits u) 0) (w.alloc (.cells Lib.zeros24 139)) hH0 (by rw[Array.size_replicate];exact Lib.lt_pow_nDigits u) hu64 (by rw[Array.size_replicate];omega);rw[Array.size_replicate]at hfmt;have HH0:=Lib.hid hH0;clear hH0 hal
  go_enter Tryz.func79,Tryz.ntmps79
  go_wp2_with (first
   |(go_at_fn 96;refine(Any.internal_strconv_numDigits (P:=Tryz.prog) (ρ := renF) { lays246 with } u hu1 hu64 _ (Lib.tabIs_alloc htab _)).mono ?_;rintro e w' ⟨rfl,rfl⟩))
  go_at_fn 97
  refine hfmt.mono ?_;rintro e w' ⟨rfl,k,v',dk,rfl,hF⟩;have hcv:(convert 72 9 (.slice (some ⟨w.heap.size,0,none⟩) (Lib.nDigits u) 24)).run Tryz.prog ((putRow u8v (w.alloc (.cells Lib.zeros24 139)) w.heap.size 0 dk).drewN k)=.ok (.string ⟨(Lib.decDigits u).toArray⟩) ((putRow u8v (w.alloc (.cells Lib.zeros24 139)) w.heap.size 0 dk).drewN k):=by
   have h:=run_convert_bytes_back (P:=Tryz.prog) ((putRow u8v (w.alloc (.cells Lib.zeros24 139)) w.heap.size 0 dk).drewN k) 72 9 5 ⟨w.heap.size,0,none⟩ 24 (Lib.decDigits u) Tryz.underlying72 Tryz.underlying5 Tryz.underlying9 (fun j hj=>by
    rw[Lib.row_is_numeral hF j hj,Lib.add_plain,World.cell?_drewN];exact cell?_putRow u8v _ w.heap.size 0 _ dk HH0.out (by rw[hF.size,Array.size_replicate]) j (by rw[hF.size];rw[Lib.decDigits_length]at hj;exact hj))
   rw[Lib.decDigits_length]at h;exact h
  go_wp2
  go_ret
  obtain⟨os,eo⟩:=row_fin w (.cells Lib.zeros24 139) dk k;exact⟨rfl,k,os,eo⟩
theorem fmtuC_ok:zgD Tryz.prog 79 (zvR 2):=by
 intro m args v h;refine⟨fun l w=>zaO Tryz.func79 rfl (by kernel_rfl) l w,fun e vs w has hm hgl=>?_⟩;unfold zvR at h;split at h
 ·rename_i n;split at h
  ·rename_i hb;cases h;simp only[ya2,decide_eq_true_eq]at hb;obtain⟨⟨h0,h1⟩,ht⟩:=hb;obtain⟨x,rfl⟩:∃x:Nat,n=x:=⟨n.toNat,by omega⟩
   obtain⟨a,b,k1,k2,rfl⟩:=zmu has;cases k1;cases k2;refine(fmtU_in x (by omega) w (zrL hm (by kernel_rfl) ht hgl (by decide))).mono fun en w' ⟨q1,k,os,q2⟩=>⟨⟨e,_,fun _ _=>rfl,rfl,?_⟩,?_⟩
   ·rw[q1,zsr];rfl
   ·rw[q2];exact zk4 w k os
  ·cases h
 ·cases h
end Go.Proofs.YtogdglnaagkaaaaGreatDoor
