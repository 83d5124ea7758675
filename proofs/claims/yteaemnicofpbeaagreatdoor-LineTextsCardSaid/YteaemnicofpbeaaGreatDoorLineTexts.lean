import Derived.Test.YteaemnicofpbeaaGreatDoorMf
import Derived.Test.YteaemnicofpbeaaGreatDoorMo
import Derived.Test.YteaemnicofpbeaaGreatDoorAw
import Derived.Test.YteaemnicofpbeaaGreatDoorGh
import Derived.Test.YteaemnicofpbeaaGreatDoorCards
import Derived.Test.YteaemnicofpbeaaGreatDoorTie
import Derived.ProofKit
import Derived.LaidLaws
import Derived.Handed
import Derived.SevenTiedAt
set_option linter.unusedSimpArgs false
set_option linter.unusedVariables false
namespace Go.Proofs.YteaemnicofpbeaaGreatDoor
open Go Go.Cx Go.ChangeShapes Go.WideShapes Go.ChangeAt Go.RowKit
open Go.ChangeMaps (open_string shut_string)
theorem Tryz.own:ownKnob Tryz.prog.godebug=none:=by kernel_rfl
theorem law_orders:Tryz.prog.follows .mixedOrders=true:=by kernel_rfl
theorem law_laid:laidOutB Tryz.prog=true:=by kernel_rfl
theorem law_rows:mapsRowed Tryz.prog=true:=by kernel_rfl
theorem law_full:((List.range Tryz.prog.types.size).all fun t=>match Tryz.prog.underlying t with |some (.slice e)=>decide (0<Tryz.prog.cellsOf e) |_=>true)=true:=by kernel_rfl
theorem law_tys:zr3 Tryz.prog [24,22,38,33,3,4,9]=true:=by kernel_rfl
theorem law_rowsL{W:World}(h:laidMet Tryz.prog Rows.lineTextsRow.laid W):∃L0:FWs,FwOk W L0/\zlQ W L0 axG:=by
 obtain⟨vsB,tyB,frB,h1B,h2B⟩:=znT (bs:=([]:FWs).map (·.1)) (ik:=.u8) (zs:=(Lib.deBruijn64tab.map fun z=>((z:Nat):Int))) (P:=Tryz.prog) (n := "math/bits.deBruijn64tab") (t:=178) (e:=5) (k:=64) (by kernel_rfl) (by kernel_rfl) (by kernel_rfl) (by kernel_rfl) (by kernel_rfl) (by kernel_rfl) (Lib.laidMet.reads h (.tail _ (.head _)));obtain⟨vsR,tyR,frR,h1R,h2R⟩:=znT (bs:=([]:FWs).map (·.1)) (ik:=.u64) (zs:=Lib.pow10Tab) (P:=Tryz.prog) (n := "internal/strconv.uint64pow10") (t:=133) (e:=40) (k:=20) (by kernel_rfl) (by kernel_rfl) (by kernel_rfl) (by kernel_rfl) (by kernel_rfl) (by kernel_rfl) (Lib.laidMet.reads h (.tail _ (.tail _ (.head _))));obtain⟨vsN,tyN,frN,h1N,h2N⟩:=zmZ (ss:=[[99,111,117,110,116],[115,117,109],[109,105,110],[109,97,120],[102,105,114,115,116],[108,97,115,116]]) (bs:=[]) (P:=Tryz.prog) (n := "partywall/ast.names") (t:=182) (e:=9) (k:=6) (by kernel_rfl) (by kernel_rfl) (by kernel_rfl) (by kernel_rfl) (by kernel_rfl) (by kernel_rfl) (Lib.laidMet.reads h (.tail _ (.tail _ (.tail _ (.head _)))));exact⟨[],fun i p hp=>by simp at hp,zgc (by decide) (by kernel_rfl) (by decide) ⟨vsN,tyN,frN,(by simp only[denL,den]at h1N ⊢;exact h1N),h2N⟩ (zgc (by decide) (by kernel_rfl) (by decide) ⟨vsR,tyR,frR,h1R,h2R⟩ (zgc (by decide) (by kernel_rfl) (by decide) ⟨vsB,tyB,frB,h1B,h2B⟩ (zsf)))⟩
noncomputable def laidW(os:Os):World:=
 let w0:=World.holding Tryz.prog os ⟨#[], #[],[]⟩
 let h0:=w0.heap
 let h1:=h0.modify 2 fun
  |.cells _ t frozen=>.cells #[.int .u8 0,.int .u8 1,.int .u8 28,.int .u8 2,.int .u8 29,.int .u8 14,.int .u8 24,.int .u8 3,.int .u8 30,.int .u8 22,.int .u8 20,.int .u8 15,.int .u8 25,.int .u8 17,.int .u8 4,.int .u8 8,.int .u8 31,.int .u8 27,.int .u8 13,.int .u8 23,.int .u8 21,.int .u8 19,.int .u8 16,.int .u8 7,.int .u8 26,.int .u8 12,.int .u8 18,.int .u8 6,.int .u8 11,.int .u8 5,.int .u8 10,.int .u8 9] t frozen
  |o=>o
 let h2:=h1.modify 3 fun
  |.cells _ t frozen=>.cells #[.int .u8 0,.int .u8 1,.int .u8 56,.int .u8 2,.int .u8 57,.int .u8 49,.int .u8 28,.int .u8 3,.int .u8 61,.int .u8 58,.int .u8 42,.int .u8 50,.int .u8 38,.int .u8 29,.int .u8 17,.int .u8 4,.int .u8 62,.int .u8 47,.int .u8 59,.int .u8 36,.int .u8 45,.int .u8 43,.int .u8 51,.int .u8 22,.int .u8 53,.int .u8 39,.int .u8 33,.int .u8 30,.int .u8 24,.int .u8 18,.int .u8 12,.int .u8 5,.int .u8 63,.int .u8 55,.int .u8 48,.int .u8 27,.int .u8 60,.int .u8 41,.int .u8 37,.int .u8 16,.int .u8 46,.int .u8 35,.int .u8 44,.int .u8 21,.int .u8 52,.int .u8 32,.int .u8 23,.int .u8 11,.int .u8 54,.int .u8 26,.int .u8 40,.int .u8 15,.int .u8 34,.int .u8 20,.int .u8 31,.int .u8 10,.int .u8 25,.int .u8 14,.int .u8 19,.int .u8 9,.int .u8 13,.int .u8 8,.int .u8 7,.int .u8 6] t frozen
  |o=>o
 let h3:=h2.modify 0 fun
  |.cells _ t frozen=>.cells #[.int .u64 1,.int .u64 10,.int .u64 100,.int .u64 1000,.int .u64 10000,.int .u64 100000,.int .u64 1000000,.int .u64 10000000,.int .u64 100000000,.int .u64 1000000000,.int .u64 10000000000,.int .u64 100000000000,.int .u64 1000000000000,.int .u64 10000000000000,.int .u64 100000000000000,.int .u64 1000000000000000,.int .u64 10000000000000000,.int .u64 100000000000000000,.int .u64 1000000000000000000,.int .u64 10000000000000000000] t frozen
  |o=>o
 let h4:=h3.modify 4 fun
  |.cells _ t frozen=>.cells #[.string ⟨#[99,111,117,110,116]⟩,.string ⟨#[115,117,109]⟩,.string ⟨#[109,105,110]⟩,.string ⟨#[109,97,120]⟩,.string ⟨#[102,105,114,115,116]⟩,.string ⟨#[108,97,115,116]⟩] t frozen
  |o=>o
 { w0 with heap:=h4 }
theorem laidW_met(os:Os)(args:Array Value):laidMet Tryz.prog Rows.lineTextsRow.laid ((laidW os).forCall (fun _ _=>0) ⟨#[],args,[]⟩).memory:=
 laidMet_of_run' 8 (by kernel_rfl) (by kernel_rfl)
set_option maxHeartbeats 4000000 in
set_option maxRecDepth 100000 in
theorem lineTexts_witness(os:Os)(H:Type)(enc:TypeId×Value->H):∃(w:World) (tape:Tape) (i:Input),w.os=os/\(w.forCall tape i).Shaped Tryz.checked.prog/\i.vars=[]/\Input.okWide Tryz.checked.prog (w.forCall tape i) .any w.heap.size 3 i /\
   ((Rows.lineTextsSpec.pre enc Tryz.checked.prog Tryz.f3 Rows.lineTextsRow.domain false (w.forCall tape i).memory i.args/\laidMet Tryz.prog Rows.lineTextsRow.laid (w.forCall tape i).memory)/\sizedMet enc Tryz.checked.prog Tryz.f3 (OpenSpec.ofChange Rows.lineTextsSpec) false (w.forCall tape i).memory i.args)/\({ modest:=false }:Assume).holds Tryz.checked.prog (lone (Frame.enter Tryz.checked.prog 3 i.args .normal) [] (w.forCall tape i)):=
 (ChangeSpec.witness_at (s:=Rows.lineTextsSpec) (conds:=Rows.lineTextsRow.domain) (fn:=Tryz.f3) (f:=3) (enc:=enc) (C:=Tryz.checked) (os:=os) (X:=fun w _=>laidMet Tryz.prog Rows.lineTextsRow.laid w) false (laidW os) #[.agg #[.slice none 0 0],.int .i64 0] 8 rfl (by kernel_rfl) (by kernel_rfl) (by kernel_rfl) (by kernel_rfl) (by kernel_rfl) (laidW_met os _))
set_option maxHeartbeats 4000000 in
set_option maxRecDepth 100000 in
theorem lineTexts_lifted(os:Os)(started:os.Started)(H:Type)(enc:TypeId×Value->H):
  ReturnsInHanded {} Tryz.checked os 3 .any (fun w args=>(Rows.lineTextsSpec.pre enc Tryz.prog Tryz.f3 Rows.lineTextsRow.domain false w args/\laidMet Tryz.prog Rows.lineTextsRow.laid w)/\sizedMet enc Tryz.prog Tryz.f3 (OpenSpec.ofChange Rows.lineTextsSpec) false w args)
   (Rows.lineTextsSpec.post enc Tryz.prog Tryz.f3 false true false false):=by
 refine returnsInHanded_of_change_and (C:=Tryz.checked) (X:=fun w _=>laidMet Tryz.prog Rows.lineTextsRow.laid w) (fun _ _ _ hh h=>h.of_heap hh) Tryz.own started (by kernel_rfl) Tryz.func3
  (lineTexts_witness os H enc) ?_
 intro W base args ds gs before hval0 hW _ _ hLd _;have hval:∀(j:Nat) t v,Tryz.f3.params[j]? = some t->args[j]? = some v->Value.okWide Tryz.prog W .any base t v:=hval0;have hW':=hW;obtain⟨p,q,hA0,hV,rfl,hfz,hnd⟩:=hW;have hA:DataW.TrodAll enc Tryz.prog W 0 (fun _=>true) true Tryz.f3.params.toList args.toList ds p:=hA0;rw[Tryz.params3]at hA hval;obtain⟨v0,v1,d0,d1,p0,p1,rfl,rfl,rfl,h0,h1⟩:=trodAll_two hA;obtain⟨rfl,rfl⟩:=trodVars_none hV;obtain⟨cs0,rfl,hsz0⟩:=okWide_struct Tryz.underlying24 (hval 0 24 v0 rfl rfl);obtain⟨x1,rfl,rfl,rfl,w1⟩:=open_int Tryz.underlying3 (hval 1 3 v1 rfl rfl) h1;clear hA0 hval0;simp only[yc2]at hW';obtain⟨L0,hF0,hR0⟩:=law_rowsL hLd;obtain⟨fuel0,h0⟩:=h0;obtain⟨hwf0,hop0⟩:=zpW law_tys fuel0 24 _ d0 p0 rfl h0;obtain⟨K0,xs0,hK0,hd0,hone0,hr0⟩:=hop0 _ hF0;have hR0:=zpT (L':=K0) hR0;obtain⟨c0,hs0,hn0⟩:=zrj fuel0 d0 hwf0;have hcall:=zsK (P:=Tryz.prog) (W:=W) (X:=axX) (l:=axG) ax_ok law_orders hR0 (f:=3) (args:=[.agg (svD Tryz.prog fuel0 24 d0),ai x1]) (xs:=[.agg xs0,.int .i64 x1]) (vs:=[.agg cs0,.int .i64 x1]) hK0
  (.cons (.agg hr0) (.cons (.cv rfl) (.nil))) (zs3 hd0 (zsG (rfl))) ((zmI c0 hn0 x1).arg (.cons (.agg hs0) (.cons (.refl _) (.nil))))
 refine hcall.mono fun e W' ⟨he,hw⟩=>?_
 subst he;exact⟨_,rfl,zte hW' rfl rfl law_laid law_rows law_full (by rw[Tryz.params3];decide +kernel) ⟨rfl,rfl,rfl⟩ rfl Tryz.underlying4 hw⟩
theorem lineTexts_row:Rows.LineTextsSaid:=
 OpenClaim.holds_of_wide 3 Tryz.f3 rfl rfl rfl rfl rfl rfl rfl ⟨rfl,rfl,rfl,rfl,rfl⟩ rfl rfl rfl rfl rfl (by kernel_rfl) Tryz.func3 (by kernel_rfl)
  (of_decide_eq_true (by kernel_rfl)) (by unfold Func.isWrapper;first |(rw[if_pos (by decide +kernel)];kernel_rfl) |(rw[if_neg (by decide +kernel)];exact⟨rfl,rfl⟩))
  (fun os started H enc _=>lineTexts_lifted os started H enc)
theorem law_noStand_i64:Tryz.pinned.checked.prog.wantsStandIn 3=false:=by kernel_rfl
theorem law_noStand_line:Tryz.pinned.checked.prog.wantsStandIn 24=false:=by kernel_rfl
theorem lineTexts_card:Rows.LineTextsCardSaid:=
 Claim7.holds_tied_plain_at .later [] [.data,.data,.data,.widerDeep] true (true, "152245159bf56d09932f06d24fcd994b0ba61cc3e4a7cb01e258f201186e0063") false
  lineTexts_row (fun _ h=>by cases h) (by kernel_rfl) (fun _ h=>by cases h) lineTexts_row_tie rfl ⟨rfl,rfl⟩ (by kernel_rfl) rfl
  (fun f fn hf hfn=>by
   obtain rfl:f=3:=Option.some.inj ((show Tryz.prog.funcNamed "partywall/partywalllaw12.LineTexts" = some 3 by kernel_rfl).symm.trans hf) |>.symm
   obtain rfl:fn=Tryz.f3:=(Option.some.inj (Tryz.func3.symm.trans hfn)).symm;exact⟨by kernel_rfl,fun j t ht=>by
    rw[Tryz.params3]at ht
    match j,ht with
    |0,ht=>
     have ht3:t=24:=by simpa using ht.symm
     subst ht3;exact law_noStand_line
    |1,ht=>
     have ht3:t=3:=by simpa using ht.symm
     subst ht3;exact law_noStand_i64
    |n+2,ht=>simp at ht⟩)
  (by kernel_rfl)
#print axioms lineTexts_card
end Go.Proofs.YteaemnicofpbeaaGreatDoor
