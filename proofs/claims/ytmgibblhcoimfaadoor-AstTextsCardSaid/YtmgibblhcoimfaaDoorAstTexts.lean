import Derived.Test.YtmgibblhcoimfaaDoorUd
import Derived.Test.YtmgibblhcoimfaaDoorAv
import Derived.Test.YtmgibblhcoimfaaDoorAw
import Derived.Test.YtmgibblhcoimfaaDoorGh
import Derived.Test.YtmgibblhcoimfaaDoorCards
import Derived.Test.YtmgibblhcoimfaaDoorTie
import Derived.ProofKit
import Derived.LaidLaws
import Derived.Handed
import Derived.SevenTiedAt
set_option linter.unusedSimpArgs false
set_option linter.unusedVariables false
namespace Go.Proofs.YtmgibblhcoimfaaDoor
open Go Go.Cx Go.ChangeShapes Go.WideShapes Go.ChangeAt Go.RowKit
open Go.ChangeMaps (open_string shut_string)
theorem Tryd.own:ownKnob Tryd.prog.godebug=none:=by kernel_rfl
theorem law_orders:Tryd.prog.follows .mixedOrders=true:=by kernel_rfl
theorem law_laid:laidOutB Tryd.prog=true:=by kernel_rfl
theorem law_rows:mapsRowed Tryd.prog=true:=by kernel_rfl
theorem law_full:((List.range Tryd.prog.types.size).all fun t=>match Tryd.prog.underlying t with |some (.slice e)=>decide (0<Tryd.prog.cellsOf e) |_=>true)=true:=by kernel_rfl
theorem law_tys:zvE Tryd.prog [32,28,29,30,53,49,25,26,23,51,3,4,9,22,2]=true:=by kernel_rfl
theorem law_rowsL{W:World}(h:laidMet Tryd.prog Rows.astTextsRow.laid W):∃L0:FWs,FwOk W L0/\zna W L0 axG:=by
 obtain⟨vsB,tyB,frB,h1B,h2B⟩:=zrJ (bs:=([]:FWs).map (·.1)) (ik:=.u8) (zs:=(Lib.deBruijn64tab.map fun z=>((z:Nat):Int))) (P:=Tryd.prog) (n := "math/bits.deBruijn64tab") (t:=144) (e:=5) (k:=64) (by kernel_rfl) (by kernel_rfl) (by kernel_rfl) (by kernel_rfl) (by kernel_rfl) (by kernel_rfl) (Lib.laidMet.reads h (.tail _ (.head _)));obtain⟨vsR,tyR,frR,h1R,h2R⟩:=zrJ (bs:=([]:FWs).map (·.1)) (ik:=.u64) (zs:=Lib.pow10Tab) (P:=Tryd.prog) (n := "internal/strconv.uint64pow10") (t:=138) (e:=22) (k:=20) (by kernel_rfl) (by kernel_rfl) (by kernel_rfl) (by kernel_rfl) (by kernel_rfl) (by kernel_rfl) (Lib.laidMet.reads h (.tail _ (.tail _ (.head _))));obtain⟨vsO,tyO,frO,h1O,h2O⟩:=zjs (ss:=[[],[61],[33,61],[60],[60,61],[62],[62,61]]) (bs:=[]) (P:=Tryd.prog) (n := "partywall/ast.ops") (t:=117) (e:=9) (k:=7) (by kernel_rfl) (by kernel_rfl) (by kernel_rfl) (by kernel_rfl) (by kernel_rfl) (by kernel_rfl) (Lib.laidMet.reads h (.tail _ (.tail _ (.tail _ (.tail _ (.head _))))));obtain⟨vsN,tyN,frN,h1N,h2N⟩:=zjs (ss:=[[99,111,117,110,116],[115,117,109],[109,105,110],[109,97,120],[102,105,114,115,116],[108,97,115,116]]) (bs:=[]) (P:=Tryd.prog) (n := "partywall/ast.names") (t:=81) (e:=9) (k:=6) (by kernel_rfl) (by kernel_rfl) (by kernel_rfl) (by kernel_rfl) (by kernel_rfl) (by kernel_rfl) (Lib.laidMet.reads h (.tail _ (.tail _ (.tail _ (.head _)))));exact⟨[],fun i p hp=>by simp at hp,zeY (by decide) (by kernel_rfl) (by decide) ⟨vsN,tyN,frN,(by simp only[denL,den]at h1N ⊢;exact h1N),h2N⟩ (zeY (by decide) (by kernel_rfl) (by decide) ⟨vsO,tyO,frO,(by simp only[denL,den]at h1O ⊢;exact h1O),h2O⟩ (zeY (by decide) (by kernel_rfl) (by decide) ⟨vsR,tyR,frR,h1R,h2R⟩ (zeY (by decide) (by kernel_rfl) (by decide) ⟨vsB,tyB,frB,h1B,h2B⟩ (zs6))))⟩
noncomputable def laidW(os:Os):World:=
 let w0:=World.holding Tryd.prog os ⟨#[], #[],[]⟩
 let h0:=w0.heap
 let h1:=h0.modify 4 fun
  |.cells _ t frozen=>.cells #[.int .u8 0,.int .u8 1,.int .u8 28,.int .u8 2,.int .u8 29,.int .u8 14,.int .u8 24,.int .u8 3,.int .u8 30,.int .u8 22,.int .u8 20,.int .u8 15,.int .u8 25,.int .u8 17,.int .u8 4,.int .u8 8,.int .u8 31,.int .u8 27,.int .u8 13,.int .u8 23,.int .u8 21,.int .u8 19,.int .u8 16,.int .u8 7,.int .u8 26,.int .u8 12,.int .u8 18,.int .u8 6,.int .u8 11,.int .u8 5,.int .u8 10,.int .u8 9] t frozen
  |o=>o
 let h2:=h1.modify 3 fun
  |.cells _ t frozen=>.cells #[.int .u8 0,.int .u8 1,.int .u8 56,.int .u8 2,.int .u8 57,.int .u8 49,.int .u8 28,.int .u8 3,.int .u8 61,.int .u8 58,.int .u8 42,.int .u8 50,.int .u8 38,.int .u8 29,.int .u8 17,.int .u8 4,.int .u8 62,.int .u8 47,.int .u8 59,.int .u8 36,.int .u8 45,.int .u8 43,.int .u8 51,.int .u8 22,.int .u8 53,.int .u8 39,.int .u8 33,.int .u8 30,.int .u8 24,.int .u8 18,.int .u8 12,.int .u8 5,.int .u8 63,.int .u8 55,.int .u8 48,.int .u8 27,.int .u8 60,.int .u8 41,.int .u8 37,.int .u8 16,.int .u8 46,.int .u8 35,.int .u8 44,.int .u8 21,.int .u8 52,.int .u8 32,.int .u8 23,.int .u8 11,.int .u8 54,.int .u8 26,.int .u8 40,.int .u8 15,.int .u8 34,.int .u8 20,.int .u8 31,.int .u8 10,.int .u8 25,.int .u8 14,.int .u8 19,.int .u8 9,.int .u8 13,.int .u8 8,.int .u8 7,.int .u8 6] t frozen
  |o=>o
 let h3:=h2.modify 2 fun
  |.cells _ t frozen=>.cells #[.int .u64 1,.int .u64 10,.int .u64 100,.int .u64 1000,.int .u64 10000,.int .u64 100000,.int .u64 1000000,.int .u64 10000000,.int .u64 100000000,.int .u64 1000000000,.int .u64 10000000000,.int .u64 100000000000,.int .u64 1000000000000,.int .u64 10000000000000,.int .u64 100000000000000,.int .u64 1000000000000000,.int .u64 10000000000000000,.int .u64 100000000000000000,.int .u64 1000000000000000000,.int .u64 10000000000000000000] t frozen
  |o=>o
 let h4:=h3.modify 0 fun
  |.cells _ t frozen=>.cells #[.string ⟨#[99,111,117,110,116]⟩,.string ⟨#[115,117,109]⟩,.string ⟨#[109,105,110]⟩,.string ⟨#[109,97,120]⟩,.string ⟨#[102,105,114,115,116]⟩,.string ⟨#[108,97,115,116]⟩] t frozen
  |o=>o
 let h5:=h4.modify 1 fun
  |.cells _ t frozen=>.cells #[.string ⟨#[]⟩,.string ⟨#[61]⟩,.string ⟨#[33,61]⟩,.string ⟨#[60]⟩,.string ⟨#[60,61]⟩,.string ⟨#[62]⟩,.string ⟨#[62,61]⟩] t frozen
  |o=>o
 { w0 with heap:=h5 }
theorem laidW_met(os:Os)(args:Array Value):laidMet Tryd.prog Rows.astTextsRow.laid ((laidW os).forCall (fun _ _=>0) ⟨#[],args,[]⟩).memory:=
 laidMet_of_run' 8 (by kernel_rfl) (by kernel_rfl)
set_option maxHeartbeats 4000000 in
set_option maxRecDepth 100000 in
theorem astTexts_witness(os:Os)(H:Type)(enc:TypeId×Value->H):∃(w:World) (tape:Tape) (i:Input),w.os=os/\(w.forCall tape i).Shaped Tryd.checked.prog/\i.vars=[]/\Input.okWide Tryd.checked.prog (w.forCall tape i) .any w.heap.size 4 i /\
   ((Rows.astTextsSpec.pre enc Tryd.checked.prog Tryd.f4 Rows.astTextsRow.domain false (w.forCall tape i).memory i.args/\laidMet Tryd.prog Rows.astTextsRow.laid (w.forCall tape i).memory)/\sizedMet enc Tryd.checked.prog Tryd.f4 (OpenSpec.ofChange Rows.astTextsSpec) false (w.forCall tape i).memory i.args)/\({ modest:=false }:Assume).holds Tryd.checked.prog (lone (Frame.enter Tryd.checked.prog 4 i.args .normal) [] (w.forCall tape i)):=
 (ChangeSpec.witness_at (s:=Rows.astTextsSpec) (conds:=Rows.astTextsRow.domain) (fn:=Tryd.f4) (f:=4) (enc:=enc) (C:=Tryd.checked) (os:=os) (X:=fun w _=>laidMet Tryd.prog Rows.astTextsRow.laid w) false (laidW os) #[.agg #[.int .i64 0,.int .i64 0,.int .i64 0,.int .i64 0,.bool false,.int .u64 0,.slice none 0 0,.string ⟨#[]⟩,.slice none 0 0,.int .u64 0,.slice none 0 0,.slice none 0 0],.agg #[.int .i64 0,.int .i64 0,.int .i64 0,.int .i64 0,.bool false,.int .u64 0,.slice none 0 0,.string ⟨#[]⟩,.slice none 0 0,.int .u64 0,.slice none 0 0,.slice none 0 0]] 8 rfl (by kernel_rfl) (by kernel_rfl) (by kernel_rfl) (by kernel_rfl) (by kernel_rfl) (laidW_met os _))
set_option maxHeartbeats 4000000 in
set_option maxRecDepth 100000 in
theorem astTexts_lifted(os:Os)(started:os.Started)(H:Type)(enc:TypeId×Value->H):
  ReturnsInHanded {} Tryd.checked os 4 .any (fun w args=>(Rows.astTextsSpec.pre enc Tryd.prog Tryd.f4 Rows.astTextsRow.domain false w args/\laidMet Tryd.prog Rows.astTextsRow.laid w)/\sizedMet enc Tryd.prog Tryd.f4 (OpenSpec.ofChange Rows.astTextsSpec) false w args)
   (Rows.astTextsSpec.post enc Tryd.prog Tryd.f4 false true false false):=by
 refine returnsInHanded_of_change_and (C:=Tryd.checked) (X:=fun w _=>laidMet Tryd.prog Rows.astTextsRow.laid w) (fun _ _ _ hh h=>h.of_heap hh) Tryd.own started (by kernel_rfl) Tryd.func4
  (astTexts_witness os H enc) ?_
 intro W base args ds gs before hval0 hW _ _ hLd _;have hval:∀(j:Nat) t v,Tryd.f4.params[j]? = some t->args[j]? = some v->Value.okWide Tryd.prog W .any base t v:=hval0;have hW':=hW;obtain⟨p,q,hA0,hV,rfl,hfz,hnd⟩:=hW;have hA:DataW.TrodAll enc Tryd.prog W 0 (fun _=>true) true Tryd.f4.params.toList args.toList ds p:=hA0;rw[Tryd.params4]at hA hval;obtain⟨v0,v1,d0,d1,p0,p1,rfl,rfl,rfl,h0,h1⟩:=trodAll_two hA;obtain⟨rfl,rfl⟩:=trodVars_none hV;obtain⟨cs0,rfl,hsz0⟩:=okWide_struct Tryd.underlying32 (hval 0 32 v0 rfl rfl);obtain⟨cs1,rfl,hsz1⟩:=okWide_struct Tryd.underlying32 (hval 1 32 v1 rfl rfl);clear hA0 hval0;simp only[yc2]at hW';obtain⟨L0,hF0,hR0⟩:=law_rowsL hLd;obtain⟨fuel0,h0⟩:=h0;obtain⟨hwf0,hop0⟩:=zky law_tys fuel0 32 _ d0 p0 rfl h0;obtain⟨K0,xs0,hK0,hd0,hone0,hr0⟩:=hop0 _ hF0;have hR0:=zke (L':=K0) hR0;obtain⟨c0,hs0,hn0⟩:=zjg fuel0 d0 hwf0;obtain⟨fuel1,h1⟩:=h1;obtain⟨hwf1,hop1⟩:=zky law_tys fuel1 32 _ d1 p1 rfl h1;obtain⟨K1,xs1,hK1,hd1,hone1,hr1⟩:=hop1 _ hK0;have hd0:=denL_mono (zg7 _ K1) _ _ hd0;have hr0:=hr0.mono (zt8 _ K1) (DEnv.le.refl _);have hR0:=zke (L':=K1) hR0;obtain⟨c1,hs1,hn1⟩:=zjg fuel1 d1 hwf1;have hcall:=zw0 (P:=Tryd.prog) (W:=W) (X:=axX) (l:=axG) ax_ok law_orders hR0 (f:=4) (args:=[.agg (svD Tryd.prog fuel0 32 d0),.agg (svD Tryd.prog fuel1 32 d1)]) (xs:=[.agg xs0,.agg xs1]) (vs:=[.agg cs0,.agg cs1]) hK1
  (.cons (.agg hr0) (.cons (.agg hr1) (.nil))) (zrR hd0 (zrR hd1 (rfl))) ((zsT c0 c1 hn0 hn1).arg (.cons (.agg hs0) (.cons (.agg hs1) (.nil))))
 refine hcall.mono fun e W' ⟨he,hw⟩=>?_
 subst he;exact⟨_,rfl,zxx hW' rfl rfl law_laid law_rows law_full (by rw[Tryd.params4];decide +kernel) ⟨rfl,rfl,rfl⟩ rfl Tryd.underlying4 hw⟩
theorem astTexts_row:Rows.AstTextsSaid:=
 OpenClaim.holds_of_wide 4 Tryd.f4 rfl rfl rfl rfl rfl rfl rfl ⟨rfl,rfl,rfl,rfl,rfl⟩ rfl rfl rfl rfl rfl (by kernel_rfl) Tryd.func4 (by kernel_rfl)
  (of_decide_eq_true (by kernel_rfl)) (by unfold Func.isWrapper;first |(rw[if_pos (by decide +kernel)];kernel_rfl) |(rw[if_neg (by decide +kernel)];exact⟨rfl,rfl⟩))
  (fun os started H enc _=>astTexts_lifted os started H enc)
theorem law_noStand_qN:Tryd.pinned.checked.prog.wantsStandIn 32=false:=by kernel_rfl
theorem astTexts_card:Rows.AstTextsCardSaid:=
 Claim7.holds_tied_plain_at .later [] [.data,.data,.data,.widerDeep,.data] true (true, "d84249ae611f82519f90b2c5866455861835811112faf262ee4550f16f30ff3d") false
  astTexts_row (fun _ h=>by cases h) (by kernel_rfl) (fun _ h=>by cases h) astTexts_row_tie rfl ⟨rfl,rfl⟩ (by kernel_rfl) rfl
  (fun f fn hf hfn=>by
   obtain rfl:f=4:=Option.some.inj ((show Tryd.prog.funcNamed "partywall/partywalllaw08.AstTexts" = some 4 by kernel_rfl).symm.trans hf) |>.symm
   obtain rfl:fn=Tryd.f4:=(Option.some.inj (Tryd.func4.symm.trans hfn)).symm;exact⟨by kernel_rfl,fun j t ht=>by
    rw[Tryd.params4]at ht
    match j,ht with
    |0,ht=>
     have ht3:t=32:=by simpa using ht.symm
     subst ht3;exact law_noStand_qN
    |1,ht=>
     have ht3:t=32:=by simpa using ht.symm
     subst ht3;exact law_noStand_qN
    |n+2,ht=>simp at ht⟩)
  (by kernel_rfl)
#print axioms astTexts_card
end Go.Proofs.YtmgibblhcoimfaaDoor
