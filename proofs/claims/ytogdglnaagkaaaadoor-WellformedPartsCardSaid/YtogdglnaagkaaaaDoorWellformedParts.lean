import Derived.Test.YtogdglnaagkaaaaDoorRf
import Derived.Test.YtogdglnaagkaaaaDoorOi
import Derived.Test.YtogdglnaagkaaaaDoorAw
import Derived.Test.YtogdglnaagkaaaaDoorGh
import Derived.Test.YtogdglnaagkaaaaDoorCards
import Derived.Test.YtogdglnaagkaaaaDoorTie
import Derived.ProofKit
import Derived.LaidLaws
import Derived.Handed
import Derived.SevenTiedAt
set_option linter.unusedSimpArgs false
set_option linter.unusedVariables false
namespace Go.Proofs.YtogdglnaagkaaaaDoor
open Go Go.Cx Go.ChangeShapes Go.WideShapes Go.ChangeAt Go.RowKit
open Go.ChangeMaps (open_string shut_string)
theorem Tryd.own:ownKnob Tryd.prog.godebug=none:=by kernel_rfl
theorem law_orders:Tryd.prog.follows .mixedOrders=true:=by kernel_rfl
theorem law_laid:laidOutB Tryd.prog=true:=by kernel_rfl
theorem law_rows:mapsRowed Tryd.prog=true:=by kernel_rfl
theorem law_full:((List.range Tryd.prog.types.size).all fun t=>match Tryd.prog.underlying t with |some (.slice e)=>decide (0<Tryd.prog.cellsOf e) |_=>true)=true:=by kernel_rfl
theorem law_tys:zsJ Tryd.prog [22,3,4,9]=true:=by kernel_rfl
theorem law_rowsL{W:World}(h:laidMet Tryd.prog Rows.wellformedPartsRow.laid W):∃L0:FWs,FwOk W L0/\zm6 W L0 axG:=by
 obtain⟨vsN,tyN,frN,h1N,h2N⟩:=zo6 (ss:=[[99,111,117,110,116],[115,117,109],[109,105,110],[109,97,120],[102,105,114,115,116],[108,97,115,116]]) (bs:=[]) (P:=Tryd.prog) (n := "partywall/ast.names") (t:=110) (e:=9) (k:=6) (by kernel_rfl) (by kernel_rfl) (by kernel_rfl) (by kernel_rfl) (by kernel_rfl) (by kernel_rfl) (Lib.laidMet.reads h (.head _));exact⟨[],fun i p hp=>by simp at hp,zrj (by decide) (by kernel_rfl) (by decide) ⟨vsN,tyN,frN,(by simp only[denL,den]at h1N ⊢;exact h1N),h2N⟩ (zur)⟩
noncomputable def laidW(os:Os):World:=
 let w0:=World.holding Tryd.prog os ⟨#[], #[],[]⟩
 let h0:=w0.heap
 let h1:=h0.modify 0 fun
  |.cells _ t frozen=>.cells #[.string ⟨#[99,111,117,110,116]⟩,.string ⟨#[115,117,109]⟩,.string ⟨#[109,105,110]⟩,.string ⟨#[109,97,120]⟩,.string ⟨#[102,105,114,115,116]⟩,.string ⟨#[108,97,115,116]⟩] t frozen
  |o=>o
 { w0 with heap:=h1 }
theorem laidW_met(os:Os)(args:Array Value):laidMet Tryd.prog Rows.wellformedPartsRow.laid ((laidW os).forCall (fun _ _=>0) ⟨#[],args,[]⟩).memory:=
 laidMet_of_run' 8 (by kernel_rfl) (by kernel_rfl)
set_option maxHeartbeats 4000000 in
set_option maxRecDepth 100000 in
theorem wellformedParts_witness(os:Os)(H:Type)(enc:TypeId×Value->H):∃(w:World) (tape:Tape) (i:Input),w.os=os/\(w.forCall tape i).Shaped Tryd.checked.prog/\i.vars=[]/\Input.okWide Tryd.checked.prog (w.forCall tape i) .any w.heap.size 3 i /\
   ((Rows.wellformedPartsSpec.pre enc Tryd.checked.prog Tryd.f3 Rows.wellformedPartsRow.domain false (w.forCall tape i).memory i.args/\laidMet Tryd.prog Rows.wellformedPartsRow.laid (w.forCall tape i).memory)/\sizedMet enc Tryd.checked.prog Tryd.f3 (OpenSpec.ofChange Rows.wellformedPartsSpec) false (w.forCall tape i).memory i.args)/\({ modest:=false }:Assume).holds Tryd.checked.prog (lone (Frame.enter Tryd.checked.prog 3 i.args .normal) [] (w.forCall tape i)):=
 (ChangeSpec.witness_at (s:=Rows.wellformedPartsSpec) (conds:=Rows.wellformedPartsRow.domain) (fn:=Tryd.f3) (f:=3) (enc:=enc) (C:=Tryd.checked) (os:=os) (X:=fun w _=>laidMet Tryd.prog Rows.wellformedPartsRow.laid w) false (laidW os) #[.slice none 0 0,.int .i64 0] 8 rfl (by kernel_rfl) (by kernel_rfl) (by kernel_rfl) (by kernel_rfl) (by kernel_rfl) (laidW_met os _))
set_option maxHeartbeats 4000000 in
set_option maxRecDepth 100000 in
theorem wellformedParts_lifted(os:Os)(started:os.Started)(H:Type)(enc:TypeId×Value->H):
  ReturnsInHanded {} Tryd.checked os 3 .any (fun w args=>(Rows.wellformedPartsSpec.pre enc Tryd.prog Tryd.f3 Rows.wellformedPartsRow.domain false w args/\laidMet Tryd.prog Rows.wellformedPartsRow.laid w)/\sizedMet enc Tryd.prog Tryd.f3 (OpenSpec.ofChange Rows.wellformedPartsSpec) false w args)
   (Rows.wellformedPartsSpec.post enc Tryd.prog Tryd.f3 false true false false):=by
 refine returnsInHanded_of_change_and (C:=Tryd.checked) (X:=fun w _=>laidMet Tryd.prog Rows.wellformedPartsRow.laid w) (fun _ _ _ hh h=>h.of_heap hh) Tryd.own started (by kernel_rfl) Tryd.func3
  (wellformedParts_witness os H enc) ?_
 intro W base args ds gs before hval0 hW _ _ hLd _;have hval:∀(j:Nat) t v,Tryd.f3.params[j]? = some t->args[j]? = some v->Value.okWide Tryd.prog W .any base t v:=hval0;have hW':=hW;obtain⟨p,q,hA0,hV,rfl,hfz,hnd⟩:=hW;have hA:DataW.TrodAll enc Tryd.prog W 0 (fun _=>true) true Tryd.f3.params.toList args.toList ds p:=hA0;rw[Tryd.params3]at hA hval;obtain⟨v0,v1,d0,d1,p0,p1,rfl,rfl,rfl,h0,h1⟩:=trodAll_two hA;obtain⟨rfl,rfl⟩:=trodVars_none hV;obtain⟨sa0,sl0,sc0,rfl⟩:=okWide_slice Tryd.underlying22 (hval 0 22 v0 rfl rfl);obtain⟨x1,rfl,rfl,rfl,w1⟩:=open_int Tryd.underlying3 (hval 1 3 v1 rfl rfl) h1;clear hA0 hval0;simp only[yc2]at hW';obtain⟨L0,hF0,hR0⟩:=law_rowsL hLd;obtain⟨fuel0,h0⟩:=h0;obtain⟨hwf0,hop0⟩:=zrx law_tys fuel0 22 _ d0 p0 rfl h0;obtain⟨K0,xs0,hK0,hd0,hone0,hr0⟩:=hop0 _ hF0;have hR0:=zrH (L':=K0) hR0;obtain⟨c0,w0,l0,hs0,he0⟩:=zt6 fuel0 d0 hwf0;rw[hs0]at hr0;obtain⟨y0,rfl,hv0⟩:=zvq hr0;have hcall:=zv0 (P:=Tryd.prog) (W:=W) (X:=axX) (l:=axG) ax_ok law_orders hR0 (f:=3) (args:=[w0,ai x1]) (xs:=[y0,.int .i64 x1]) (vs:=[.slice sa0 sl0 sc0,.int .i64 x1]) hK0
  (.cons hv0 (.cons (.cv rfl) (.nil))) (zpY hd0 (zvr (rfl))) ((zgP c0 l0 x1).arg (.cons he0 (.cons (.refl _) (.nil))))
 refine hcall.mono fun e W' ⟨he,hw⟩=>?_
 subst he;exact⟨_,rfl,zvu hW' rfl rfl law_laid law_rows law_full (by rw[Tryd.params3];decide +kernel) ⟨rfl,rfl,rfl⟩ rfl Tryd.underlying4 hw⟩
theorem wellformedParts_row:Rows.WellformedPartsSaid:=
 OpenClaim.holds_of_wide 3 Tryd.f3 rfl rfl rfl rfl rfl rfl rfl ⟨rfl,rfl,rfl,rfl,rfl⟩ rfl rfl rfl rfl rfl (by kernel_rfl) Tryd.func3 (by kernel_rfl)
  (of_decide_eq_true (by kernel_rfl)) (by unfold Func.isWrapper;first |(rw[if_pos (by decide +kernel)];kernel_rfl) |(rw[if_neg (by decide +kernel)];exact⟨rfl,rfl⟩))
  (fun os started H enc _=>wellformedParts_lifted os started H enc)
theorem law_noStand_i64:Tryd.pinned.checked.prog.wantsStandIn 3=false:=by kernel_rfl
theorem law_noStand_ints:Tryd.pinned.checked.prog.wantsStandIn 22=false:=by kernel_rfl
theorem wellformedParts_card:Rows.WellformedPartsCardSaid:=
 Claim7.holds_tied_plain_at .later [] [.widerDeep] true (true, "f28176270dbda29062fa5c888dcb4d517f0d6872a2d80561e20d17962d99ad7e") false
  wellformedParts_row (fun _ h=>by cases h) (by kernel_rfl) (fun _ h=>by cases h) wellformedParts_row_tie rfl ⟨rfl,rfl⟩ (by kernel_rfl) rfl
  (fun f fn hf hfn=>by
   obtain rfl:f=3:=Option.some.inj ((show Tryd.prog.funcNamed "partywall/partywalllaw10.WellformedParts" = some 3 by kernel_rfl).symm.trans hf) |>.symm
   obtain rfl:fn=Tryd.f3:=(Option.some.inj (Tryd.func3.symm.trans hfn)).symm;exact⟨by kernel_rfl,fun j t ht=>by
    rw[Tryd.params3]at ht
    match j,ht with
    |0,ht=>
     have ht3:t=22:=by simpa using ht.symm
     subst ht3;exact law_noStand_ints
    |1,ht=>
     have ht3:t=3:=by simpa using ht.symm
     subst ht3;exact law_noStand_i64
    |n+2,ht=>simp at ht⟩)
  (by kernel_rfl)
#print axioms wellformedParts_card
end Go.Proofs.YtogdglnaagkaaaaDoor
