/-
  A verification-condition generator for Go's IR. Part s: from a law's contract to what its row asks.
-/
import Derived.Test.YtdpoebadaomfgaaVn
import Derived.Below
import Derived.ProofKit
set_option linter.unusedSimpArgs false
set_option linter.unusedVariables false
namespace Go.Pw
open Go Go.RowKit Go.WideShapes Go.ChangeShapes

theorem WOk.first {P : Hp} {w : World} (hh : ∀ b x, P b = some x → w.heap[b]? = some x) : WOk (Base.entry e0 w [] P) [] e0 (([] : List SObj).map some) P w :=
  { hh := hh, ob := fun i x hi => by simp at hi, sep := fun i j x y hi => by simp at hi, hn := fun i x hi => by simp at hi, frm := Frm.refl _ _, own := fun i x hi => by simp at hi, hle := HLe.refl _, hnew := fun b x hx => .inl hx, agr := fun i _ => ⟨rfl, rfl⟩,
    pr := ⟨fun _ => False, fun i s xs hi => by simp at hi, fun i j s s' xs xs' hi => by simp at hi, fun i x hi => by simp at hi, fun _ h => h.elim, fun b x hx => .inl hx, fun _ h => h.elim, fun _ => rfl, List.nodup_nil, fun d hd => by cases hd⟩ }

/-- A law that answers true and turns nothing that was there. -/
theorem CSpec.law {P : Program} {f : FuncId} {args : List SV} {h : Hp} {post : SV → List (Option SObj) → Hp → Prop} (c : CSpec P f args [] h post) (hp : ∀ sv o h', post sv o h' → sv = .bexp true) {w : World} (hh : ∀ b x, h b = some x → w.heap[b]? = some x) :
    Calls P f (denL e0 args).toArray w fun e w' => e = .returned (.bool true) ∧ Below w.heap.size w w' := by
  refine (c.run e0 w (WOk.first hh)).mono ?_
  rintro en w' ⟨e', sv, o', h', rfl, _, _, hq, hw'⟩
  obtain rfl := hp _ _ _ hq
  exact ⟨rfl, hw'.frm.os, hw'.frm.tape, hw'.frm.output, hw'.frm.size, fun k hk => hw'.frm.block k hk (fun ⟨i, x, hx, _⟩ => by simp at hx)⟩

section
variable {H : Type} {enc : TypeId × Value → H} {P : Program}
/-- What is asked behind the call, where nothing that was there has been turned and the result is a Bool. -/
theorem post_below {f : Func} {s : ChangeSpec} {apart fresh handsOn again : Bool} {W W' : World} {args : Array Value} {v : Value} {ds gs : List (DataW H)} {before pa pv : List MemPlace}
    (hW : DataW.Whole enc P f.params.toList s.vars apart W args.toList ds gs before)
    (hres : ∀ (b : Nat) (sp : Nat → Bool) (hd : Bool), DataW.TrodAll enc P W' b sp hd f.resultTypes.toList (v.resultList f.resultTypes.size) (s.fn H (ds ++ gs)).results [])
    (hargs : ∀ sp : Nat → Bool, (∀ p ∈ before, sp p.block = true) → DataW.TrodAll enc P W' 0 sp true f.params.toList args.toList (s.fn H (ds ++ gs)).args pa)
    (hvars : ∀ sp : Nat → Bool, (∀ p ∈ before, sp p.block = true) → DataW.TrodVars enc P W' sp s.vars (s.fn H (ds ++ gs)).vars pv)
    (hps : before = pa ++ pv) (hb : Below W.heap.size W W')
    (hok : ∀ (j : Nat) (t : TypeId) (r : Value), f.resultTypes[j]? = some t → (v.resultList f.resultTypes.size)[j]? = some r → Value.okWide P W' .any 0 t r) :
    s.post enc P f apart fresh handsOn again W args v W' := by
  have lt : ∀ p ∈ before, p.block < W.heap.size := fun p hp => hW.lt p hp
  have old : ∀ p ∈ before, (fun b => decide (b < W.heap.size)) p.block = true := fun p hp => by simpa using lt p hp
  have hkept := hb.frame (· ∈ before)
  refine ⟨ds, gs, before, [], pa, pv, hW, hres _ _ _, hargs _ old, hvars _ old, World.keptBut_mono (fun p hp => ?_) hkept, fun _ => ?_⟩
  · refine ⟨hp, ?_⟩
    rw [hps] at hp
    exact .inr (List.mem_append.1 hp)
  · obtain ⟨_, _, _, _, _, hz, hn⟩ := hW
    refine ⟨hok, _, _, ([] ++ pa) ++ pv, ⟨[] ++ pa, pv, trodAll_append (hargs _ (fun _ _ => rfl)) (hres _ _ _), hvars _ (fun _ _ => rfl), rfl, fun b off hp => ?_, fun ha => ?_⟩, fun p hp _ => ?_⟩
    · have hm : MemPlace.cell b off ∈ before := by rw [hps]; simpa using hp
      rw [hb.frozen (p := ⟨b, off, none⟩) (lt _ hm)]
      exact hz b off hm
    · have := hn ha
      rw [hps] at this
      simpa using this
    · rw [hps]
      simpa using hp
end
end Go.Pw
