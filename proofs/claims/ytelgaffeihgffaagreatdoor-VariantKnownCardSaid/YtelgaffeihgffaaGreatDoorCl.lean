/-
  A concrete evaluator for Go's IR. Part l: calls of yield, operations in order.
-/
import Derived.Test.YtelgaffeihgffaaGreatDoorCk
set_option linter.unusedSimpArgs false
set_option linter.unusedVariables false
namespace Go.Cx
open Go Go.RowKit
variable {P : Program} {W0 : Bas}

theorem getLoop_run {b : Nat} {r : Loop} {w : World} (h : w.heap[b]? = some (.loop r)) : (Instr.getLoop b).run P w = .ok r w := by
  simp [Instr.getLoop, getObj, Sem.run, h]
theorem setObj_loop {b : Nat} {r : Loop} {w : World} (h : w.heap[b]? = some (.loop r)) (o : Obj) : (setObj b o).run P w = .ok () { w with heap := w.heap.setIfInBounds b o } := by simp [setObj, Sem.run, h]

/-- A loop's record is turned. -/
theorem Rel.setLoop {e : Env} {m : Mem} {w : World} (h : Rel W0 e m w) {T : Nat} {st st' : LoopState} {pe pe' : Option Code} {tm : Tmps} {ps : List Tmp} {asg body : Code} {d : Nat} (ho : m.get T = some (.loop st pe tm ps asg body d)) {b : Blk} (hb : e T = some b) :
    ∃ r, w.heap[b.blk]? = some (.loop r) ∧ r.state = st ∧ r.pending = pe ∧ Rel W0 e (m.put T (.loop st' pe' tm ps asg body d)) { w with heap := w.heap.setIfInBounds b.blk (.loop { r with state := st', pending := pe' }) } := by
  obtain ⟨b', r, db, h1, h2, h3, h4, h5, h6, h7, h8, h9, h10⟩ := h.ok _ _ ho
  obtain rfl : b = b' := by rw [hb] at h1; cases h1; rfl
  have hlt := heap_lt h3
  refine ⟨r, h3, h4, h5, h.put ho rfl rfl hb (fun k hk => ?_) (by simp) rfl rfl rfl ⟨b, { r with state := st', pending := pe' }, db, hb, h2, ?_, rfl, rfl, h6, h7, h8, h9, h10⟩⟩
  · show (w.heap.setIfInBounds b.blk _)[k]? = _
    rw [Array.getElem?_setIfInBounds, if_neg (by omega)]
  · show (w.heap.setIfInBounds b.blk _)[b.blk]? = _
    rw [Array.getElem?_setIfInBounds, if_pos rfl, if_pos hlt]

theorem zipSet_ok {e : Env} : ∀ {ps : List Tmp} {vs : List CV} {us : List Value} {t t1 : Tmps} {tm : Array Value}, zipSet ps vs t = some t1 → denL e vs = some us → TOk e t tm →
    ps.length = us.length ∧ TOk e t1 ((ps.zip us).foldl (fun tmps (p : Tmp × Value) => tmps.setIfInBounds p.1 p.2) tm)
  | [], [], us, t, t1, tm, h, hd, hT => by
    simp only [zipSet, Option.some.injEq] at h; subst h
    simp only [denL, Option.some.injEq] at hd; subst hd
    exact ⟨rfl, hT⟩
  | p :: ps, v :: vs, us, t, t1, tm, h, hd, hT => by
    obtain ⟨V, l, h1, h2, rfl⟩ := denL_cons hd
    unfold zipSet at h
    split at h
    · rename_i hb
      have hb : p < t.sz := by simpa [Nat.blt_eq] using hb
      obtain ⟨h3, h4⟩ := zipSet_ok h h2 (hT.put h1 hb)
      exact ⟨by simp [h3], h4⟩
    · cases h
  | [], _ :: _, _, _, _, _, h, _, _ => by simp [zipSet] at h
  | _ :: _, [], _, _, _, _, h, _, _ => by simp [zipSet] at h

def YOk (P : Program) (W0 : Bas) (l : Nat) (args : List CV) (m : Mem) : Res → Prop
  | .no _ => True
  | .ret v m' => ∀ e as b w rr n, e l = some b → denL e args = some as → Rel W0 e m w → ∃ f tmps asg body, (Instr.yield b.blk as.toArray).run P w = .ok (.round b.blk f tmps asg body) w ∧ RoundIn (FW rr) n P b.blk f tmps asg body w (Back W0 e v m')
  | _ => False

theorem endRound_ok {e : Env} {m : Mem} {w : World} {l : Nat} {b : Blk} {j : Option Code} {v : CV} {m' : Mem} (hr : Rel W0 e m w) (hb : e l = some b) (h : endRoundC l m j = .ret v m') :
    ∃ V w', (Instr.endRound b.blk j).run P w = .ok V w' ∧ Back W0 e v m' (.returned V) w' := by
  unfold endRoundC at h
  split at h
  · rename_i st pe t ps asg body d ho
    split at h
    · injection h with h1 h2
      subst h1; subst h2
      obtain ⟨r, k1, k2, k3, k4⟩ := hr.setLoop (st' := .ready) (pe' := none) ho hb
      exact ⟨.bool true, _, by simp [Instr.endRound, getLoop_run k1, setObj_loop k1], e, .bool true, Env.le.refl e, rfl, rfl, k4⟩
    · rename_i c
      injection h with h1 h2
      subst h1; subst h2
      obtain ⟨r, k1, k2, k3, k4⟩ := hr.setLoop (st' := .done) (pe' := some c) ho hb
      exact ⟨.bool false, _, by simp [Instr.endRound, getLoop_run k1, setObj_loop k1], e, .bool false, Env.le.refl e, rfl, rfl, k4⟩
  · cases h

theorem yieldC_ok {ih : Task → Res} (hih : ∀ k, TaskOk P W0 k (ih k)) (l : Nat) (args : List CV) (m : Mem) : YOk P W0 l args m (yieldC ih l args m) := by
  generalize hres : yieldC ih l args m = res
  unfold yieldC at hres
  split at hres
  · rename_i st pe t ps asg body d ho
    split at hres
    · rename_i t1 hz
      have hasg := hih (.code asg t1 [] (some l) m)
      generalize hq : ih (.code asg t1 [] (some l) m) = q at hres hasg
      unfold roundGo at hres
      split at hres
      · rename_i t2 m2
        split at hres
        · rename_i pe2 t0 ps2 asg2 body2 d2 ho2
          have hbody := hih (.code body t2 [] (some l) (m2.put l (.loop .busy pe2 t0 ps2 asg2 body2 d2)))
          generalize hq2 : ih (.code body t2 [] (some l) (m2.put l (.loop .busy pe2 t0 ps2 asg2 body2 d2))) = q2 at hres hbody
          unfold roundEnd at hres
          split at hres
          · rename_i x t3 ds3 m4
            split at hres
            · rename_i j hj
              cases res with
              | no => trivial
              | pan => unfold endRoundC at hres; split at hres <;> first | cases hres | (split at hres <;> cases hres)
              | ex => unfold endRoundC at hres; split at hres <;> first | cases hres | (split at hres <;> cases hres)
              | ret v m' =>
                intro e as b w rr n hb hd hr
                obtain ⟨b', r, db, h1, h2, h3, h4, h5, h6, h7, h8, h9, h10⟩ := hr.ok _ _ ho
                obtain rfl : b = b' := by rw [hb] at h1; cases h1; rfl
                obtain ⟨z1, z2⟩ := zipSet_ok hz hd h6
                refine ⟨r.fn, (ps.zip as).foldl (fun tmps (p : Tmp × Value) => tmps.setIfInBounds p.1 p.2) r.tmps, asg, body, ?_, ?_⟩
                · have hsz : ¬ as.toArray.size ≠ r.params.size := by rw [h7]; simp [z1]
                  simp only [Instr.yield, Sem.run_bind, getLoop_run h3, Result.andThen_ok]
                  rw [if_neg hsz, h8, h9, h7]
                  have hz2 : (ps.toArray.zip as.toArray) = (ps.zip as).toArray := by simp
                  rw [hz2, List.foldl_toArray]
                  rfl
                · refine roundIn_of_wpIn trivial ?_
                  show asg.wpIn (FW (some b.blk)) n P _ _ w
                  refine wpIn_mono (hasg e { tmps := _, defers := [] } w (some b.blk) n (.inr ⟨l, b, rfl, hb, rfl⟩) ⟨hr, z2, rfl⟩) ?_
                  · rintro y a1 w1 ⟨e1, le1, rfl, hs1⟩
                    have hb1 := le1 _ _ hb
                    obtain ⟨r2, k1, k2, k3, k4⟩ := hs1.rel.setLoop (st' := .busy) (pe' := pe2) ho2 hb1
                    show ∃ w₂, _ ∧ _
                    refine ⟨{ w1 with heap := w1.heap.setIfInBounds b.blk (.loop { r2 with state := .busy, pending := pe2 }) }, ?_, ?_⟩
                    · have hpe : ({ r2 with state := .busy, pending := pe2 } : Loop) = { r2 with state := .busy } := by rw [← k3]
                      rw [hpe]
                      simp [Instr.beginRound, getLoop_run k1, setObj_loop k1, k2]
                    · show body.wpIn (FW (some b.blk)) n P _ a1 _
                      refine wpIn_mono (hbody e1 a1 _ (some b.blk) n (.inr ⟨l, b, rfl, hb1, rfl⟩) ⟨k4, hs1.tok, hs1.dok⟩) ?_
                      rintro y2 a2 w2 ⟨e2, le2, hx, hs2⟩
                      have hb2 := le2 _ _ hb1
                      obtain ⟨V, w', g1, g2⟩ := endRound_ok (P := P) hs2.rel hb2 hres
                      obtain ⟨e3, V2, le3, dv, hV, hr3⟩ := g2
                      have hback : Back W0 e v m' (.returned V) w' := ⟨e3, V2, (le1.trans le2).trans le3, dv, hV, hr3⟩
                      cases x with
                      | normal =>
                        cases hj
                        obtain rfl : y2 = .normal := hx
                        exact ⟨V, w', g1, hback⟩
                      | ret =>
                        cases hj
                        obtain rfl : y2 = .ret := hx
                        exact ⟨V, w', g1, hback⟩
                      | exit i =>
                        cases hj
                        obtain rfl : y2 = .exit i := hx
                        exact ⟨V, w', g1, hback⟩
                      | goto i =>
                        cases hj
                        obtain rfl : y2 = .goto i := hx
                        exact ⟨V, w', g1, hback⟩
                      | panic v => cases hj
            · subst hres; trivial
          · subst hres; trivial
          · rename_i hn1 hn2
            subst hres; trivial
        · subst hres; trivial
      · subst hres; trivial
      · subst hres; trivial
    · subst hres; trivial
  · subst hres; trivial
end Go.Cx
