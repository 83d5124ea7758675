/-
  A concrete evaluator for Go's IR. Part t: code, and the whole run.
-/
import Derived.Test.YtelgaffeihgffaaGreatDoorCs
import Derived.RecoverIn
set_option linter.unusedSimpArgs false
set_option linter.unusedVariables false
namespace Go.Cx
open Go Go.RowKit
variable {P : Program}

theorem wpIn_scope' {F : Fence} {n : Nat} {Q : Exit → Act → World → Prop} {b : Code} {a : Act} {w : World} (h : b.wpIn F n P (Exit.noGoto Q) a w) : (Code.scope b).wpIn F n P Q a w := by
  intro fr k cs hro hb hr
  have h0 : (lone (fr.atR a (.code (.scope b) :: k)) cs w).fenced P F := fenced_calm hb hr rfl
  have s0 : step P (lone (fr.atR a (.code (.scope b) :: k)) cs w) = .next (lone (fr.atR a (.code b :: .inScope b :: k)) cs w) :=
    step_lone_go (by simp [stepG, stepG.exec, Frame.atR])
  have s1 : ∀ a w, step P (lone (fr.atR a (.inScope b :: k)) cs w) = .next (lone (fr.atR a k) cs w) := fun a w =>
    step_lone_go (by simp [stepG, stepG.exec, Frame.atR])
  obtain ⟨e, a₁, w₁, hq, harr⟩ := h fr (.inScope b :: k) cs hro hb hr
  cases e with
  | normal => exact ⟨.normal, a₁, w₁, hq, .head h0 s0 (StepsIn.trans harr (.one (fenced_calm hb hr rfl) (s1 a₁ w₁)))⟩
  | exit id =>
    have hx : exitTo id (.inScope b :: k) = exitTo id k := by simp [exitTo]
    exact ⟨_, a₁, w₁, hq, fun k' hk => .head h0 s0 (harr.1 k' (by rw [hx]; exact hk)),
      fun hr' hk => let ⟨k₁, h1, h2⟩ := harr.2 hr' (by rw [hx]; exact hk); ⟨k₁, h1, .head h0 s0 h2⟩⟩
  | goto l => exact hq.elim
  | ret => exact ⟨_, a₁, w₁, hq, .of_steps (.one h0 s0) harr⟩
  | panic ch => exact ⟨_, a₁, w₁, hq, .of_steps (.one h0 s0) harr⟩
  | outgrown => exact ⟨_, a₁, w₁, hq, .of_steps (.one h0 s0) harr⟩

theorem Mem.new_eq (m : Mem) (o : CO) : m.new o = m.newAt m.nxt o := by
  have h := Mem.nxtAt m m.nxt o
  rw [if_neg (Nat.lt_irrefl _)] at h
  have : m.newAt m.nxt o = ⟨(m.newAt m.nxt o).nxt, (m.newAt m.nxt o).tr⟩ := rfl
  rw [this, h]
  rfl

section
variable {B : Bas} {e : Env} {m : Mem} {w : World} {t : Tmps} {ds : List CDef} {a : Act}

theorem rangeEnd_ok {ih : Task → Res} (hih : ∀ k, TaskOk P B k (ih k)) {l : Nat} {r : Option Nat} {e0 e1 : Env} {b : Blk} {x : CEx} {t' : Tmps} {ds' : List CDef} {m' : Mem} {rr : Option Nat} {n : Nat} (hle : Env.le e0 e1) (hR : Rnd e1 r rr) (hb : e1 l = some b)
    (hs : St B e1 t ds m a w) (h : endLoopC ih l t ds r m (m.get l) = .ex x t' ds' m') : ∃ jump w₄, (Instr.endLoop b.blk).run P w = .ok jump w₄ ∧ (match jump with | none => Post B e0 x t' ds' m' .normal a w₄ | some c => c.wpIn (FW rr) n P (Post B e0 x t' ds' m') a w₄) := by
  unfold endLoopC at h
  split at h
  · rename_i st pe t0 ps asg body d ho
    split at h
    · cases h
    · rename_i hbusy
      obtain ⟨rec, k1, k2, k3, k4⟩ := hs.rel.setLoop (st' := .exhausted) (pe' := pe) ho hb
      have hst : ¬ (rec.state == .busy) = true := by
        rw [k2]
        cases st <;> first | exact absurd rfl hbusy | (intro hq; cases hq)
      have hrun : (Instr.endLoop b.blk).run P w = .ok pe { w with heap := w.heap.setIfInBounds b.blk (.loop { rec with state := .exhausted, pending := pe }) } := by
        have hpe : ({ rec with state := .exhausted, pending := pe } : Loop) = { rec with state := .exhausted } := by rw [← k3]
        rw [hpe]
        simp only [Instr.endLoop, Sem.run_bind, getLoop_run k1, Result.andThen_ok, if_neg hst, setObj_loop k1, Sem.run_pure]
        rw [k3]
      refine ⟨pe, _, hrun, ?_⟩
      have hs2 : St B e1 t ds (m.put l (.loop .exhausted pe t0 ps asg body d)) a { w with heap := w.heap.setIfInBounds b.blk (.loop { rec with state := .exhausted, pending := pe }) } := ⟨k4, hs.tok, hs.dok⟩
      split at h
      · cases h
        exact ⟨e1, hle, rfl, hs2⟩
      · rename_i _ c
        have hc := hih (.code c t ds r (m.put l (.loop .exhausted (some c) t0 ps asg body d)))
        rw [h] at hc
        exact wpIn_mono (hc e1 a _ rr n hR hs2) fun y a2 w2 hp => Post.from hle hp
  · cases h

theorem rangeGo_ok {ih : Task → Res} (hih : ∀ k, TaskOk P B k (ih k)) {l : Nat} {r : Option Nat} {e0 : Env} {b : Blk} {x : CEx} {t' : Tmps} {ds' : List CDef} {m' : Mem} {rr : Option Nat} {n : Nat} {g : Operand} (hle : Env.le e0 e) (hR : Rnd e r rr) (hb : e l = some b)
    (hs : St B e t ds m a w) (h : rangeGo ih l t ds r m (evO t g) = .ex x t' ds' m') :
    ∃ (d : Deferred) (f : FuncId) (args : Array Value), (resolve a.eval (rangeCall g b.blk) 0).run P w = .ok d w ∧ (invoke d.target d.args).run P w = .ok (.enter f args) w ∧
      CallsIn (FW rr) (n - 1) P f args w (rangePost (FW rr) n P b.blk (Post B e0 x t' ds' m') a) := by
  unfold rangeGo at h
  split at h
  · rename_i f first cap hg
    have hd := evO_ok hs.rel.glb hs.tok hg
    simp only [den, Option.bind_eq_some_iff, Option.map_eq_some_iff] at hd
    obtain ⟨lx, hx, ly, hy, hq⟩ := hd
    have hcall := hih (.call f (first ++ [.yld l] ++ cap) m)
    generalize ih (.call f (first ++ [.yld l] ++ cap) m) = res at h hcall
    unfold rangeEnd at h
    split at h
    · rename_i v m1
      have hcall : (∀ as w, (callFunc f as).run P w = .ok (.enter f as) w) ∧ ∀ e as w, denL e (first ++ [.yld l] ++ cap) = some as → Rel B e m w → Calls P f as.toArray w (Back B e v m1) := by
        rcases hcall with hcall | ⟨t0, off, heq, _⟩
        · exact hcall
        · have hmem : CV.yld l ∈ first ++ [CV.yld l] ++ cap := by simp
          rw [heq] at hmem
          simp at hmem
      obtain ⟨henter, hc⟩ := hcall
      have hyl : denL e [CV.yld l] = some [.func (.yield b.blk) #[] #[]] := by simp [denL, den, hb]
      have has := denL_append (denL_append hx hyl) hy
      refine ⟨{ target := .fn (.func f) ly.toArray, args := lx.toArray ++ #[Value.func (.yield b.blk) #[] #[]] }, f, (lx ++ [Value.func (.yield b.blk) #[] #[]] ++ ly).toArray, ?_, ?_, ?_⟩
      · have hmap : Array.map a.eval #[Operand.const (Value.func (.yield b.blk) #[] #[])] = #[Value.func (.yield b.blk) #[] #[]] := by simp [Act.eval]
        simp only [rangeCall, resolve, ← hq, Deferred.ofValue, pure_bind, hmap]
        rfl
      · show (callFunc f _).run P w = _
        have he : (lx.toArray ++ #[Value.func (.yield b.blk) #[] #[]]) ++ ly.toArray = (lx ++ [Value.func (.yield b.blk) #[] #[]] ++ ly).toArray := by simp
        rw [he]
        exact henter _ _
      · refine callsIn_FW ((hc e _ w has hs.rel).mono ?_)
        rintro en w1 ⟨e1, V, le1, hV, rfl, hr1⟩
        exact rangeEnd_ok hih (hle.trans le1) (hR.mono le1) (le1 _ _ hb) (hs.mono le1 hr1) h
    · cases h
    · cases h
  · cases h

theorem code_shape {ih : Task → Res} (hih : ∀ k, TaskOk P B k (ih k)) (c : Code) (t : Tmps) (ds : List CDef) (r : Option Nat) (m : Mem) : (∃ w, ih (.code c t ds r m) = .no w) ∨ ∃ x t' ds' m', ih (.code c t ds r m) = .ex x t' ds' m' := by
  have hc := hih (.code c t ds r m)
  generalize ih (.code c t ds r m) = res at hc
  cases res with
  | no w => exact .inl ⟨_, rfl⟩
  | ex x t' ds' m' => exact .inr ⟨_, _, _, _, rfl⟩
  | ret => exact hc.elim
  | pan => exact hc.elim

theorem rangeC_ok {ih : Task → Res} (hih : ∀ k, TaskOk P B k (ih k)) (g : Operand) (ps : Array Tmp) (asg body : Code) (t : Tmps) (ds : List CDef) (r : Option Nat) (m : Mem) : CodeOk P B (.rangeFunc g ps asg body) t ds r m (rangeC ih g ps.toList asg body t ds m r) := by
  have shape : ∀ l t ds r m v, (∃ w, rangeGo ih l t ds r m v = .no w) ∨ ∃ x t' ds' m', rangeGo ih l t ds r m v = .ex x t' ds' m' := fun l t ds r m v => by
    unfold rangeGo
    split
    · unfold rangeEnd
      split
      · unfold endLoopC
        split
        · split
          · exact .inl ⟨_, rfl⟩
          · split
            · exact .inr ⟨_, _, _, _, rfl⟩
            · exact code_shape hih _ _ _ _ _
        · exact .inl ⟨_, rfl⟩
      · exact .inl ⟨_, rfl⟩
      · exact .inl ⟨_, rfl⟩
    · exact .inl ⟨_, rfl⟩
  unfold rangeC
  cases r with
  | none =>
    simp only
    rcases shape (m.nxt + 1) t (.mark m.nxt :: ds) none ((m.new (.dfr true)).new (.loop .ready none t ps.toList asg body m.nxt)) (evO t g) with ⟨wh, hno⟩ | ⟨x, t', ds', m', hex⟩
    · rw [hno]; trivial
    · rw [hex]
      intro e a w rr n hR hs
      obtain ⟨_, rfl⟩ : (none : Option Nat) = none ∧ rr = none := hR.elim (fun h => h) (fun ⟨l, b, h1, _⟩ => by cases h1)
      let b1 : Blk := ⟨w.heap.size, 0, 0, 0⟩
      let w1 := w.alloc (.deferred (some []))
      obtain ⟨q1, q2⟩ := hs.rel.alloc hs.rel.nxtZ (o := .dfr true) (x := .deferred (some [])) b1 rfl ⟨b1, Env.ext_same .., by rw [heap_push, if_pos rfl]⟩
      rw [← Mem.new_eq] at q2
      have hn1 : (m.new (.dfr true)).nxt = m.nxt + 1 := rfl
      refine wpIn_rangeFunc fun fn _ => ?_
      let rec0 : Loop := { state := .ready, pending := none, fn, tmps := a.tmps, params := ps, assign := asg, body := body, defers := w.heap.size }
      let b2 : Blk := ⟨w1.heap.size, 0, 0, 0⟩
      have hsz1 : w1.heap.size = w.heap.size + 1 := Array.size_push ..
      obtain ⟨q3, q4⟩ := q2.alloc q2.nxtZ (o := .loop .ready none t ps.toList asg body m.nxt) (x := .loop rec0) b2 rfl
        ⟨b2, rec0, b1, Env.ext_same .., by
          unfold Env.ext
          rw [hn1, if_neg (by omega), if_pos rfl], by rw [heap_push, if_pos rfl], rfl, rfl, (hs.tok.mono q1).mono (Env.ext_le q2.nxtZ.1 _), by simp [rec0], rfl, rfl, rfl⟩
      rw [← Mem.new_eq] at q4
      have hmark : (e.ext m.nxt b1).ext (m.new (.dfr true)).nxt b2 m.nxt = some b1 := by
        unfold Env.ext
        rw [hn1, if_neg (by omega), if_pos rfl]
      have hl : (e.ext m.nxt b1).ext (m.new (.dfr true)).nxt b2 (m.nxt + 1) = some b2 := by
        rw [← hn1]; exact Env.ext_same ..
      have hle := q1.trans q3
      let a2 : Act := { tmps := a.tmps, defers := { target := .collected w.heap.size, args := #[] } :: a.defers }
      have hs2 : St B ((e.ext m.nxt b1).ext (m.new (.dfr true)).nxt b2) t (.mark m.nxt :: ds) ((m.new (.dfr true)).new (.loop .ready none t ps.toList asg body m.nxt)) a2 (w1.alloc (.loop rec0)) :=
        ⟨q4, hs.tok.mono hle, ⟨b1, a.defers, hmark, rfl, hs.dok.mono hle⟩⟩
      obtain ⟨d, f, args, g1, g2, g3⟩ := rangeGo_ok (n := n) (rr := none) hih hle (.inl ⟨rfl, rfl⟩) hl hs2 hex
      refine ⟨w1.heap.size, [{ target := .collected w.heap.size, args := #[] }], w1.alloc (.loop rec0), d, w1.alloc (.loop rec0), f, args, w1.alloc (.loop rec0), ?_, g1, fun _ _ => trivial, g2, fun hd => by simp [FW, Fence.wide] at hd, g3⟩
      show (Instr.enterLoop fn a.tmps ps asg body none).run P w = _
      simp only [Instr.enterLoop, Sem.run_bind, run_newObj, Result.andThen_ok, Sem.run_pure]
      rfl
  | some l0 =>
    simp only
    split
    · rename_i st0 pe0 t0 ps0 asg0 body0 d ho
      rcases shape m.nxt t ds (some l0) (m.new (.loop .ready none t ps.toList asg body d)) (evO t g) with ⟨wh, hno⟩ | ⟨x, t', ds', m', hex⟩
      · rw [hno]; trivial
      · rw [hex]
        intro e a w rr n hR hs
        obtain ⟨b0, hb0, hrr⟩ : ∃ b, e l0 = some b ∧ rr = some b.blk := by
          rcases hR with ⟨h1, _⟩ | ⟨l, b, h1, h2, h3⟩
          · cases h1
          · cases h1; exact ⟨b, h2, h3⟩
        obtain ⟨b', rec1, db, h1, h2, h3, h4, h5, h6, h7, h8, h9, h10⟩ := hs.rel.ok _ _ ho
        obtain rfl : b0 = b' := by rw [hb0] at h1; cases h1; rfl
        refine wpIn_rangeFunc fun fn _ => ?_
        let rec0 : Loop := { state := .ready, pending := none, fn, tmps := a.tmps, params := ps, assign := asg, body := body, defers := db.blk }
        let b2 : Blk := ⟨w.heap.size, 0, 0, 0⟩
        obtain ⟨q3, q4⟩ := hs.rel.alloc hs.rel.nxtZ (o := .loop .ready none t ps.toList asg body d) (x := .loop rec0) b2 rfl
          ⟨b2, rec0, db, Env.ext_same .., Env.ext_le hs.rel.nxtZ.1 _ _ _ h2, by rw [heap_push, if_pos rfl], rfl, rfl, hs.tok.mono (Env.ext_le hs.rel.nxtZ.1 _), by simp [rec0], rfl, rfl, rfl⟩
        rw [← Mem.new_eq] at q4
        have hs2 : St B (e.ext m.nxt b2) t ds (m.new (.loop .ready none t ps.toList asg body d)) { tmps := a.tmps, defers := [] ++ a.defers } (w.alloc (.loop rec0)) :=
          ⟨q4, hs.tok.mono q3, hs.dok.mono q3⟩
        obtain ⟨dd, f, args, g1, g2, g3⟩ := rangeGo_ok (n := n) (rr := rr) hih q3 (hR.mono q3) (Env.ext_same ..) hs2 hex
        refine ⟨w.heap.size, [], w.alloc (.loop rec0), dd, w.alloc (.loop rec0), f, args, w.alloc (.loop rec0), ?_, g1, fun _ _ => trivial, g2, fun hd => by simp [FW, Fence.wide] at hd, g3⟩
        show (Instr.enterLoop fn a.tmps ps asg body rr).run P w = _
        rw [hrr]
        simp only [Instr.enterLoop, Sem.run_bind, getLoop_run h3, run_newObj, Result.andThen_ok, Sem.run_pure]
        rw [h10]
        rfl
    · trivial
end

theorem thenC_ok {ih : Task → Res} (hih : ∀ B k, TaskOk P B k (ih k)) (B : Bas) (c1 c2 : Code) (t : Tmps) (ds : List CDef) (r : Option Nat) (m : Mem) : CodeOk P B (.seq c1 c2) t ds r m (thenC ih c2 r (ih (.code c1 t ds r m))) := by
  have h1 := hih B (.code c1 t ds r m)
  generalize ih (.code c1 t ds r m) = res at h1
  unfold thenC
  split
  · rename_i t1 ds1 m1
    have h2 := hih B (.code c2 t1 ds1 r m1)
    generalize ih (.code c2 t1 ds1 r m1) = res2 at h2
    cases res2 with
    | no => trivial
    | ret => exact h2.elim
    | pan => exact h2.elim
    | ex x t' ds' m' =>
      intro e a w rr n hR hs
      refine wpIn_seq (wpIn_mono (h1 e a w rr n hR hs) ?_)
      rintro y a1 w1 ⟨e1, le1, rfl, hs1⟩
      exact wpIn_mono (h2 e1 a1 w1 rr n (hR.mono le1) hs1) fun y a2 w2 hp => Post.from le1 hp
  · rename_i hn
    cases res with
    | no => trivial
    | ret => exact h1.elim
    | pan => exact h1.elim
    | ex x t' ds' m' =>
      intro e a w rr n hR hs
      refine wpIn_seq (wpIn_mono (h1 e a w rr n hR hs) ?_)
      rintro y a1 w1 ⟨e1, le1, hx, hs1⟩
      cases x with
      | normal => exact absurd rfl (hn _ _ _)
      | exit i => obtain rfl : y = .exit i := hx; exact ⟨e1, le1, rfl, hs1⟩
      | goto i => obtain rfl : y = .goto i := hx; exact ⟨e1, le1, rfl, hs1⟩
      | ret => obtain rfl : y = .ret := hx; exact ⟨e1, le1, rfl, hs1⟩
      | panic v =>
        obtain ⟨V, hV, rfl⟩ := hx
        exact ⟨e1, le1, ⟨V, hV, rfl⟩, hs1⟩

/-- Code that is no loop. -/
theorem codeC_ok {ih : Task → Res} (hih : ∀ B k, TaskOk P B k (ih k)) (hm : P.follows .mixedOrders = true) (B : Bas) (c : Code) (hc : ∀ b, c ≠ .loop b) (t : Tmps) (ds : List CDef) (r : Option Nat) (m : Mem) : CodeOk P B c t ds r m (codeC P ih t ds r m c) := by
  cases c with
  | skip => intro e a w rr n hR hs; exact wpIn_skip ⟨e, Env.le.refl e, rfl, hs⟩
  | label l => intro e a w rr n hR hs; exact wpIn_label ⟨e, Env.le.refl e, rfl, hs⟩
  | ret => intro e a w rr n hR hs; exact wpIn_ret ⟨e, Env.le.refl e, rfl, hs⟩
  | exit id => intro e a w rr n hR hs; exact wpIn_exit ⟨e, Env.le.refl e, rfl, hs⟩
  | goto l => intro e a w rr n hR hs; exact wpIn_goto ⟨e, Env.le.refl e, rfl, hs⟩
  | refuse w => trivial
  | region id ops draw =>
    cases draw with
    | true => exact drawC_ok hih hm B id ops t ds r m
    | false =>
      show CodeOk P B _ t ds r m (runOps P ih ops.toList r ops.toList t ds m)
      have hx := runOps_isEx (P := P) (ih := ih) (ops := ops.toList) (r := r) ops.toList t ds m
      generalize hres : runOps P ih ops.toList r ops.toList t ds m = res at hx
      cases res with
      | no => trivial
      | ret => exact hx.elim
      | pan => exact hx.elim
      | ex x t' ds' m' =>
        intro e a w rr n hR hs
        exact wpIn_region_list (runOps_ok (hih B) ops r _ t ds m e a w (Env.le.refl e) hR hs hres)
  | seq c1 c2 => exact thenC_ok hih B c1 c2 t ds r m
  | cond x c1 c2 =>
    show CodeOk P B _ t ds r m (condC ih c1 c2 t ds r m (evO t x))
    unfold condC
    split
    · rename_i hx
      have h1 := hih B (.code c1 t ds r m)
      generalize ih (.code c1 t ds r m) = res at h1
      cases res with
      | no => trivial
      | ret => exact h1.elim
      | pan => exact h1.elim
      | ex y t' ds' m' =>
        intro e a w rr n hR hs
        exact wpIn_cond_true (den_bool (evO_ok hs.rel.glb hs.tok hx)) (h1 e a w rr n hR hs)
    · rename_i hx
      have h1 := hih B (.code c2 t ds r m)
      generalize ih (.code c2 t ds r m) = res at h1
      cases res with
      | no => trivial
      | ret => exact h1.elim
      | pan => exact h1.elim
      | ex y t' ds' m' =>
        intro e a w rr n hR hs
        exact wpIn_cond_false (den_bool (evO_ok hs.rel.glb hs.tok hx)) (h1 e a w rr n hR hs)
    · trivial
  | block id b =>
    show CodeOk P B _ t ds r m (blockC id (ih (.code b t ds r m)))
    have h1 := hih B (.code b t ds r m)
    generalize ih (.code b t ds r m) = res at h1
    cases res with
    | no => trivial
    | ret => exact h1.elim
    | pan => exact h1.elim
    | ex x t' ds' m' =>
      cases x with
      | exit i =>
        show CodeOk P B _ t ds r m (match Nat.beq i id with | true => .ex .normal t' ds' m' | false => .ex (.exit i) t' ds' m')
        split
        · rename_i hi
          have hi := Nat.eq_of_beq_eq_true hi
          subst hi
          intro e a w rr n hR hs
          refine wpIn_block (wpIn_mono (h1 e a w rr n hR hs) ?_)
          rintro y a1 w1 ⟨e1, le1, rfl, hs1⟩
          show if i = i then _ else _
          rw [if_pos rfl]
          exact ⟨e1, le1, rfl, hs1⟩
        · rename_i hi
          have hi : i ≠ id := fun hq => by rw [beqT hq] at hi; cases hi
          intro e a w rr n hR hs
          refine wpIn_block (wpIn_mono (h1 e a w rr n hR hs) ?_)
          rintro y a1 w1 ⟨e1, le1, rfl, hs1⟩
          show if i = id then _ else _
          rw [if_neg hi]
          exact ⟨e1, le1, rfl, hs1⟩
      | normal =>
        intro e a w rr n hR hs
        refine wpIn_block (wpIn_mono (h1 e a w rr n hR hs) ?_)
        rintro y a1 w1 ⟨e1, le1, rfl, hs1⟩
        exact ⟨e1, le1, rfl, hs1⟩
      | goto i =>
        intro e a w rr n hR hs
        refine wpIn_block (wpIn_mono (h1 e a w rr n hR hs) ?_)
        rintro y a1 w1 ⟨e1, le1, rfl, hs1⟩
        exact ⟨e1, le1, rfl, hs1⟩
      | ret =>
        intro e a w rr n hR hs
        refine wpIn_block (wpIn_mono (h1 e a w rr n hR hs) ?_)
        rintro y a1 w1 ⟨e1, le1, rfl, hs1⟩
        exact ⟨e1, le1, rfl, hs1⟩
      | panic v =>
        intro e a w rr n hR hs
        refine wpIn_block (wpIn_mono (h1 e a w rr n hR hs) ?_)
        rintro y a1 w1 ⟨e1, le1, ⟨V, hV, rfl⟩, hs1⟩
        exact ⟨e1, le1, ⟨V, hV, rfl⟩, hs1⟩
  | scope b =>
    show CodeOk P B _ t ds r m (scopeC (ih (.code b t ds r m)))
    have h1 := hih B (.code b t ds r m)
    generalize ih (.code b t ds r m) = res at h1
    cases res with
    | no => trivial
    | ret => exact h1.elim
    | pan => exact h1.elim
    | ex x t' ds' m' =>
      cases x with
      | goto i => trivial
      | exit i =>
        intro e a w rr n hR hs
        refine wpIn_scope' (wpIn_mono (h1 e a w rr n hR hs) ?_)
        rintro y a1 w1 ⟨e1, le1, rfl, hs1⟩
        exact ⟨e1, le1, rfl, hs1⟩
      | normal =>
        intro e a w rr n hR hs
        refine wpIn_scope' (wpIn_mono (h1 e a w rr n hR hs) ?_)
        rintro y a1 w1 ⟨e1, le1, rfl, hs1⟩
        exact ⟨e1, le1, rfl, hs1⟩
      | ret =>
        intro e a w rr n hR hs
        refine wpIn_scope' (wpIn_mono (h1 e a w rr n hR hs) ?_)
        rintro y a1 w1 ⟨e1, le1, rfl, hs1⟩
        exact ⟨e1, le1, rfl, hs1⟩
      | panic v =>
        intro e a w rr n hR hs
        refine wpIn_scope' (wpIn_mono (h1 e a w rr n hR hs) ?_)
        rintro y a1 w1 ⟨e1, le1, ⟨V, hV, rfl⟩, hs1⟩
        exact ⟨e1, le1, ⟨V, hV, rfl⟩, hs1⟩
  | loop b => exact absurd rfl (hc b)
  | rangeFunc g ps asg body => exact rangeC_ok (hih B) g ps asg body t ds r m

/-! ### loops -/
theorem exists_least {p : Nat → Prop} (h : ∃ k, p k) : ∃ k, p k ∧ ∀ j, p j → k ≤ j := by
  obtain ⟨k, hk⟩ := h
  induction k using Nat.strongRecOn with
  | _ k ih =>
    by_cases hx : ∃ j, j < k ∧ p j
    · obtain ⟨j, hj, hp⟩ := hx
      exact ih j hj hp
    · exact ⟨k, hk, fun j hj => Nat.le_of_not_lt fun hlt => hx ⟨j, hlt, hj⟩⟩
open Classical in
noncomputable def least (p : Nat → Prop) : Nat := if h : ∃ k, p k then Classical.choose (exists_least h) else 0
theorem least_spec {p : Nat → Prop} (h : ∃ k, p k) : p (least p) ∧ ∀ j, p j → least p ≤ j := by
  unfold least
  rw [dif_pos h]
  exact Classical.choose_spec (exists_least h)

theorem runC_zero (X : Ext) (k : Task) : runC P X 0 k = .no "fuel" := rfl
theorem runC_succ (X : Ext) (n : Nat) (k : Task) : runC P X (n + 1) k = stepC P X (runC P X n) k := rfl

theorem loop_ok {X : Ext} {N : Nat} (hall : ∀ j, j ≤ N → ∀ B k, TaskOk P B k (runC P X j k)) (B : Bas) (b : Code) (t : Tmps) (ds : List CDef) (r : Option Nat) (m : Mem) : CodeOk P B (.loop b) t ds r m (runC P X (N + 1) (.code (.loop b) t ds r m)) := by
  have hthen := thenC_ok (hall N (Nat.le_refl N)) B b (.loop b) t ds r m
  have heq : runC P X (N + 1) (.code (.loop b) t ds r m) = thenC (runC P X N) (.loop b) r (runC P X N (.code b t ds r m)) := rfl
  rw [← heq] at hthen
  generalize hres : runC P X (N + 1) (.code (.loop b) t ds r m) = res at hthen
  cases res with
  | no => trivial
  | ret => exact hthen.elim
  | pan => exact hthen.elim
  | ex x t' ds' m' =>
    intro e0 a0 w0 rr n hR0 hs0
    let Good : Nat → Act → World → Prop := fun k a w => k ≤ N + 1 ∧ ∃ e t ds m, Env.le e0 e ∧ Rnd e r rr ∧ St B e t ds m a w ∧ runC P X k (.code (.loop b) t ds r m) = .ex x t' ds' m'
    refine wpIn_loop (fun a w => ∃ k, Good k a w) (fun a w => least (fun k => Good k a w)) ⟨N + 1, Nat.le_refl _, e0, t, ds, m, Env.le.refl _, hR0, hs0, hres⟩ fun a w hI => ?_
    obtain ⟨hg, hmin⟩ := least_spec hI
    generalize least (fun k => Good k a w) = k at hg hmin
    obtain ⟨hkN, e, t1, ds1, m1, hle, hR, hs, hrun⟩ := hg
    cases k with
    | zero => rw [runC_zero] at hrun; cases hrun
    | succ j =>
      have hj : j ≤ N := by omega
      have hrun' : thenC (runC P X j) (.loop b) r (runC P X j (.code b t1 ds1 r m1)) = .ex x t' ds' m' := hrun
      have hb := hall j hj B (.code b t1 ds1 r m1)
      generalize runC P X j (.code b t1 ds1 r m1) = res at hrun' hb
      cases res with
      | no => cases hrun'
      | ret => exact hb.elim
      | pan => exact hb.elim
      | ex y t2 ds2 m2 =>
        refine wpIn_mono (hb e a w rr n hR hs) ?_
        rintro z a2 w2 ⟨e2, le2, hy, hs2⟩
        cases y with
        | normal =>
          obtain rfl : z = .normal := hy
          have hgood : Good j a2 w2 := ⟨by omega, e2, t2, ds2, m2, hle.trans le2, hR.mono le2, hs2, hrun'⟩
          exact ⟨⟨j, hgood⟩, Nat.lt_succ_of_le ((least_spec ⟨j, hgood⟩).2 j hgood)⟩
        | exit i => cases hrun'; obtain rfl : z = .exit i := hy; exact ⟨e2, hle.trans le2, rfl, hs2⟩
        | goto i => cases hrun'; obtain rfl : z = .goto i := hy; exact ⟨e2, hle.trans le2, rfl, hs2⟩
        | ret => cases hrun'; obtain rfl : z = .ret := hy; exact ⟨e2, hle.trans le2, rfl, hs2⟩
        | panic v =>
          cases hrun'
          obtain ⟨V, hV, rfl⟩ := hy
          exact ⟨e2, hle.trans le2, ⟨V, hV, rfl⟩, hs2⟩

/-! ### deferred calls -/
theorem dcallBody_ok {B : Bas} {ih : Task → Res} (hih : ∀ k, TaskOk P B k (ih k)) (f : FuncId) (args : List CV) (m : Mem) {fn : Func} (hfn : P.funcs[f]? = some fn) : DCallOk P B f args m (callBody P ih fn args m (leaveD P fn.results.toList) fn.body) := by
    generalize hb : fn.body = bd
    cases bd with
    | none => trivial
    | some c =>
      unfold callBody
      simp only
      split
      · rename_i hc
        simp only [Bool.and_eq_true] at hc
        have hl := Nat.le_of_ble_eq_true hc.1
        have henter := callFunc_ok hfn hb hc.2
        have hcode := hih (.code c ⟨fn.ntmps, ofList 0 args .nil⟩ [] none m)
        generalize ih (.code c ⟨fn.ntmps, ofList 0 args .nil⟩ [] none m) = res at hcode
        have body : ∀ {x : CEx} {t : Tmps} {m1 : Mem}, (x = .normal ∨ x = .ret) → CodeOk P B c ⟨fn.ntmps, ofList 0 args .nil⟩ [] none m (.ex x t [] m1) → DCallOk P B f args m (leave P (fun _ => .no "deferred") fn.results.toList t [] m1) := fun {x t m1} hx hco => by
          show DCallOk P B f args m (match resV P t m1 fn.results.toList with | some vs => .ret (oneOf vs) m1 | none => .no _)
          split
          · rename_i vs hvs
            refine ⟨henter, fun e as w n has hr => ?_⟩
            refine callsDIn_of_wp hfn hb trivial ?_
            refine wpIn_mono (hco e { tmps := _, defers := [] } w none n (.inl ⟨rfl, rfl⟩) ⟨hr, entry_ok has hl, rfl⟩) ?_
            rintro y a w' ⟨e1, le1, hy, hs⟩
            have hd : a.defers = [] := hs.dok
            obtain ⟨V, k1, k2⟩ := results_ok hs.tok hs.rel hvs
            rcases hx with rfl | rfl
            · obtain rfl : y = .normal := hy
              exact ⟨hd, V, k2, e1, V, le1, k1, rfl, hs.rel⟩
            · obtain rfl : y = .ret := hy
              exact ⟨hd, V, k2, e1, V, le1, k1, rfl, hs.rel⟩
          · trivial
        unfold leaveD
        split
        · exact body (.inl rfl) hcode
        · exact body (.inr rfl) hcode
        · trivial
        · trivial
      · trivial

/-- Pieces of code, one behind the other. -/
def WpL (n : Nat) (P : Program) : List Code → (Exit → Act → World → Prop) → Act → World → Prop
  | [], Q, a, w => Q .normal a w
  | b :: r, Q, a, w => b.wpIn (FW none) n P (fun y a w => match y with
    | .normal => WpL n P r Q a w
    | y => Q y a w) a w
theorem WpL_snoc {n : Nat} {y : Code} {Q : Exit → Act → World → Prop} : ∀ {r : List Code} {a : Act} {w : World}, WpL n P (r ++ [y]) Q a w → WpL n P r (fun e a w => match e with
    | .normal => y.wpIn (FW none) n P Q a w
    | e => Q e a w) a w
  | [], a, w, h => by
    refine wpIn_mono h ?_
    rintro e a w he
    cases e <;> exact he
  | b :: r, a, w, h => by
    refine wpIn_mono h ?_
    rintro e a w he
    cases e <;> first | exact WpL_snoc he | exact he
theorem WpL_mono {n : Nat} {Q Q' : Exit → Act → World → Prop} (hq : ∀ e a w, Q e a w → Q' e a w) : ∀ {r : List Code} {a : Act} {w : World}, WpL n P r Q a w → WpL n P r Q' a w
  | [], a, w, h => hq _ _ _ h
  | b :: r, a, w, h => by
    refine wpIn_mono h ?_
    rintro e a w he
    cases e <;> first | exact WpL_mono hq he | exact hq _ _ _ he
theorem runL_ok {B : Bas} {ih : Task → Res} (hih : ∀ k, TaskOk P B k (ih k)) {n : Nat} {x : CEx} {t' : Tmps} {ds' : List CDef} {m' : Mem} : ∀ {r : List Code} {t : Tmps} {ds : List CDef} {m : Mem} {e0 e : Env} {a : Act} {w : World}, runL ih r t ds m = .ex x t' ds' m' → Env.le e0 e → St B e t ds m a w → WpL n P r (Post B e0 x t' ds' m') a w
  | [], t, ds, m, e0, e, a, w, h, hle, hs => by
    simp only [runL, Res.ex.injEq] at h
    obtain ⟨rfl, rfl, rfl, rfl⟩ := h
    exact ⟨e, hle, rfl, hs⟩
  | b :: r, t, ds, m, e0, e, a, w, h, hle, hs => by
    have hb := hih (.code b t ds none m)
    simp only [runL] at h
    generalize ih (.code b t ds none m) = res at h hb
    cases res with
    | no => cases h
    | ret => cases h
    | pan => cases h
    | ex x1 t1 ds1 m1 =>
      refine wpIn_mono (hb e a w none n (.inl ⟨rfl, rfl⟩) hs) ?_
      rintro y a1 w1 ⟨e1, le1, hy, hs1⟩
      cases x1 with
      | normal =>
        obtain rfl : y = .normal := hy
        exact runL_ok hih h (hle.trans le1) hs1
      | exit i => cases h; obtain rfl : y = .exit i := hy; exact ⟨e1, hle.trans le1, rfl, hs1⟩
      | goto i => cases h; obtain rfl : y = .goto i := hy; exact ⟨e1, hle.trans le1, rfl, hs1⟩
      | ret => cases h; obtain rfl : y = .ret := hy; exact ⟨e1, hle.trans le1, rfl, hs1⟩
      | panic v =>
        cases h
        obtain ⟨V, hV, rfl⟩ := hy
        exact ⟨e1, hle.trans le1, ⟨V, hV, rfl⟩, hs1⟩

theorem split_wp {n : Nat} {cs cs' : List Frame} {w w' : World} {a : Act} {G : Act → Prop} : ∀ {c : Code} {ops : Array Oper} {rs : List Code} {Q : Exit → Act → List Frame → World → Prop}, recSplit c = some (ops, rs) →
    (∀ Q' : Exit → Act → List Frame → World → Prop, (∀ a', G a' → Q' .normal a' cs' w') → wpOpsSIn (FW none) n P ops Q' (List.range ops.size) a cs w) → (∀ a', G a' → WpL n P rs (fun e a w => Q e a cs' w) a' w') → c.wpSIn (FW none) n P Q a cs w
  | .region _ ops false, _, _, Q, h, hr, hl => by
    simp only [recSplit, Option.some.injEq, Prod.mk.injEq] at h
    obtain ⟨rfl, rfl⟩ := h
    exact wpSIn_region (hr Q hl)
  | .seq x y, ops, rs, Q, h, hr, hl => by
    simp only [recSplit] at h
    split at h
    · rename_i ops' r hx
      simp only [Option.some.injEq, Prod.mk.injEq] at h
      obtain ⟨rfl, rfl⟩ := h
      refine wpSIn_seq (split_wp hx hr (fun a' ha => WpL_mono (fun e a w he => ?_) (WpL_snoc (hl a' ha))))
      cases e <;> first | exact wpSIn_of_wpIn rfl he | exact he
    · cases h
  | .region _ _ true, _, _, _, h, _, _ => by simp [recSplit] at h
  | .skip, _, _, _, h, _, _ => by simp [recSplit] at h
  | .cond _ _ _, _, _, _, h, _, _ => by simp [recSplit] at h
  | .block _ _, _, _, _, h, _, _ => by simp [recSplit] at h
  | .loop _, _, _, _, h, _, _ => by simp [recSplit] at h
  | .rangeFunc _ _ _ _, _, _, _, h, _, _ => by simp [recSplit] at h
  | .exit _, _, _, _, h, _, _ => by simp [recSplit] at h
  | .scope _, _, _, _, h, _, _ => by simp [recSplit] at h
  | .label _, _, _, _, h, _, _ => by simp [recSplit] at h
  | .goto _, _, _, _, h, _, _ => by simp [recSplit] at h
  | .ret, _, _, _, h, _, _ => by simp [recSplit] at h
  | .refuse _, _, _, _, h, _, _ => by simp [recSplit] at h

theorem isRecover_run {o : Oper} (h : isRecover o.op = true) (ρ : Operand → Value) (w : World) : (execOp ρ o).run P w = .ok .recover w ∧ ∀ f, o.about P w ρ ≠ some f := by
  obtain ⟨dst, op, ty, pos, aft, g⟩ := o
  unfold isRecover at h
  split at h
  · rename_i hq
    simp only at hq
    subst hq
    exact ⟨rfl, fun f hf => by simp [Oper.about, resolve, Target.leads] at hf⟩
  · cases h

/-- Operations behind recover that only compute. -/
theorem recOps_ok {B : Bas} {n : Nat} {ops : Array Oper} {m : Mem} {cs : List Frame} {e : Env} {w : World} (hr : Rel B e m w) {t' : Tmps} {Q : Exit → Act → List Frame → World → Prop} {ds : List Deferred} : ∀ (l : List Nat) (os : List Oper) (t : Tmps) (a : Act), (∀ (i : Nat), os[i]? = (l[i]?).bind fun (k : Nat) => ops[k]?) → l.length = os.length → recOps P m os t = some t' → TOk e t a.tmps → a.defers = ds →
    (∀ a', TOk e t' a'.tmps → a'.defers = ds → Q .normal a' cs w) → wpOpsSIn (FW none) n P ops Q l a cs w
  | [], os, t, a, ho, hlen, h, hT, hd, hQ => by
    obtain rfl : os = [] := List.eq_nil_of_length_eq_zero (by simpa using hlen.symm)
    simp only [recOps, Option.some.injEq] at h; subst h
    exact hQ a hT hd
  | k :: l, [], t, a, ho, hlen, _, _, _, _ => by simp at hlen
  | k :: l, o :: os, t, a, ho, hlen, h, hT, hd, hQ => by
    have hk : ops[k]? = some o := by have := ho 0; simpa using this.symm
    simp only [recOps] at h
    split at h
    · rename_i d v hg hdst hv
      split at h
      · rename_i hb
        have hout := cop_ok (P := P) (o := o) (a := a) hr hT
        rw [hv] at hout
        obtain ⟨V, hV, hrun⟩ := hout
        simp only [wpOpsSIn, hk]
        refine ⟨fun _ _ => trivial, ?_⟩
        rw [if_pos (guardC_ok (ops := ops) (o := o) (b := true) hT (by rw [hg]; rfl)), hrun]
        simp only [hdst]
        refine recOps_ok hr l os (t.set d v) (a.put (some d) V) (fun i => by have := ho (i + 1); simpa using this) (by simpa using hlen) h (hT.put hV (Nat.le_of_ble_eq_true hb)) (by rw [put_defers]; exact hd) hQ
      · cases h
    · cases h

theorem recCall_ok {B : Bas} {ih : Task → Res} (hih : ∀ k, TaskOk P B k (ih k)) {f : FuncId} {args : List CV} {m m' : Mem} {fn : Func} {c : Code} {ops : Array Oper} {rest : List Code} {rv v : CV} (hfn : P.funcs[f]? = some fn) (hb : fn.body = some c) (hs : recSplit c = some (ops, rest)) (h : recCall P ih fn args m rv ops.toList rest = .ret v m') :
    (∀ as w, (callFunc f as).run P w = .ok (.enter f as) w) ∧ ∀ e as w V n u u1, denL e args = some as → den e rv = some V → Rel B e m w → (∀ (c₀ : Frame) (cs : List Frame), c₀.mode = u → (match recoverD (c₀ :: cs) with | some (x, cs') => x = V ∧ cs' = { c₀ with mode := u1 } :: cs | none => V = .nilIface ∧ u1 = u)) →
      CallsDIn Fence.wide n P f as.toArray u w fun en u' w' => u' = u1 ∧ Back B e v m' en w' := by
  unfold recCall at h
  split at h
  · rename_i hc
    simp only [Bool.and_eq_true] at hc
    have hl := Nat.le_of_ble_eq_true hc.1
    have henter := callFunc_ok hfn hb hc.2
    split at h
    · rename_i t hgo
      refine ⟨henter, fun e as w V n u u1 has hV hr hrec => ?_⟩
      have hleave : ∃ x t2 m2, (x = CEx.normal ∨ x = CEx.ret) ∧ runL ih rest t [] m = .ex x t2 [] m2 ∧ leave P (fun _ => .no "deferred") fn.results.toList t2 [] m2 = .ret v m' := by
        generalize runL ih rest t [] m = res at h
        unfold leaveD at h
        split at h
        · exact ⟨_, _, _, .inl rfl, rfl, h⟩
        · exact ⟨_, _, _, .inr rfl, rfl, h⟩
        · cases h
        · cases h
      obtain ⟨x, t2, m2, hx, hrun, hlv⟩ := hleave
      have hlv' : (match resV P t2 m2 fn.results.toList with | some vs => Res.ret (oneOf vs) m2 | none => .no _) = .ret v m' := hlv
      split at hlv'
      · rename_i vs hvs
        injection hlv' with h1 h2
        subst h1; subst h2
        refine callsDIn_of_wpSIn hfn hb trivial fun c₀ cs hu => ?_
        -- the first region
        cases hops : ops.toList with
        | nil => rw [hops] at hgo; simp [recGo] at hgo
        | cons o os =>
          rw [hops] at hgo
          simp only [recGo] at hgo
          split at hgo
          · rename_i d hg hdst hisr
            split at hgo
            · rename_i hdb
              have hT0 := entry_ok has hl
              have hT1 := hT0.put hV (Nat.le_of_ble_eq_true hdb)
              have hrg : List.range ops.size = 0 :: (List.range os.length).map (· + 1) := by
                have : ops.size = os.length + 1 := by rw [← Array.length_toList, hops]; rfl
                rw [this, List.range_succ_eq_map]
              have ho0 : ops[0]? = some o := by rw [← Array.getElem?_toList, hops]; rfl
              have hoj : ∀ i, os[i]? = (((List.range os.length).map (· + 1))[i]?).bind fun k => ops[k]? := fun i => by
                rw [List.getElem?_map]
                by_cases hi : i < os.length
                · rw [List.getElem?_range hi]
                  simp only [Option.map_some, Option.bind_some]
                  rw [← Array.getElem?_toList, hops, List.getElem?_cons_succ]
                · rw [List.getElem?_eq_none (by omega), List.getElem?_eq_none (by simp; omega)]; rfl
              obtain ⟨hex, hab⟩ := isRecover_run (P := P) hisr (ρ := Act.eval { tmps := as.toArray ++ Array.replicate (fn.ntmps - as.toArray.size) undef, defers := [] }) (w := w)
              have hreg : ∀ (cs' : List Frame), (match recoverD (c₀ :: cs) with | some (x, cs2) => (x = V ∧ cs2 = cs') | none => V = .nilIface ∧ cs' = c₀ :: cs) → ∀ Q' : Exit → Act → List Frame → World → Prop, (∀ a', TOk e t a'.tmps ∧ a'.defers = [] → Q' .normal a' cs' w) → wpOpsSIn (FW none) n P ops Q' (List.range ops.size) { tmps := as.toArray ++ Array.replicate (fn.ntmps - as.toArray.size) undef, defers := [] } (c₀ :: cs) w := by
                intro cs' hm Q' hQ'
                rw [hrg]
                simp only [wpOpsSIn, ho0]
                refine ⟨fun f hf => absurd hf (hab f), ?_⟩
                rw [if_pos (guardC_ok (a := { tmps := as.toArray ++ Array.replicate (fn.ntmps - as.toArray.size) undef, defers := [] }) (ops := ops) (o := o) (b := true) hT0 (by rw [hg]; rfl)), hex]
                simp only [hdst]
                have hfin : ∀ cs', (∀ a', TOk e t a'.tmps ∧ a'.defers = [] → Q' .normal a' cs' w) → wpOpsSIn (FW none) n P ops Q' ((List.range os.length).map (· + 1)) (Act.put { tmps := as.toArray ++ Array.replicate (fn.ntmps - as.toArray.size) undef, defers := [] } (some d) V) cs' w := fun cs' hQ' =>
                  recOps_ok hr _ os _ _ hoj (by simp) hgo hT1 (by rw [put_defers]) fun a' h1 h2 => hQ' a' ⟨h1, h2⟩
                split
                · rename_i x cs2 hq
                  rw [hq] at hm
                  obtain ⟨rfl, rfl⟩ := hm
                  exact hfin _ hQ'
                · rename_i hq
                  rw [hq] at hm
                  obtain ⟨rfl, rfl⟩ := hm
                  exact hfin _ hQ'
              have hmm := hrec c₀ cs hu
              refine split_wp (G := fun a' => TOk e t a'.tmps ∧ a'.defers = []) (cs' := { c₀ with mode := u1 } :: cs) (w' := w) hs (hreg _ ?_) (fun a' ha => ?_)
              · cases hq : recoverD (c₀ :: cs) with
                | none =>
                  rw [hq] at hmm
                  obtain ⟨h1, rfl⟩ := hmm
                  exact ⟨h1, by subst hu; rfl⟩
                | some xc =>
                  obtain ⟨x, cs2⟩ := xc
                  rw [hq] at hmm
                  exact hmm
              · refine WpL_mono (fun y a2 w2 hy => ?_) (runL_ok hih hrun (Env.le.refl e) ⟨hr, ha.1, ha.2⟩)
                obtain ⟨e1, le1, hy, hs1⟩ := hy
                have hd : a2.defers = [] := hs1.dok
                obtain ⟨V2, k1, k2⟩ := results_ok hs1.tok hs1.rel hvs
                rcases hx with rfl | rfl
                · obtain rfl : y = .normal := hy
                  exact ⟨hd, u1, rfl, V2, k2, rfl, e1, V2, le1, k1, rfl, hs1.rel⟩
                · obtain rfl : y = .ret := hy
                  exact ⟨hd, u1, rfl, V2, k2, rfl, e1, V2, le1, k1, rfl, hs1.rel⟩
            · cases hgo
          · cases hgo
      · cases hlv'
    · cases h
  · cases h

theorem recCall_shape {ih : Task → Res} {fn : Func} {args : List CV} {m : Mem} {rv : CV} {ops : List Oper} {rest : List Code} : (∃ w, recCall P ih fn args m rv ops rest = .no w) ∨ ∃ v m', recCall P ih fn args m rv ops rest = .ret v m' := by
  unfold recCall
  split
  · split
    · unfold leaveD
      split
      · exact leave_shape _ _
      · exact leave_shape _ _
      · exact .inl ⟨_, rfl⟩
      · exact .inl ⟨_, rfl⟩
    · exact .inl ⟨_, rfl⟩
  · exact .inl ⟨_, rfl⟩
theorem dcallC_ok {B : Bas} {ih : Task → Res} (hih : ∀ k, TaskOk P B k (ih k)) (f : FuncId) (args : List CV) (m : Mem) : DCallOk P B f args m (dcallC P ih args m P.funcs[f]?) := by
  generalize hfn : P.funcs[f]? = q
  cases q with
  | none => trivial
  | some fn =>
    unfold dcallC
    simp only
    split
    · rename_i ops rest hs
      split
      · rcases recCall_shape (P := P) (ih := ih) (fn := fn) (args := args) (m := m) (rv := .nili) (ops := ops.toList) (rest := rest) with ⟨w, hw⟩ | ⟨v, m', hw⟩
        · rw [hw]; trivial
        · cases hb : fn.body with
          | none => rw [hb] at hs; cases hs
          | some c =>
            rw [hb] at hs
            rw [hw]
            obtain ⟨h1, h2⟩ := recCall_ok hih hfn hb hs hw
            exact ⟨h1, fun e as w n has hr => h2 e as w .nilIface n .returning .returning has rfl hr fun c₀ cs hu => by simp [recoverD, hu]⟩
      · exact dcallBody_ok hih f args m hfn
    · exact dcallBody_ok hih f args m hfn
theorem rcallC_ok {B : Bas} {ih : Task → Res} (hih : ∀ k, TaskOk P B k (ih k)) (f : FuncId) (args : List CV) (v : CV) (m : Mem) : RCallOk P B f args v m (rcallC P ih args m v P.funcs[f]?) := by
  generalize hfn : P.funcs[f]? = q
  cases q with
  | none => trivial
  | some fn =>
    unfold rcallC
    simp only
    split
    · rename_i c hb
      split
      · rename_i ops rest hs
        rcases recCall_shape (P := P) (ih := ih) (fn := fn) (args := args) (m := m) (rv := v) (ops := ops.toList) (rest := rest) with ⟨w, hw⟩ | ⟨u, m', hw⟩
        · rw [hw]; trivial
        · rw [hw]
          obtain ⟨h1, h2⟩ := recCall_ok hih hfn hb hs hw
          exact ⟨h1, fun e as w V n has hV hr => h2 e as w V n _ _ has hV hr fun c₀ cs hu => by simp [recoverD, hu]⟩
      · trivial
    · trivial

/-- What a contract says; its result may name one thing that was not there before. -/
def ExtOk (P : Program) (X : Ext) : Prop := ∀ f g, X f = some g → ∀ m args v, g m args = some v → (∀ as w, (callFunc f as).run P w = .ok (.enter f as) w) ∧
  ∀ e as w, denL e args = some as → Mok e m w → (∀ g, g < 64 → e g = some ⟨g, 0, 0, 0⟩) → Calls P f as.toArray w fun en w' => (∃ e' V, (∀ t, t ≠ m.nxt → e' t = e t) ∧ den e' v = some V ∧ en = .returned V) ∧ Below w.heap.size w w'
/-- The same, of results that name nothing new. -/
def ExtOk0 (P : Program) (X : Ext) : Prop := ∀ f g, X f = some g → ∀ m args v, g m args = some v → (∀ as w, (callFunc f as).run P w = .ok (.enter f as) w) ∧
  ∀ e as w, denL e args = some as → Mok e m w → (∀ g, g < 64 → e g = some ⟨g, 0, 0, 0⟩) → ∃ V, den e v = some V ∧ Calls P f as.toArray w fun en w' => en = .returned V ∧ Below w.heap.size w w'
theorem ExtOk0.to {X : Ext} (h : ExtOk0 P X) : ExtOk P X := fun f g hx m args v hg => by
  obtain ⟨h1, h2⟩ := h f g hx m args v hg
  refine ⟨h1, fun e as w h3 h4 h5 => ?_⟩
  obtain ⟨V, h6, h7⟩ := h2 e as w h3 h4 h5
  exact h7.mono fun en w' ⟨h8, h9⟩ => ⟨⟨e, V, fun _ _ => rfl, h6, h8⟩, h9⟩

theorem Rel.below {B : Bas} {e : Env} {m : Mem} {w w' : World} (h : Rel B e m w) (hb : Below w.heap.size w w') : Rel B e m w' := by
  refine ⟨fun t o ho => ?_, h.inj0, h.own, h.rof, h.glb, h.dom, h.frm.trans ⟨hb.os, hb.tape, hb.output, hb.size, fun k hk => hb.block k (h.frF hk)⟩, h.zlt, h.bar⟩
  have hok := h.ok t o ho
  refine objOk_mono (Env.le.refl e) (fun b hb' => ?_) hok
  obtain ⟨b2, x, h1, h2⟩ := objOk_env hok
  rw [h1] at hb'; cases hb'
  exact hb.block _ (heap_lt h2)

theorem Rel.up {B : Bas} {e e' : Env} {m : Mem} {w w' : World} (h : Rel B e m w) (hb : Below w.heap.size w w') (he : ∀ t, t ≠ m.nxt → e' t = e t) : Rel B e' m.up w' := by
  have hle : Env.le e e' := fun t b hb' => by
    by_cases ht : t = m.nxt
    · rw [h.dom t (by omega)] at hb'; cases hb'
    · rw [he t ht]; exact hb'
  have hne : ∀ t o b, m.get t = some o → e' t = some b → e t = some b := fun t o b ho hb' => by
    by_cases ht : t = m.nxt
    · obtain ⟨b2, x, h1, h2⟩ := objOk_env (h.ok t o ho)
      rw [h.dom t (by omega)] at h1; cases h1
    · rw [← he t ht]; exact hb'
  have h0 := h.below hb
  refine ⟨fun t o ho => objOk_mono hle (fun b hb' => rfl) (h0.ok t o ho), fun t t' o o' b b' h1 h2 h3 h4 h5 h6 => h.inj0 t t' o o' b b' h1 h2 h3 h4 (hne t o b h1 h5) (hne t' o' b' h2 h6), fun t o b h1 h2 h3 => h.own t o b h1 h2 (hne t o b h1 h3), fun t o b h1 h2 h3 => h.rof t o b h1 h2 (hne t o b h1 h3), fun g hg => hle _ _ (h.glb g hg), fun t ht => ?_, h0.frm, fun t ht => Nat.lt_succ_of_lt (h.zlt t ht), fun t ht => ?_⟩
  · have ht : m.nxt + 1 ≤ t := ht
    rw [he t (by omega)]; exact h.dom t (by omega)
  · have := h.zlt t ht
    rw [he t (by omega)]; exact h.bar t ht

theorem runC_ok {X : Ext} (hX : ExtOk P X) (hm : P.follows .mixedOrders = true) : ∀ (n : Nat) (B : Bas) (k : Task), TaskOk P B k (runC P X n k) := by
  intro n
  induction n using Nat.strongRecOn with
  | _ n ih =>
    intro B k
    cases n with
    | zero => cases k <;> trivial
    | succ N =>
      have hall : ∀ j, j ≤ N → ∀ B k, TaskOk P B k (runC P X j k) := fun j hj => ih j (by omega)
      have hN := hall N (Nat.le_refl N)
      cases k with
      | call f args m =>
        show CallOk P B f args m (callX P (runC P X N) f args m (X f))
        cases hx : X f with
        | none => exact callC_ok (hN B) f args m
        | some g =>
          show CallOk P B f args m (extC m (g m args))
          cases hg : g m args with
          | none => trivial
          | some v =>
            obtain ⟨h1, h2⟩ := hX f g hx m args v hg
            refine .inl ⟨h1, fun e as w has hr => ?_⟩
            have hc := h2 e as w has hr.ok hr.glb
            exact hc.mono fun en w' ⟨⟨e', V, he', hV, he⟩, hb⟩ => ⟨e', V, fun t b hb' => by
              by_cases ht : t = m.nxt
              · rw [hr.dom t (by omega)] at hb'; cases hb'
              · rw [he' t ht]; exact hb', hV, he, hr.up hb he'⟩
      | dcall f args m => exact dcallC_ok (hN B) f args m
      | rcall f args v m => exact rcallC_ok (hN B) f args v m
      | code c t ds r m =>
        by_cases hc : ∃ b, c = .loop b
        · obtain ⟨b, rfl⟩ := hc
          exact loop_ok hall B b t ds r m
        · exact codeC_ok hN hm B c (fun b hb => hc ⟨b, hb⟩) t ds r m

/-- The whole run of a call: what it returns, from a world whose variables are as the evaluator's memory has them. -/
theorem run_calls {X : Ext} (hX : ExtOk P X) (hm : P.follows .mixedOrders = true) {n : Nat} {f : FuncId} {args : List CV} {m m' : Mem} {v : CV} (h : runC P X n (.call f args m) = .ret v m') {B : Bas} {e : Env} {as : List Value} {w : World} (hv : ∀ t off, v ≠ .ptr t off) (has : denL e args = some as) (hr : Rel B e m w) :
    Calls P f as.toArray w (Back B e v m') := by
  have := runC_ok hX hm n B (.call f args m)
  rw [h] at this
  rcases this with this | ⟨t, off, _, hq, _⟩
  · exact this.2 e as w has hr
  · exact absurd hq (hv t off)
end Go.Cx
