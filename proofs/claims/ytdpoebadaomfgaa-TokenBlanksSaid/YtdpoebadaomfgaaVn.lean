/-
  A verification-condition generator for Go's IR. Part n: the generator is sound; contracts of functions.
-/
import Derived.Test.YtdpoebadaomfgaaVr
import Derived.RangeFuncLeaves
import Derived.Scope
set_option linter.unusedSimpArgs false
set_option linter.unusedVariables false
namespace Go.Pw
open Go Go.RowKit
variable {G : Base} {e : Env} {t : List SV} {o : List (Option SObj)} {h : Hp} {a : Act} {w : World} {P : Program} {c : Cfg} {gs : List Nat}

theorem putC_ok {K : SK} {x : Operand} {b : Bool} {v : SV} (hr : Rel G e t o h a w) (hx : ev t x = v) (hv : v ≠ .junk) (hd : den e v = .bool b) (hk : putC x b t o h K) : ∃ t', K t' o h ∧ Rel G e t' o h a w := by
  unfold putC at hk
  split at hk
  · rename_i d
    rw [setK_eq] at hk
    refine ⟨_, hk, hr.retok ?_ rfl⟩
    have h1 := ev_sat hr.tok (.tmp d)
    rw [hx] at h1
    have h2 := h1.eq hv
    have h3 := hr.tok.set (x := .bool b) (v := .bool b) (.inr ⟨rfl, rfl⟩) d
    by_cases hlt : d < a.tmps.size
    · have h4 : a.tmps.setIfInBounds d (.bool b) = a.tmps := by
        have h5 : a.tmps[d] = .bool b := by
          simp only [Act.eval] at h2
          rw [Array.getD_eq_getD_getElem?, Array.getElem?_eq_getElem hlt] at h2
          simpa [hd] using h2
        ext i hi1 hi2
        · simp
        · rw [Array.getElem_setIfInBounds]
          split
          · rename_i heq; subst heq; exact h5.symm
          · rfl
      rwa [h4] at h3
    · have h5 := hr.tok.1
      have h4 : t.set d (.bool b) = t := List.set_eq_of_length_le (Nat.le_trans (Nat.le_of_eq h5.symm) (Nat.le_of_not_lt hlt))
      rw [h4]; exact hr.tok
  · exact ⟨_, hk, hr⟩

theorem wpIn_scope {F : Fence} {n : Nat} {Q : Exit → Act → World → Prop} {b : Code} (h : b.wpIn F n P (Exit.noGoto Q) a w) : (Code.scope b).wpIn F n P Q a w := by
  intro fr k cs hro hb hr
  have h0 : (lone (fr.atR a (.code (.scope b) :: k)) cs w).fenced P F := fenced_calm hb hr rfl
  have s0 : step P (lone (fr.atR a (.code (.scope b) :: k)) cs w) = .next (lone (fr.atR a (.code b :: .inScope b :: k)) cs w) :=
    step_lone_go (by simp [stepG, stepG.exec, Frame.atR])
  have s1 : ∀ a w, step P (lone (fr.atR a (.inScope b :: k)) cs w) = .next (lone (fr.atR a k) cs w) := fun a w =>
    step_lone_go (by simp [stepG, stepG.exec, Frame.atR])
  obtain ⟨e, a₁, w₁, hq, harr⟩ := h fr (.inScope b :: k) cs hro hb hr
  cases e with
  | normal => exact ⟨.normal, a₁, w₁, hq, .head h0 s0 (StepsIn.trans harr (.one (fenced_calm hb hr rfl) (s1 a₁ w₁)))⟩
  | exit id =>
    have hx : exitTo id (.inScope b :: k) = exitTo id k := by simp [exitTo]
    exact ⟨_, a₁, w₁, hq, fun k' hk => .head h0 s0 (harr.1 k' (by rw [hx]; exact hk)),
      fun hr' hk => let ⟨k₁, h1, h2⟩ := harr.2 hr' (by rw [hx]; exact hk); ⟨k₁, h1, .head h0 s0 h2⟩⟩
  | goto l => exact hq.elim
  | ret => exact ⟨_, a₁, w₁, hq, .of_steps (.one h0 s0) harr⟩
  | panic ch => exact ⟨_, a₁, w₁, hq, .of_steps (.one h0 s0) harr⟩
  | outgrown => exact ⟨_, a₁, w₁, hq, .of_steps (.one h0 s0) harr⟩

theorem swp_sound : ∀ (code : Code) (c : Cfg) (r : Option Nat) (n : Nat) (G : Base) (K : SX → SK) (Q : Exit → Act → World → Prop), (c.round = false → r = none) → YCfg P G c → NxtX G K Q → ∀ (e : Env) (t : List SV) (o : List (Option SObj)) (h : Hp) (a : Act) (w : World),
    Rel G e t o h a w → swp P c code t o h K → code.wpIn (FW r) n P Q a w
  | .skip, c, r, n, G, K, Q, hro, hc, hn, _, _, _, _, _, _, hr, hk => wpIn_skip (hn .normal _ _ _ _ _ _ hk hr)
  | .label _, c, r, n, G, K, Q, hro, hc, hn, _, _, _, _, _, _, hr, hk => wpIn_label (hn .normal _ _ _ _ _ _ hk hr)
  | .ret, c, r, n, G, K, Q, hro, hc, hn, _, _, _, _, _, _, hr, hk => wpIn_ret (hn .ret _ _ _ _ _ _ hk hr)
  | .exit id, c, r, n, G, K, Q, hro, hc, hn, _, _, _, _, _, _, hr, hk => wpIn_exit (hn (.exit id) _ _ _ _ _ _ hk hr)
  | .region id ops false, c, r, n, G, K, Q, hro, hc, hn, e, t, o, h, a, w, hr, hk =>
    wpIn_region_list (sops_sound (K := K .normal) hc (fun e t o h a w hk hr => hn .normal _ _ _ _ _ _ hk hr) _ e t o h a w hr hk)
  | .region id ops true, c, r, n, G, K, Q, hro, hc, hn, e, t, o, h, a, w, hr, hk => by
    rw [swp_draw_eq] at hk
    unfold drawC at hk
    split at hk
    · rw [drawD_eq] at hk
      split at hk
      · exact hk.elim
      · rename_i hnd
        split at hk
        · obtain ⟨hmB, hk⟩ := hk
          have hmB := ClosedB.out hmB
          simp only [Bool.and_eq_true] at hmB
          obtain ⟨hm, hB⟩ := hmB
          refine region_draw_round hnd hm ?_
          simp only [Region.lexB, Bool.and_eq_true] at hB
          refine wpAnyIn_of_quiet (Q := fun a' => ∀ w', Cls G a.defers e o h w' → Q .normal a' w') rfl (fun _ w' hw' h => h w' hw') _ _ _ _ hr.wok.drew ?_
          have hq := sopsQ_sound (G := G) (D := a.defers) (K := K .normal) (n := n) (ops := ops) (QQ := fun a' => ∀ w', Cls G a.defers e o h w' → Q .normal a' w') (fun _ => hr.obB)
            (fun t' a' hk' hT' hd' w' hw' => hn .normal e t' o h a' w' hk' ⟨hT', hd' ▸ hw', hr.kl⟩) ops.toList t a hr.tok rfl hk
          have := wpAnyQIn_lex (F := FW none) (n := n) (C := Cls G a.defers e o h) (md := .any) hB.1 ops.toList 0 (Array.replicate ops.size false) a (by simp) (by simpa using hB.2) hq
          simpa using this
        · rename_i m _
          obtain ⟨hmB, hk⟩ := hk
          have hmB := ClosedB.out hmB
          simp only [Bool.and_eq_true] at hmB
          obtain ⟨hm, hB⟩ := hmB
          refine region_draw_round hnd hm (wpAnyIn_quiet_tail (C := Cls G a.defers e o h) m rfl hB hr.wok.drew ?_)
          refine sopsQ_sound (G := G) (D := a.defers) (n := n) (ops := ops) (fun _ => hr.obB) (fun t' a' hk' hT' hd' w' hw' => ?_) _ t a hr.tok rfl hk
          exact sops_sound (K := K .normal) hc (fun e t o h a w hk hr => hn .normal _ _ _ _ _ _ hk hr) _ e t' o h a' w' ⟨hT', hd' ▸ hw', hr.kl⟩ hk'
    · split at hk
      · exact hk.elim
      · rename_i hnd
        exact pullC_sound hn hr hnd hk
  | .seq x y, c, r, n, G, K, Q, hro, hc, hn, e, t, o, h, a, w, hr, hk => by
    rw [swp_seq_eq] at hk
    refine wpIn_seq ?_
    split at hk
    · refine swp_sound x c r n G _ _ hro hc (fun z e t o h a w hk hr => ?_) e t o h a w hr hk
      cases z with
      | normal => exact swp_sound y c r n G K Q hro hc hn e t o h a w hr hk
      | exit id => exact hn (.exit id) _ _ _ _ _ _ hk hr
      | ret => exact hn .ret _ _ _ _ _ _ hk hr
    · rename_i an _
      split at hk
      · exact hk.elim
      · rename_i hsl
        simp only [havocK_eq, refillK_eq, forceOs_eq] at hk
        obtain ⟨J, h1, h2⟩ := hk
        refine swp_sound x c r n G _ _ hro hc (fun z e' t' o' h' a' w' hk' hr' => ?_) e t o h a w hr (swp_same h1)
        obtain ⟨hk', hs, hl⟩ := hk'
        cases z with
        | normal =>
          obtain ⟨e2, vs, o2, k1, hr2, _⟩ := Rel.meet (m := o.length) (n := o.length) (l := []) (t0 := []) (o0 := []) (k := fun vs o => J vs o h') hr.kl (Nat.le_refl _) hr' hs (fun i x _ hx => or_map (hr.tok.2 i x hx) fun hq => ⟨hq.2, .inl rfl⟩) (by unfold meetK; exact hk')
          exact swp_sound y c r n G K Q hro hc hn _ _ _ _ _ _ hr2 (h2 _ _ _ hl k1)
        | exit id => exact hn (.exit id) _ _ _ _ _ _ hk' hr'
        | ret => exact hn .ret _ _ _ _ _ _ hk' hr'
  | .cond x y z, c, r, n, G, K, Q, hro, hc, hn, e, t, o, h, a, w, hr, hk => by
    rw [swp_cond_eq] at hk
    have hx := ev_sat hr.tok x
    split at hk
    · rename_i hv
      rw [hv] at hx
      exact wpIn_cond (t := true) (hx.eq (by simp)) (swp_sound y c r n G K Q hro hc hn e t o h a w hr hk)
    · rename_i hv
      rw [hv] at hx
      exact wpIn_cond (t := false) (hx.eq (by simp)) (swp_sound z c r n G K Q hro hc hn e t o h a w hr hk)
    · rename_i b hv
      have hx' := hx
      rw [hv] at hx'
      have he := hx'.eq (by simp)
      cases b
      · obtain ⟨t', hk', hr'⟩ := putC_ok hr hv (by simp) rfl (hk.2 rfl)
        exact wpIn_cond (t := false) he (swp_sound z c r n G K Q hro hc hn e t' o h a w hr' hk')
      · obtain ⟨t', hk', hr'⟩ := putC_ok hr hv (by simp) rfl (hk.1 rfl)
        exact wpIn_cond (t := true) he (swp_sound y c r n G K Q hro hc hn e t' o h a w hr' hk')
    · exact hk.elim
  | .block id b, c, r, n, G, K, Q, hro, hc, hn, e, t, o, h, a, w, hr, hk => by
    rw [swp_block_eq] at hk
    refine wpIn_block (swp_sound b c r n G _ _ hro hc (fun z e t o h a w hk hr => ?_) e t o h a w hr hk)
    cases z with
    | normal => exact hn .normal _ _ _ _ _ _ hk hr
    | ret => exact hn .ret _ _ _ _ _ _ hk hr
    | exit id' =>
      simp only [SX.exit', Exit.inBlock]
      simp only at hk
      split at hk
      · rename_i heq
        rw [if_pos (Nat.eq_of_beq_eq_true heq)]
        exact hn .normal _ _ _ _ _ _ hk hr
      · rename_i heq
        rw [if_neg (fun hc => by rw [hc] at heq; simp at heq)]
        exact hn (.exit id') _ _ _ _ _ _ hk hr
  | .loop b, c, r, n, G, K, Q, hro, hc, hn, e, t, o, h, a, w, hr, hk => by
    rw [swp_loop_eq] at hk
    split at hk
    · exact hk.elim
    · rename_i an _
      split at hk
      · exact hk.elim
      · rename_i hsl
        obtain ⟨e1, t1, o1, hk1, hr1, hag, hlen⟩ := retag_ok an.lists hr hk
        split at hk1
        · exact hk1.elim
        · rename_i hin
          simp only [Bool.and_eq_true, Bool.or_eq_true] at hin
          simp only [havocK_eq, refillK_eq, forceOs_eq, nrmKs_eq, nrmOs_eq] at hk1
          obtain ⟨J, m, ⟨hok, hJ⟩, hround⟩ := hk1
          simp only [okS, Bool.and_eq_true] at hok
          have hun : ∀ (i : Nat) (x : SV), i ∉ mods b → t1[i]? = some x → x = .junk ∨ (bel o1.length x = true ∧ (an.lists = [] ∨ ∀ q ∈ tags x, q < o.length)) := fun i x hi hx => by
            rcases hr1.tok.2 i x hx with hq | hq
            · exact .inl hq
            · refine .inr ⟨hq.2, ?_⟩
              rcases hin.2 with h1 | h1
              · exact .inl (by simpa using h1)
              · refine .inr (fun q hq' => ?_)
                have hmem : x ∈ havoc t1 (mods b) := by
                  have hh := (Same.havoc (mods b) t1).2 i hi
                  rw [hx] at hh
                  exact List.mem_of_getElem? hh
                have := List.all_eq_true.1 h1 q (tagsL_mem hmem hq')
                simpa [Nat.blt_eq] using this
          refine wpIn_loop_ghost (fun k a' w' => ∃ e' vs o2 h1, HLe h h1 ∧ J vs o2 h1 ∧ m vs o2 h1 = k ∧ o2.length = o1.length ∧ Rel G e' (refill (havoc t1 (mods b)) an.slots vs) o2 h1 a' w') (fun k a' w' hI => ?_) (m (nrmL (pickS t1 an.slots)) (o1.map nrmO) h) a w ⟨e1, _, _, h, HLe.refl _, hJ, rfl, by simp, ?_⟩
          · obtain ⟨e', vs, o2, h1, hl, hj, hm, hlen2, hr2⟩ := hI
            have hk2 := swp_same (hround vs o2 h1 hl hj)
            refine swp_sound b c r n G _ _ hro hc (fun z e3 t3 o3 h3 a3 w3 hk3 hr3 => ?_) e' _ o2 h1 a' w' hr2 hk2
            obtain ⟨hk3, hs3, hl3⟩ := hk3
            cases z with
            | normal =>
              have hs4 : Same (mods b) t1 t3 := ((Same.head hsl t1 vs).trans hs3).mono (by simp)
              obtain ⟨e4, vs4, o4, q1, q2, q3⟩ := Rel.meet (m := o.length) (n := o1.length) (k := fun vs' o' => J vs' o' h3 ∧ m vs' o' h3 < m vs o2 h1) hr.kl hlen hr3 hs4 hun (ss := an.slots) (t0 := refill (havoc t1 (mods b)) an.slots vs) (o0 := o2) (by simp only [nrmKs_eq, nrmOs_eq]; exact hk3)
              exact ⟨m vs4 o4 h3, by rw [← hm]; exact q1.2, e4, vs4, o4, h3, hl.trans hl3, q1.1, rfl, q3, q2⟩
            | exit id => exact hn (.exit id) _ _ _ _ _ _ hk3 hr3
            | ret => exact hn .ret _ _ _ _ _ _ hk3 hr3
          · have hl1 : (o1.map nrmO).length = o1.length := by simp
            refine ⟨?_, hr1.wok.nrm, by rw [hl1]; exact hr1.kl⟩
            rw [hl1]
            exact tok_meet hr1.tok.1 (fun i x _ hx => hr1.tok.2 i x hx) ((SlotsOk.of_tok hr1.tok an.slots).le hok.1).nrm
  | .rangeFunc g ps assign body, c, r, n, G, K, Q, hro, hc, hn, e, t, o, h, a, w, hr, hk => by
    have hr0 : c.round = false := by
      rw [swp_range_eq] at hk
      split at hk
      · exact hk.elim
      · assumption
    rw [hro hr0]
    exact rangeFunc_sound hc hn (fun L n' G' K' Q' hc' hn' => swp_sound assign { c with round := true } (some L) n' G' K' Q' (fun h => by cases h) hc' hn') (fun L n' G' K' Q' hc' hn' => swp_sound body { c with round := true } (some L) n' G' K' Q' (fun h => by cases h) hc' hn') hr hk
  | .scope b, c, r, n, G, K, Q, hro, hc, hn, e, t, o, h, a, w, hr, hk => by
    rw [swp_scope_eq] at hk
    refine wpIn_scope (swp_sound b c r n G K _ hro hc (fun z e t o h a w hk hr => ?_) e t o h a w hr hk)
    cases z with
    | normal => exact hn .normal _ _ _ _ _ _ hk hr
    | ret => exact hn .ret _ _ _ _ _ _ hk hr
    | exit id => exact hn (.exit id) _ _ _ _ _ _ hk hr
  | .goto _, _, _, _, _, _, _, _, _, _, _, _, _, _, _, _, _, hk => hk.elim
  | .refuse _, _, _, _, _, _, _, _, _, _, _, _, _, _, _, _, _, hk => hk.elim

/-! ### functions -/

def resOf (tmps : Array Value) : ResultVar → Sem Value
  | .tmp d => pure (tmps.getD d undef)
  | .cell x ty => do loadVar ty (← asAddr (tmps.getD x undef))

theorem run_results (hr : Rel G e t o h a w) : ∀ (l : List ResultVar) (vs : List SV), sRes P t o l = some vs →
    (l.mapM (resOf a.tmps)).run P w = .ok (denL e vs) w ∧ belL o.length vs = true
  | [], vs, hv => by
    simp only [sRes, Option.some.injEq] at hv; subst hv
    exact ⟨rfl, rfl⟩
  | .tmp d :: r, vs, hv => by
    unfold sRes at hv
    split at hv
    · simp at hv
    · rename_i l hl hj
      simp only [Option.some.injEq] at hv; subst hv
      obtain ⟨h1, h2⟩ := run_results hr r l hl
      have hs := ev_sat hr.tok (.tmp d)
      simp only [ev, Act.eval] at hs
      have hne : t.getD d .junk ≠ .junk := fun hc => hj hc
      refine ⟨?_, by simp only [belL, h2, hs.bel hne, Bool.and_self]⟩
      simp only [List.mapM_cons, resOf, pure_bind, Sem.run_bind, h1, Result.andThen_ok, hs.eq hne]
      rfl
    · simp at hv
  | .cell x ty :: r, vs, hv => by
    unfold sRes at hv
    split at hv
    · rename_i tag off hx
      split at hv
      · simp at hv
      · rename_i v l hj hld hl
        simp only [Option.some.injEq] at hv; subst hv
        obtain ⟨h1, h2⟩ := run_results hr r l hl
        have hs := ev_sat hr.tok (.tmp x)
        simp only [ev, Act.eval] at hs
        rw [hx] at hs
        have hq := sLoad_ok (G := G) (e := e) (S := ⟨t, o, fun _ => none⟩) (P := P) hr.obB hs ty
        rw [hld] at hq
        obtain ⟨u, hu, hrun⟩ := hq trivial
        have hw := hr.wok
        have hw0 : WR e o (fun _ => none) w := ⟨fun b x hx => by simp at hx, hw.ob⟩
        have hne : v ≠ .junk := fun hc => hj hc
        have h3 := hrun w hw0
        have h4 := hs.eq (by simp)
        refine ⟨?_, by simp only [belL, h2, hu.bel hne, Bool.and_self]⟩
        rw [h4] at h3
        simp only [Instr.loadAt, den, Instr.sureAddr, Sem.run_bind, Sem.run_pure, Result.andThen_ok] at h3
        simp only [List.mapM_cons, resOf, Sem.run_bind, h4, den, asAddr, Sem.run_pure, Result.andThen_ok, h3, h1, hu.eq hne]
        rfl
      · simp at hv
    · simp at hv

theorem run_results' (hr : Rel G e t o h a w) {fn : Func} {l : List SV} (hl : sRes P t o fn.results.toList = some l) : (results fn a.tmps).run P w = .ok (den e (one l)) w ∧ bel o.length (one l) = true := by
  obtain ⟨h1, h2⟩ := run_results hr _ l hl
  have h3 : (fn.results.mapM (resOf a.tmps)).run P w = .ok (denL e l).toArray w := by
    rw [Array.mapM_eq_mapM_toList, Sem.run_map, h1]; rfl
  have h4 : (results fn a.tmps).run P w = ((fn.results.mapM (resOf a.tmps)).run P w).andThen fun vs w' => .ok (if h : vs.size = 1 then vs[0] else .tuple vs) w' := by
    unfold results
    rw [Sem.run_bind]
    rfl
  rw [h4, h3]
  simp only [Result.andThen_ok]
  match l, h2 with
  | [], _ => exact ⟨by simp [one, den, denL], rfl⟩
  | [x], h2 => exact ⟨by simp [one, denL], by simpa [one, belL] using h2⟩
  | x :: y :: r, h2 => exact ⟨by simp [one, den, denL], by simpa [one, bel] using h2⟩

/-- On the way out the marks are taken off. -/
theorem WOk.unmark {ds : List Deferred} {D : Nat} (hw : WOk G (mark D :: ds) e o h w) : w.heap[D]? = some (.deferred (some [])) ∧ WOk G ds e o h (w.putObj D (.deferred none)) := by
  obtain ⟨BG, p⟩ := hw.pr
  obtain ⟨D', q1, q2, q3, q4, q5, q6⟩ := p.ds (mark D) (by simp)
  obtain rfl : D = D' := by simpa [mark] using q1
  refine ⟨q4, ?_⟩
  have p2 : PRb G ds e o h w BG := ⟨p.inv, p.one, p.lv, p.lt, p.hb, p.ow, fun h => (by have := p.rd h; cases this), (List.nodup_cons.1 p.nd).2, fun d hd => p.ds d (List.mem_cons_of_mem _ hd)⟩
  have S : Sup G ds e o h (fun k => k < w.heap.size ∧ k ≠ D) w := by
    refine ⟨{ hw with pr := ⟨BG, p2⟩ }, fun i x hi hx => ⟨live_lt hw hi hx, q5 i x hi hx⟩, fun b x hx => ⟨(Array.getElem?_eq_some_iff.1 (hw.hh b x hx)).1, ?_⟩, fun k hk _ => ⟨Nat.lt_of_lt_of_le hk hw.frm.size, by omega⟩, ⟨BG, p2, fun k hk => ⟨p.lt k hk, ?_⟩⟩, fun d hd => ?_, fun k hk => hk.1⟩
    · rintro rfl; rw [q6] at hx; cases hx
    · rintro rfl; exact q2 hk
    · obtain ⟨D2, k1, _, _, k4, _⟩ := p.ds d (List.mem_cons_of_mem _ hd)
      refine ⟨D2, k1, (Array.getElem?_eq_some_iff.1 k4).1, ?_⟩
      rintro rfl
      rw [k1] at hd
      exact (List.nodup_cons.1 p.nd).1 hd
  exact (S.stable (putObj_same (x := .deferred none) (fun hq => hq.2 rfl))).wok

theorem leaves_marks {fn : Func} {tmps : Array Value} {n : Nat} {R : Ending → World → Prop} (fin : ∀ w, WOk G [] e o h w → LeavesInM (FW none) n P fn tmps R [] .returning w) : ∀ (ds : List Deferred) (w : World), WOk G ds e o h w → LeavesInM (FW none) n P fn tmps R ds .returning w
  | [], w, hw => fin w hw
  | d :: ds, w, hw => by
    obtain ⟨BG, p⟩ := hw.pr
    obtain ⟨D, rfl, _⟩ := p.ds d (by simp)
    obtain ⟨h1, h2⟩ := hw.unmark
    exact ⟨by simp, .inl ⟨D, _, rfl, run_takeDeferred h1, leaves_marks fin ds _ h2⟩⟩

theorem entry_tok {n : Nat} {args : List SV} (hb : belL n args = true) (k : Nat) : TOk e n (args ++ List.replicate (k - args.length) .junk) ((denL e args).toArray ++ Array.replicate (k - (denL e args).toArray.size) undef) := by
  refine ⟨by simp [denL_length], fun i x hx => ?_⟩
  rw [List.getElem?_append] at hx
  split at hx
  · rename_i hlt
    refine .inr ⟨?_, ?_⟩
    · rw [Array.getElem?_append, if_pos (by simp [denL_length]; exact hlt)]
      simpa using denL_get hx
    · exact belL_get hb hx
  · rw [List.getElem?_replicate] at hx
    split at hx
    · simp at hx; exact .inl hx.symm
    · cases hx

theorem ycfg0 (G : Base) (h1 : G.yok = fun _ _ => False) (h2 : G.yl = 0) (h3 : G.yN = 0) (h4 : G.rd = false) {c : Cfg} (k1 : c.yok = fun _ _ => False) (k2 : c.yl = 0) (k3 : c.yN = 0) (k4 : c.round = false) : YCfg P G c :=
  ⟨fun n xs args B w _ hok => by rw [h1] at hok; exact hok.elim, by rw [h2, k2], by rw [h1, k1], by rw [h3, k3], by rw [h4, k4]⟩

theorem pickO_spec {o : List (Option SObj)} {ts : List Nat} : ∀ {r : List Nat} {o' : List (Option SObj)}, pickO o ts r = some o' →
    o'.length = r.length ∧ ∀ (i : Nat) (x : SObj), o'[i]? = some (some x) → ∃ u y, r[i]? = some u ∧ o[u]? = some (some y) ∧ x = renO ts.idxOf y ∧ (∀ t ∈ otags y, t ∈ ts) ∧ ∀ s xs, y ≠ .ghost s xs
  | [], o', h => by
    simp only [pickO, Option.some.injEq] at h; subst h
    exact ⟨rfl, fun i u hu => by simp at hu⟩
  | t :: r, o', h => by
    have shift : ∀ {z : Option SObj} {l : List (Option SObj)}, pickO o ts r = some l → o' = z :: l → (∀ x, z = some x → ∃ y, o[t]? = some (some y) ∧ x = renO ts.idxOf y ∧ (∀ q ∈ otags y, q ∈ ts) ∧ ∀ s xs, y ≠ .ghost s xs) →
        o'.length = (t :: r).length ∧ ∀ (i : Nat) (x : SObj), o'[i]? = some (some x) → ∃ u y, (t :: r)[i]? = some u ∧ o[u]? = some (some y) ∧ x = renO ts.idxOf y ∧ (∀ t ∈ otags y, t ∈ ts) ∧ ∀ s xs, y ≠ .ghost s xs := by
      intro z l hl ho hz
      obtain ⟨h1, h2⟩ := pickO_spec hl
      subst ho
      refine ⟨by simp [h1], fun i x hx => ?_⟩
      cases i with
      | zero =>
        obtain ⟨y, k⟩ := hz x (by simpa using hx)
        exact ⟨t, y, by simp, k⟩
      | succ i => simpa using h2 i x (by simpa using hx)
    unfold pickO at h
    split at h
    · split at h
      · rename_i l hl
        exact shift hl (by simpa using h.symm) (fun x hx => by cases hx)
      · simp at h
    · rename_i ty cs hg
      split at h
      · rename_i hall
        split at h
        · rename_i l hl
          exact shift hl (by simpa using h.symm) (fun x hx => ⟨_, hg, by simpa [renO] using hx.symm, fun q hq => by simpa using List.all_eq_true.1 hall q hq, by intros; simp⟩)
        · simp at h
      · simp at h
    · rename_i a b c d hg
      split at h
      · rename_i l hl
        exact shift hl (by simpa using h.symm) (fun x hx => ⟨_, hg, by simpa [renO] using hx.symm, fun q hq => by simp [otags] at hq, by intros; simp⟩)
      · simp at h
    · simp at h

theorem firstN_mem : ∀ (l : List SObj) (n i : Nat), i < l.length → n + i ∈ firstN l n
  | [], n, i, h => by simp at h
  | x :: r, n, 0, h => by simp [firstN]
  | x :: r, n, i + 1, h => by
    have := firstN_mem r (n + 1) i (by simpa using h)
    simp only [firstN, List.mem_cons]
    right
    have e : n + (i + 1) = n + 1 + i := by omega
    rw [e]; exact this

/-- Objects that nobody can reach are forgotten; the others are told anew. -/
theorem WOk.pick {ds : List Deferred} (hw : WOk G ds e o h w) {ts : List Nat} {o' : List (Option SObj)} (hn : ts.Nodup) (hp : pickO o ts ts = some o') (hk : ∀ i, i < G.nk → ts[i]? = some i) :
    WOk G ds (e.comp (bk ts o.length)) o' h w := by
  obtain ⟨hlen, hs⟩ := pickO_spec hp
  have hb : ∀ i (hi : i < ts.length), (e.comp (bk ts o.length)).blk i = e.blk ts[i] ∧ (e.comp (bk ts o.length)).loc i = e.loc ts[i] := fun i hi => by simp [Env.comp, bk_lt hi]
  have get : ∀ (i : Nat) (x : SObj), o'[i]? = some (some x) → ∃ (hi : i < ts.length) (y : SObj), o[ts[i]]? = some (some y) ∧ x = renO ts.idxOf y ∧ (∀ t ∈ otags y, t ∈ ts) ∧ (live (e.comp (bk ts o.length)) i x ↔ live e ts[i] y) ∧ ∀ s xs, y ≠ .ghost s xs := fun i x hx => by
    obtain ⟨u, y, h1, h2, h3, h4, h5⟩ := hs i x hx
    have hi : i < ts.length := idx_lt h1
    have hu : ts[i] = u := by rw [List.getElem?_eq_getElem hi] at h1; simpa using h1
    subst hu; subst h3
    exact ⟨hi, y, h2, rfl, h4, live_hand hi, h5⟩
  refine hw.step (Nat.le_refl _) rfl rfl rfl (fun _ _ _ => rfl) (fun i hi => ?_) (fun i x hi => ?_) (fun i x hi hx => ?_) (fun i j x y hi hj hx hy hij => ?_) (fun i s xs hi => ?_)
  · have h1 := hk i hi
    have hlt := idx_lt h1
    have h2 : ts[i] = i := by rw [List.getElem?_eq_getElem hlt] at h1; simpa using h1
    have := hb i hlt
    rw [h2] at this; exact this
  · obtain ⟨h1, y, h2, rfl, h4, _, _⟩ := get i x hi
    rw [hlen]
    exact objOk_hand h1 (hw.ob _ _ h2) h4
  · obtain ⟨h1, y, h2, rfl, h4, h5, _⟩ := get i x hi
    exact .inl ⟨_, y, h2, h5.1 hx, (hb i h1).1⟩
  · obtain ⟨h1, x', h2, rfl, _, h5, _⟩ := get i x hi
    obtain ⟨h1', y', h2', rfl, _, h5', _⟩ := get j y hj
    rw [(hb i h1).1, (hb j h1').1]
    exact hw.sep _ _ _ _ h2 h2' (h5.1 hx) (h5'.1 hy) (fun hq => hij (by have e1 := idx_get hn h1; have e2 := idx_get hn h1'; rw [← e1, ← e2, hq]))
  · obtain ⟨h1, y, h2, h3, _, _, h6⟩ := get i _ hi
    cases y with
    | ghost a b => exact absurd rfl (h6 a b)
    | _ => simp [renO] at h3

theorem spec_of_swpF {f : FuncId} {fn : Func} {args : List SV} {objs : List SObj} {h : Hp} {post : SV → List (Option SObj) → Hp → Prop} (c : Cfg) (hf : P.funcs[f]? = some fn) (hc : ∀ as w, (callFunc f as).run P w = .ok (.enter f as) w)
    (hb : belL objs.length args = true) (hk : swpF P c fn args objs h post) (k1 : c.yok = fun _ _ => False := by rfl) (k2 : c.yl = 0 := by rfl) (k3 : c.yN = 0 := by rfl) (k4 : c.round = false := by rfl) : CSpec P f args objs h post := by
  refine ⟨hc, fun e w hw => ?_⟩
  unfold swpF at hk
  cases hbody : fn.body with
  | none => rw [hbody] at hk; exact hk.elim
  | some code =>
    rw [hbody] at hk
    simp only [forceVs_eq, forceOs_eq] at hk
    refine (callsIn_wide (n := 0)).1 (callsIn_of_wp_marks hf hbody trivial ?_)
    have hlen : (objs.map some).length = objs.length := by simp
    have hrel : Rel (Base.entry e w objs h) e (args ++ List.replicate (fn.ntmps - args.length) .junk) (objs.map some) h { tmps := (denL e args).toArray ++ Array.replicate (fn.ntmps - (denL e args).toArray.size) undef, defers := [] } w :=
      ⟨entry_tok (by rw [hlen]; exact hb) _, hw, by rw [hlen]; exact Nat.le_refl _⟩
    refine swp_sound code c none 0 _ _ _ (fun _ => rfl) (ycfg0 _ rfl rfl rfl rfl k1 k2 k3 k4) (fun z e' t' o' h' a' w' hk' hr' => ?_) e _ _ h _ w hrel hk
    have fin : (match sRes P t' o' fn.results.toList with | some l => finF objs (one l) o' fun v o => post v o h' | none => False) →
        LeavesInM (FW none) 0 P fn a'.tmps (fun en w' => ∃ e' sv o' h', en = .returned (den e' sv) ∧ bel o'.length sv = true ∧ objs.length ≤ o'.length ∧ post sv o' h' ∧ WOk (Base.entry e w objs h) [] e' o' h' w') a'.defers .returning w' := by
      intro hq
      split at hq
      · rename_i l hl
        unfold finF finF.go at hq
        generalize reach o' 200 (tagsOs (o'.take objs.length) ++ tags (one l)) (firstN objs 0) = ts at hq
        split at hq
        · exact hq.elim
        · rename_i hall
          simp only [Bool.and_eq_true] at hall
          obtain ⟨ht, hnd, ⟨hlo, hlt⟩, hfs⟩ := hall
          have hnd := nodupB_spec hnd
          split at hq
          · exact hq.elim
          · rename_i o2 hp
            rw [nrmK_eq, nrmOs_eq] at hq
            have hk : ∀ i, i < (Base.entry e w objs h).nk → ts[i]? = some i := fun i hi => by
              have hi' : i < objs.length := hi
              have h1 := List.all_eq_true.1 hfs i (by have := firstN_mem objs 0 i hi'; simpa using this)
              have h2 := Nat.eq_of_beq_eq_true h1
              have h3 := Nat.le_of_ble_eq_true hlt
              have hi2 : i < ts.length := by omega
              rw [List.getElem?_eq_getElem hi2]
              simp [List.getD, hi2] at h2
              rw [h2]
            obtain ⟨hlen2, _⟩ := pickO_spec hp
            refine leaves_marks (fun w2 hw2 => ?_) a'.defers w' hr'.wok
            have hr2 : Rel (Base.entry e w objs h) e' t' o' h' { tmps := a'.tmps, defers := [] } w2 := ⟨hr'.tok, hw2, hr'.kl⟩
            obtain ⟨h1, h2⟩ := run_results' (fn := fn) hr2 hl
            have ht : ∀ q ∈ tags (one l), q ∈ ts := fun q hq => by simpa using List.all_eq_true.1 ht q hq
            refine ⟨_, h1, e'.comp (bk ts o'.length), nrm (ren ts.idxOf (one l)), o2.map nrmO, h', ?_, ?_, ?_, hq, (hw2.pick hnd hp hk).nrm⟩
            · rw [den_nrm, den_ren, den_tags (e := (e'.comp (bk ts o'.length)).comp ts.idxOf) (e' := e') (one l) (fun t h => by simp [Env.comp, bk_idx (ht t h)])]
            · rw [bel_nrm, List.length_map, hlen2]
              exact bel_ren (one l) h2 (fun t h => List.idxOf_lt_length_iff.2 (ht t h))
            · have := Nat.le_of_ble_eq_true hlt
              rw [List.length_map, hlen2]; exact this
      · exact hq.elim
    cases z with
    | normal => exact fin hk'
    | ret => exact fin hk'
    | exit id => exact hk'.elim

theorem ispec_of_swpI {f : FuncId} {fn : Func} {A : Type} {encs : A → List SV} {N : Nat} {cap : List SV} {objs : List SObj} {h : Hp} {S Sp : List (List SV) → Prop} (c : Cfg) (hf : P.funcs[f]? = some fn) (hc : ∀ as w, (callFunc f as).run P w = .ok (.enter f as) w)
    (hb : belL objs.length cap = true) (hk : swpI P c fn encs N cap objs h S Sp) (k4 : c.round = false := by rfl) : ISpec P f encs N cap objs h S Sp := by
  refine ⟨hc, fun inv yl e w hy hw => ?_⟩
  unfold swpI at hk
  split at hk
  · rename_i code hbody hres
    have hk := hk yl
    simp only [forceVs_eq, forceOs_eq] at hk
    refine (callsIn_wide (n := 0)).1 (callsIn_of_wp_marks hf hbody trivial ?_)
    have hlen : (objs.map some ++ [some (SObj.ghost false [])]).length = objs.length + 1 := by simp
    have hb' : belL (objs.length + 1) (.func (.yield yl) [] [] :: cap) = true := by simp [belL, bel, belL_mono (Nat.le_succ _) cap hb]
    have hargs : (#[.func (.yield yl) #[] #[]] ++ (denL e cap).toArray) = (denL e (.func (.yield yl) [] [] :: cap)).toArray := by simp [denL, den]
    have ht : TOk e (objs.length + 1) ((.func (.yield yl) [] [] :: cap) ++ List.replicate (fn.ntmps - (cap.length + 1)) .junk) _ := entry_tok (e := e) hb' fn.ntmps
    rw [hargs]
    refine swp_sound code { c with yl := yl, yok := fun xs a => (∃ x, a = encs x) ∧ Sp (xs ++ [a]), yN := N } none 0 _ _ _ (fun _ => rfl) ⟨hy, rfl, rfl, rfl, k4⟩ (fun z e' t' o' h' a' w' hk' hr' => ?_) e _ _ h _ w ⟨by rw [hlen]; exact ht, hw, by rw [hlen]; exact Nat.le_succ _⟩ hk
    have fin : (match findGhost o' 0 with | some (_, s, xs) => s = false → S xs | none => False) →
        LeavesInM (FW none) 0 P fn a'.tmps (fun en w' => (∃ v, en = .returned v) ∧ ∃ (B : Nat → Prop) (s : Bool) (xs : List (List SV)), (∀ w'', SameB B w' w'' → inv s xs B w'') ∧ (s = false → S xs)) a'.defers .returning w' := by
      intro hq
      split at hq
      · rename_i tag s xs hg
        refine leaves_marks (fun w2 hw2 => ?_) a'.defers w' hr'.wok
        have hr2 : Rel _ e' t' o' h' { tmps := a'.tmps, defers := [] } w2 := ⟨hr'.tok, hw2, hr'.kl⟩
        obtain ⟨h1, h2⟩ := run_results' (fn := fn) (l := []) hr2 (by rw [hres]; rfl)
        obtain ⟨B, p⟩ := hw2.pr
        have hgo := (findGhost_some hg).2
        rw [Nat.sub_zero] at hgo
        exact ⟨_, h1, ⟨_, rfl⟩, B, s, xs, fun w'' hs => p.inv tag s xs hgo w'' hs, hq⟩
      · exact hq.elim
    cases z with
    | normal => exact fin hk'
    | ret => exact fin hk'
    | exit id => exact hk'.elim
  · exact hk.elim
end Go.Pw
