/-
  A verification-condition generator for Go's IR. Part q: ranges over functions are sound, joined.
-/
import Derived.Test.YtdpoebadaomfgaaVp
set_option linter.unusedSimpArgs false
set_option linter.unusedVariables false
namespace Go.Pw
open Go Go.RowKit
variable {G : Base} {e : Env} {t : List SV} {o : List (Option SObj)} {h : Hp} {a : Act} {w : World} {P : Program} {c : Cfg} {gs : List Nat}

theorem rangeFunc_sound {n : Nat} {g : Operand} {ps : Array Tmp} {assign body : Code} {K : SX → SK} {Q : Exit → Act → World → Prop} (hc : YCfg P G c) (hn : NxtX G K Q)
    (IHa : ∀ (L n' : Nat) (G' : Base) (K' : SX → SK) (Q' : Exit → Act → World → Prop), YCfg P G' { c with round := true } → NxtX G' K' Q' → ∀ e t o h a w, Rel G' e t o h a w → swp P { c with round := true } assign t o h K' → assign.wpIn (FW (some L)) n' P Q' a w)
    (IHb : ∀ (L n' : Nat) (G' : Base) (K' : SX → SK) (Q' : Exit → Act → World → Prop), YCfg P G' { c with round := true } → NxtX G' K' Q' → ∀ e t o h a w, Rel G' e t o h a w → swp P { c with round := true } body t o h K' → body.wpIn (FW (some L)) n' P Q' a w)
    (hr : Rel G e t o h a w) (hk : swp P c (.rangeFunc g ps assign body) t o h K) : (Code.rangeFunc g ps assign body).wpIn (FW none) n P Q a w := by
  rw [swp_range_eq] at hk
  split at hk
  · exact hk.elim
  · rename_i hround0
    have hrd : G.rd = false := by rw [← hc.rd]; exact hround0
    split at hk
    · rename_i k cap hg
      generalize listsOf c assign body = lists at hk
      split at hk
      · exact hk.elim
      · rename_i hsl
        obtain ⟨e1, t1, o1, ⟨hs1, hk1⟩, hr1, hag1, hlen1⟩ := retag_ok lists hr (retagK_mono lists t o (k' := fun t' o' => Same (plcs lists) t t' ∧ _) (fun t' o' hs hk => ⟨hs, hk⟩) hk)
        rw [slotless_plcs hsl] at hs1
        have ht := (Same.nil hs1).symm
        subst ht
        have hfv := (ev_sat hr1.tok g).eq (by rw [hg]; simp)
        rw [hg] at hfv
        simp only [den, denL] at hfv
        unfold swpCap at hk1
        split at hk1
        · exact hk1.elim
        · rename_i hj
          rw [forceVs_eq] at hk1
          generalize reach o1 60 (tagsL cap) [] = ts at hk1
          unfold swpCap.go at hk1
          split at hk1
          · exact hk1.elim
          · rename_i hcl
            simp only [Bool.and_eq_true] at hcl
            split at hk1
            · exact hk1.elim
            · rename_i objs hh
              simp only [nrmKs_eq, nrmBs_eq, maskK_eq] at hk1
              obtain ⟨A, encs, N, S, Sp, hI, J, ⟨hbO, h0⟩, hrnd, hdone⟩ := hk1
              rw [nrmOs_eq] at h0
              have hnd := nodupB_spec hcl.2
              have htags : ∀ t ∈ tagsL cap, t ∈ ts := fun t ht => by simpa using List.all_eq_true.1 hcl.1 t ht
              obtain ⟨hlenH, hsH⟩ := handed_spec hh
              have hw := hr1.wok
              -- the two blocks that the statement lays
              let D := w.heap.size
              let L := w.heap.size + 1
              refine wpIn_rangeFunc fun fn hfn => ?_
              obtain ⟨rec, hrec⟩ : ∃ rec : LoopState → Option Code → Loop, rec = fun st pe => { state := st, pending := pe, fn, tmps := a.tmps, params := ps, assign, body, defers := w.heap.size } := ⟨_, rfl⟩
              obtain ⟨W1, hW1⟩ : ∃ W1, (w.alloc (.deferred (some []))).alloc (.loop (rec .ready none)) = W1 := ⟨_, rfl⟩
              have hsz1 : W1.heap.size = w.heap.size + 2 := by rw [← hW1]; simp
              have hL1 : W1.heap[L]? = some (.loop (rec .ready none)) := by
                rw [← hW1, heap_push]; simp [L]
              have hD1 : W1.heap[D]? = some (.deferred (some [])) := by
                rw [← hW1, heap_push, heap_push]; simp [D]
              have hold : ∀ k, k < w.heap.size → W1.heap[k]? = w.heap[k]? := fun k hk => by
                rw [← hW1, heap_push, heap_push, if_neg (by simp; omega), if_neg (by omega)]
              have hfrm : Frm (fun _ => False) w W1 := ⟨by rw [← hW1]; rfl, by rw [← hW1]; rfl, by rw [← hW1]; rfl, by omega, fun k hk _ => hold k hk⟩
              have hrW : Rel G e1 t o1 h a W1 := ⟨hr1.tok, hw.frm' hfrm, hr1.kl⟩
              have hent := entry_ok hrW hnd hh
              -- what the caller rests on
              let C : Nat → Prop := fun k => ∃ (i : Nat) (x : SObj), i ∈ ts ∧ o1[i]? = some (some x) ∧ live e1 i x ∧ e1.blk i = k
              have hCw : ∀ k, C k → k < w.heap.size := fun k ⟨i, x, _, hi, hx, he⟩ => he ▸ live_lt hw hi hx
              let B0 : Nat → Prop := fun k => (k < w.heap.size + 2 ∧ ¬ C k) ∧ k ≠ L
              have hB0 : ∀ k, k < w.heap.size → ¬ C k → B0 k := fun k hk hC => ⟨⟨by omega, hC⟩, by simp only [L]; omega⟩
              have hS0 : Sup G (mark D :: a.defers) e1 ((mask o1 ts).map nrmO) h B0 W1 := by
                have wM : WOk G a.defers e1 ((mask o1 ts).map nrmO) h W1 := (hrW.wok.mask ts).nrm
                have getM : ∀ (i : Nat) x, ((mask o1 ts).map nrmO)[i]? = some (some x) → live e1 i x → ∃ y, o1[i]? = some (some y) ∧ live e1 i y ∧ i ∉ ts := fun i x hi hx => by
                  rw [List.getElem?_map] at hi
                  cases hq : (mask o1 ts)[i]? with
                  | none => simp [hq] at hi
                  | some y =>
                    cases y with
                    | none => simp [hq, nrmO] at hi
                    | some y =>
                      obtain ⟨h1, h2⟩ := mask_get ts hq
                      refine ⟨y, h1, ?_, h2⟩
                      cases y with
                      | cells => trivial
                      | olist => simp [hq, nrmO] at hi; subst hi; exact hx
                      | ghost => simp [hq, nrmO] at hi; subst hi; exact hx
                have lvM : ∀ (i : Nat) x, ((mask o1 ts).map nrmO)[i]? = some (some x) → live e1 i x → B0 (e1.blk i) := fun i x hi hx => by
                  obtain ⟨y, h1, h2, h3⟩ := getM i x hi hx
                  refine hB0 _ (live_lt hw h1 h2) ?_
                  rintro ⟨j, z, hj, hz, hlz, he⟩
                  exact hw.sep j i z y hz h1 hlz h2 (by rintro rfl; exact h3 hj) he
                have hbM : ∀ b x, h b = some x → B0 b := fun b x hx => by
                  refine hB0 b (Array.getElem?_eq_some_iff.1 (hw.hh b x hx)).1 ?_
                  rintro ⟨j, z, _, hz, hlz, rfl⟩
                  rw [hw.hn j z hz hlz] at hx; cases hx
                obtain ⟨BG, p0⟩ := hw.pr
                have p1 : PRb G a.defers e1 ((mask o1 ts).map nrmO) h W1 BG := p0.step hfrm.size hfrm.os hfrm.tape hfrm.output (fun k hk _ => hold k hk)
                  (fun i x hi hx => by obtain ⟨y, h1, h2, _⟩ := getM i x hi hx; exact .inl ⟨i, y, h1, h2, rfl⟩)
                  (fun i s xs hi => by
                    rw [List.getElem?_map] at hi
                    cases hq : (mask o1 ts)[i]? with
                    | none => simp [hq] at hi
                    | some y =>
                      cases y with
                      | none => simp [hq, nrmO] at hi
                      | some y => cases y <;> simp [hq, nrmO] at hi; rw [(mask_get ts hq).1, hi.1, hi.2])
                  (fun b x hx => .inl hx)
                have p2 : PRb G (mark D :: a.defers) e1 ((mask o1 ts).map nrmO) h W1 BG := by
                  refine ⟨p1.inv, p1.one, p1.lv, p1.lt, p1.hb, p1.ow, fun hq => (by rw [hrd] at hq; cases hq), List.nodup_cons.2 ⟨fun hd => ?_, p1.nd⟩, fun d hd => ?_⟩
                  · obtain ⟨D', q1, _, _, q4, _⟩ := p0.ds _ hd
                    obtain rfl : D = D' := by simpa [mark] using q1
                    have := (Array.getElem?_eq_some_iff.1 q4).1; simp only [D] at this; omega
                  rcases List.mem_cons.1 hd with rfl | hd
                  · refine ⟨D, rfl, fun hB => ?_, hw.frm.size, hD1, fun i x hi hx he => ?_, ?_⟩
                    · have := p0.lt D hB; simp only [D] at this; omega
                    · obtain ⟨y, h1, h2, _⟩ := getM i x hi hx
                      have := live_lt hw h1 h2
                      simp only [D] at he; omega
                    · cases hq : h D with
                      | none => rfl
                      | some x => have := (Array.getElem?_eq_some_iff.1 (hw.hh D x hq)).1; simp only [D] at this; omega
                  · exact p1.ds d hd
                refine ⟨{ wM with pr := ⟨BG, p2⟩ }, lvM, hbM, fun k hk hm => ?_, ⟨BG, p2, fun k hk => ?_⟩, fun d hd => ?_, fun k hk => by rw [hsz1]; exact hk.1.1⟩
                · refine hB0 k (Nat.lt_of_lt_of_le hk hw.frm.size) ?_
                  rintro ⟨j, z, _, hz, hlz, rfl⟩
                  exact (hw.own j z hz hlz).elim hm (fun h => by omega)
                · refine hB0 k (p0.lt k hk) ?_
                  rintro ⟨j, z, _, hz, hlz, rfl⟩
                  exact p0.lv j z hz hlz hk
                · rcases List.mem_cons.1 hd with rfl | hd
                  · refine ⟨D, rfl, ⟨by simp only [D]; omega, fun hC => ?_⟩, by simp only [D, L]; omega⟩
                    have := hCw D hC; simp only [D] at this; omega
                  · obtain ⟨D', q1, q2, q3, q4, q5, q6⟩ := p0.ds d hd
                    refine ⟨D', q1, hB0 D' (Array.getElem?_eq_some_iff.1 q4).1 ?_⟩
                    rintro ⟨j, z, _, hz, hlz, he⟩
                    exact q5 j z hz hlz he
              let IV := RInv G (mark D :: a.defers) e1 t h o.length o1.length L rec J K
              have hIV0 : IV false [] (fun k => k < w.heap.size + 2 ∧ ¬ C k) W1 := by
                refine ⟨⟨by simp only [L]; omega, fun hC => by have := hCw L hC; simp only [L] at this; omega⟩, .inl ⟨rfl, hL1, e1, _, h, h0, HLe.refl _, ?_, fun _ _ => ⟨rfl, rfl⟩, hS0⟩⟩
                simp [mask_length]
              -- the iterator
              obtain ⟨henter, hcall⟩ := hI
              have hargs : denL (e1.comp (bk ts o1.length)) (nrmL (renL ts.idxOf cap)) = denL e1 cap := by
                rw [denL_nrm, denL_ren, denL_tags (e' := e1) cap (fun t ht => by simp [Env.comp, bk_idx (htags t ht)])]
              have hcalls := hcall IV L (e1.comp (bk ts o1.length)) W1 (fun n' xs args B w' hcl hok hN hlt hhp => by
                obtain ⟨⟨x, rfl⟩, hsp⟩ := hok
                have hiv := hcl w' (SameB.refl _ _)
                have hps : (encs x).length = ps.size ∧ belL 0 (encs x) = true := by
                  obtain ⟨_, ⟨_, _, e2, o2, h2, q1, q2, _⟩ | ⟨hq, _⟩⟩ := hiv
                  · have hq := hrnd xs x o2 h2 q2 hN hsp q1
                    simp only [forceVs_eq] at hq
                    split at hq
                    · exact hq.elim
                    · rename_i hb
                      simp only [Bool.and_eq_true] at hb
                      exact ⟨Nat.eq_of_beq_eq_true hb.1, hb.2⟩
                  · cases hq
                refine round_sound (K := K) (lists := lists) (t0 := t) hc hr.kl hlen1 (IHa L n') (IHb L n') (?_ : TOk e1 o.length t a.tmps) hrec hiv hps.1 hps.2 (fun o2 h1 q1 q2 => ?_)
                · exact hr.tok.agr hag1 (Nat.le_refl _) 
                · have hq := hrnd xs x o2 h1 q1 hN hsp q2
                  simp only [forceVs_eq, refillK_eq, forceOs_eq] at hq
                  have hb : (Nat.beq (encs x).length ps.size && belL 0 (encs x)) = true := by simp [hps.1, hps.2]
                  rw [hb] at hq
                  exact hq) ?_
              · refine ⟨w.heap.size + 1, [{ target := .collected w.heap.size, args := #[] }], W1, { target := .fn (.func k) (denL e1 cap).toArray, args := #[.func (.yield (w.heap.size + 1)) #[] #[]] }, W1, k,
                  #[.func (.yield (w.heap.size + 1)) #[] #[]] ++ (denL e1 cap).toArray, W1, ?_, ?_, ?_, ?_, fun hd => by simp [FW, Fence.wide] at hd, ?_⟩
                · rw [← hW1, hrec]; exact run_enterLoop_outer _ _ _ _ _
                · simp only [resolve, hfv]
                  simp [go_sem]
                · intro f' hf'; trivial
                · simp [invoke, go_sem, henter]
                · rw [hargs] at hcalls
                  refine callsIn_FW (hcalls.mono ?_)
                  rintro en W2 ⟨⟨v, rfl⟩, B, s, xs, hclo, hS⟩
                  have hsame : SameB (fun _ => True) W2 W2 := SameB.refl _ _
                  obtain ⟨hBL, ⟨rfl, hL2, e2, o2, h2, q1, q2, q3, q4, S2⟩ | ⟨rfl, z, hz, hL2, e2, o2, h2, q1, q2, q3, S2⟩⟩ := hclo W2 (SameB.refl _ _)
                  · refine ⟨none, _, by have := run_endLoop (P := P) hL2 (by rw [hrec]; simp); rw [hrec] at this; exact this, ?_⟩
                    have S3 := S2.stable (putObj_same (x := .loop { rec .ready none with state := .exhausted }) (fun hq => hq.2 rfl))
                    rw [hrec] at S3
                    have hq := hdone xs o2 h2 q2 (hS rfl) q1
                    rw [forceOs_eq] at hq
                    refine hn .normal _ _ _ _ _ _ hq ⟨?_, S3.wok, by have := hr.kl; omega⟩
                    refine ⟨hr.tok.1, fun i x hx => or_map (hr.tok.2 i x hx) fun hq => ⟨?_, bel_mono (by omega) x hq.2⟩⟩
                    rw [hq.1, den_tags x (fun q hq' => ⟨((q4 q (tags_lt x hq.2 q hq')).1.trans (hag1 q (tags_lt x hq.2 q hq')).1.symm).symm, ((q4 q (tags_lt x hq.2 q hq')).2.trans (hag1 q (tags_lt x hq.2 q hq')).2.symm).symm⟩)]
                  · refine ⟨some z.code, _, by have := run_endLoop (P := P) hL2 (by rw [hrec]; simp); rw [hrec] at this; exact this, ?_⟩
                    have S3 := S2.stable (putObj_same (x := .loop { rec .done (some z.code) with state := .exhausted }) (fun hq => hq.2 rfl))
                    rw [hrec] at S3
                    have hrel : ∀ a' : Act, a'.tmps = a.tmps → a'.defers = mark D :: a.defers → Rel G e2 t o2 h2 a' _ := fun a' h1 h2 => ⟨by
                      rw [h1]
                      refine ⟨hr.tok.1, fun i x hx => or_map (hr.tok.2 i x hx) fun hq => ⟨?_, bel_mono (by omega) x hq.2⟩⟩
                      rw [hq.1, den_tags x (fun q hq' => ⟨((q3 q (tags_lt x hq.2 q hq')).1.trans (hag1 q (tags_lt x hq.2 q hq')).1.symm).symm, ((q3 q (tags_lt x hq.2 q hq')).2.trans (hag1 q (tags_lt x hq.2 q hq')).2.symm).symm⟩)], by rw [h2]; exact S3.wok, by have := hr.kl; omega⟩
                    cases z with
                    | normal => exact absurd rfl hz
                    | ret => exact wpIn_ret (hn .ret _ _ _ _ _ _ q1 (hrel _ rfl rfl))
                    | exit id => exact wpIn_exit (hn (.exit id) _ _ _ _ _ _ q1 (hrel _ rfl rfl))
              · -- the iterator's world
                have hlenO : ((objs.map nrmB).map some).length = (objs.map nrmB).length := by simp
                have get : ∀ (i : Nat) x, ((objs.map nrmB).map some ++ [some (.ghost false [])])[i]? = some (some x) → ((objs.map nrmB).map some)[i]? = some (some x) ∨ (i = (objs.map nrmB).length ∧ x = .ghost false []) := fun i x hi => by
                  rcases snoc_get hi with ⟨_, h2⟩ | ⟨h1, h2⟩
                  · exact .inl h2
                  · exact .inr ⟨by rw [h1, hlenO], h2⟩
                have getl : ∀ (i : Nat) x, ((objs.map nrmB).map some ++ [some (.ghost false [])])[i]? = some (some x) → live (e1.comp (bk ts o1.length)) i x → ((objs.map nrmB).map some)[i]? = some (some x) := fun i x hi hx => by
                  rcases get i x hi with h1 | ⟨_, rfl⟩
                  · exact h1
                  · exact hx.elim
                have noG : ∀ (i : Nat) s xs, ((objs.map nrmB).map some)[i]? ≠ some (some (.ghost s xs)) := fun i s xs hi => by
                  rw [List.getElem?_map] at hi
                  cases hq : (objs.map nrmB)[i]? with
                  | none => simp [hq] at hi
                  | some y =>
                    obtain ⟨_, _, _, _, _, _, hg⟩ := handed_get (e := e1) hh o1.length hq
                    rw [hq] at hi
                    exact hg s xs (by simpa using hi)
                refine { hh := hent.hh, ob := fun i x hi => ?_, sep := fun i j x y hi hj hx hy hij => hent.sep i j x y (getl i x hi hx) (getl j y hj hy) hx hy hij, hn := fun i x hi hx => hent.hn i x (getl i x hi hx) hx, frm := Frm.refl _ _, own := fun _ _ _ _ => .inl trivial, hle := HLe.refl _, hnew := fun b x hx => .inl hx, agr := fun _ _ => ⟨rfl, rfl⟩, pr := ⟨fun k => k < w.heap.size + 2 ∧ ¬ C k, ?_⟩ }
                · rcases get i x hi with h1 | ⟨_, rfl⟩
                  · have := hent.ob i x h1
                    exact objOk_agr (Agr.refl _ _) (by simp) (idx_lt h1) this (fun _ => rfl)
                  · trivial
                · refine ⟨fun i s xs hi w' hw' => ?_, fun i j s s' xs xs' hi hj => ?_, fun i x hi hx hB => ?_, fun k hk => by rw [hsz1]; exact hk.1, fun b x hx => .inl hx, fun k _ => .inl trivial, fun hq => (by cases hq), List.nodup_nil, fun d hd => (by cases hd)⟩
                  · rcases get i _ hi with h1 | ⟨_, h2⟩
                    · exact absurd h1 (noG i s xs)
                    · cases h2; exact hIV0.stable hw'
                  · rcases get i _ hi with h1 | ⟨h1, _⟩
                    · exact absurd h1 (noG i s xs)
                    · rcases get j _ hj with h2 | ⟨h2, _⟩
                      · exact absurd h2 (noG j s' xs')
                      · exact h1.trans h2.symm
                  · have h1 := getl i x hi hx
                    rw [List.getElem?_map] at h1
                    cases hq : (objs.map nrmB)[i]? with
                    | none => simp [hq] at h1
                    | some y =>
                      rw [hq] at h1
                      obtain rfl : y = x := by simpa using h1
                      obtain ⟨hi', y', k1, _, _, k4, _⟩ := handed_get (e := e1) hh o1.length hq
                      exact hB.2 ⟨ts[i], y', List.getElem_mem hi', k1, k4.1 hx, by simp [Env.comp, bk_lt hi']⟩
    · exact hk.elim

end Go.Pw
