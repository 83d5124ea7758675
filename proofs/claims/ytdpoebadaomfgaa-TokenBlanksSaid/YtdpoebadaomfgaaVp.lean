/-
  A verification-condition generator for Go's IR. Part p: ranges over functions are sound.
-/
import Derived.Test.YtdpoebadaomfgaaVm
set_option linter.unusedSimpArgs false
set_option linter.unusedVariables false
namespace Go.Pw
open Go Go.RowKit
variable {G : Base} {e : Env} {t : List SV} {o : List (Option SObj)} {h : Hp} {a : Act} {w : World} {P : Program} {c : Cfg} {gs : List Nat}

def SX.code : SX → Code
  | .ret => .ret
  | .exit id => .exit id
  | .normal => .skip

theorem tok_params {n : Nat} : ∀ (ps : List Nat) (xs : List SV) (t : List SV) (vs : Array Value), TOk e n t vs → belL 0 xs = true → TOk e n (refill t ps xs) ((ps.zip (denL e0 xs)).foldl (fun t p => t.setIfInBounds p.1 p.2) vs)
  | [], xs, t, vs, h, _ => by simpa [refill] using h
  | p :: ps, [], t, vs, h, _ => by simpa [refill, denL] using h
  | p :: ps, x :: xs, t, vs, h, hb => by
    simp only [belL, Bool.and_eq_true] at hb
    simp only [refill, denL, List.zip_cons_cons, List.foldl_cons]
    refine tok_params ps xs _ _ (h.set (.inr ⟨?_, bel_mono (Nat.zero_le n) x hb.1⟩) p) hb.2
    exact den_tags x (fun i hi => by have := tags_lt x hb.1 i hi; omega)

theorem mask_get : ∀ (ts : List Nat) {o : List (Option SObj)} {i : Nat} {x : SObj}, (mask o ts)[i]? = some (some x) → o[i]? = some (some x) ∧ i ∉ ts
  | [], o, i, x, h => ⟨h, by simp⟩
  | s :: ts, o, i, x, h => by
    obtain ⟨h1, h2⟩ := mask_get ts (o := o.set s none) h
    refine ⟨kill_get (t := some s) h1, ?_⟩
    simp only [List.mem_cons, not_or]
    refine ⟨?_, h2⟩
    rintro rfl
    rw [List.getElem?_set] at h1
    simp at h1
theorem mask_length : ∀ (ts : List Nat) (o : List (Option SObj)), (mask o ts).length = o.length
  | [], _ => rfl
  | s :: ts, o => by
    show (mask (o.set s none) ts).length = _
    rw [mask_length ts]; simp

theorem WOk.mask {ds : List Deferred} (hw : WOk G ds e o h w) (ts : List Nat) : WOk G ds e (Pw.mask o ts) h w := by
  refine hw.step (Nat.le_refl _) rfl rfl rfl (fun _ _ _ => rfl) (fun _ _ => ⟨rfl, rfl⟩) (fun i x hi => ?_) (fun i x hi hx => .inl ⟨i, x, (mask_get ts hi).1, hx, rfl⟩)
    (fun i j x y hi hj hx hy hij => hw.sep i j x y (mask_get ts hi).1 (mask_get ts hj).1 hx hy hij) (fun i s xs hi => (mask_get ts hi).1)
  rw [mask_length]; exact hw.ob i x (mask_get ts hi).1

theorem Sup.congr {ds : List Deferred} {B B' : Nat → Prop} (S : Sup G ds e o h B w) (hB : ∀ k, B k ↔ B' k) : Sup G ds e o h B' w := by
  have : B = B' := funext fun k => propext (hB k)
  rw [← this]; exact S

theorem putObj_same {B : Nat → Prop} {L : Nat} {x : Obj} (hL : ¬ B L) : SameB B w (w.putObj L x) := ⟨rfl, rfl, rfl, by simp, fun k hk => World.putObj_heap_other (fun he => hL (he ▸ hk))⟩

/-- What is promised to the iterator. -/
def RInv (G : Base) (ds : List Deferred) (e : Env) (t : List SV) (h : Hp) (m n : Nat) (L : Nat) (rec : LoopState → Option Code → Loop) (J : List (List SV) → List (Option SObj) → Hp → Prop) (K : SX → SK) (s : Bool) (xs : List (List SV)) (B : Nat → Prop) (W : World) : Prop :=
  B L ∧ ((s = false ∧ W.heap[L]? = some (.loop (rec .ready none)) ∧ ∃ e2 o2 h2, J xs o2 h2 ∧ HLe h h2 ∧ o2.length = n ∧ (∀ i, i < m → e2.blk i = e.blk i ∧ e2.loc i = e.loc i) ∧ Sup G ds e2 o2 h2 (fun k => B k ∧ k ≠ L) W) ∨
    (s = true ∧ ∃ z : SX, z ≠ .normal ∧ W.heap[L]? = some (.loop (rec .done (some z.code))) ∧ ∃ e2 o2 h2, K z t o2 h2 ∧ m ≤ o2.length ∧ (∀ i, i < m → e2.blk i = e.blk i ∧ e2.loc i = e.loc i) ∧ Sup G ds e2 o2 h2 (fun k => B k ∧ k ≠ L) W))

theorem RInv.stable {ds : List Deferred} {m n L : Nat} {rec : LoopState → Option Code → Loop} {J : List (List SV) → List (Option SObj) → Hp → Prop} {K : SX → SK} {s : Bool} {xs : List (List SV)} {B : Nat → Prop} {W W' : World}
    (I : RInv G ds e t h m n L rec J K s xs B W) (hs : SameB B W W') : RInv G ds e t h m n L rec J K s xs B W' := by
  obtain ⟨hL, hI⟩ := I
  refine ⟨hL, ?_⟩
  rcases hI with ⟨h1, h2, e2, o2, h2', h3, h4, h5, h6, h7⟩ | ⟨h1, z, hz, h2, e2, o2, h2', h3, h4, h5, h6⟩
  · exact .inl ⟨h1, (hs.block L hL).trans h2, e2, o2, h2', h3, h4, h5, h6, h7.stable (hs.sub fun k hk => hk.1)⟩
  · exact .inr ⟨h1, z, hz, (hs.block L hL).trans h2, e2, o2, h2', h3, h4, h5, h6.stable (hs.sub fun k hk => hk.1)⟩

/-- One round. -/
theorem round_sound {ds : List Deferred} {m n L n' : Nat} {fn : FuncId} {ps : Array Tmp} {assign body : Code} {tmps : Array Value} {dd : Nat} {J : List (List SV) → List (Option SObj) → Hp → Prop} {K : SX → SK} {lists : List (Plc × TypeId × Nat)} {t0 : List SV}
    (hc : YCfg P G c) (hm : G.nk ≤ m) (hmn : m ≤ n)
    (IHa : ∀ (G' : Base) (K' : SX → SK) (Q' : Exit → Act → World → Prop), YCfg P G' { c with round := true } → NxtX G' K' Q' → ∀ e t o h a w, Rel G' e t o h a w → swp P { c with round := true } assign t o h K' → assign.wpIn (FW (some L)) n' P Q' a w)
    (IHb : ∀ (G' : Base) (K' : SX → SK) (Q' : Exit → Act → World → Prop), YCfg P G' { c with round := true } → NxtX G' K' Q' → ∀ e t o h a w, Rel G' e t o h a w → swp P { c with round := true } body t o h K' → body.wpIn (FW (some L)) n' P Q' a w)
    (hT : TOk e m t tmps) {pre : List (List SV)} {xs : List SV} {B : Nat → Prop} {W : World} {rec : LoopState → Option Code → Loop} (hrec : rec = fun st pe => { state := st, pending := pe, fn, tmps, params := ps, assign, body, defers := dd })
    (I : RInv G ds e t h m n L rec J K false pre B W) (hps : xs.length = ps.size) (hb0 : belL 0 xs = true)
    (hround : ∀ o2 h1, HLe h h1 → J pre o2 h1 → swp P { c with round := true } assign (refill t ps.toList xs) o2 h1 fun z t3 o3 h3 => match z with
      | .normal => swp P { c with round := true } body t3 o3 h3 fun z t' o' h' => match z with
        | .normal => meetK [] m n t0 o2 lists t' o' fun _ o' => match belObjs n (o'.take n) && Nat.beq (o'.take n).length n with
          | true => nrmOs (o'.take n) fun o' => J (pre ++ [xs]) o' h'
          | false => False
        | z => K z t o' h'
      | _ => False) :
    YieldAt (FW none) n' P L (denL e0 xs).toArray W fun en w' => ∃ (b : Bool) (B' : Nat → Prop), en = .returned (.bool b) ∧ (∀ w'', SameB B' w' w'' → RInv G ds e t h m n L rec J K (!b) (pre ++ [xs]) B' w'') ∧ (∀ k, B k → B' k) ∧
      (∀ k, B' k → k < w'.heap.size ∧ (B k ∨ W.heap.size ≤ k)) ∧ SameB (fun k => k < W.heap.size ∧ (¬ B k ∨ h k ≠ none)) W w' := by
  obtain ⟨hBL, ⟨_, hrecL, e2, o2, h2, hJ, hle, hlen, hag, S⟩ | ⟨hs, _⟩⟩ := I
  · have hLlt : L < W.heap.size := (Array.getElem?_eq_some_iff.1 hrecL).1
    have hsz : (denL e0 xs).toArray.size = ps.size := by simpa [denL_length] using hps
    have hyield := run_yield (P := P) (args := (denL e0 xs).toArray) hrecL (by rw [hrec]; exact hsz)
    rw [hrec] at hyield
    refine ⟨fn, _, assign, body, hyield, roundIn_of_wpIn trivial ?_⟩
    -- the assignments
    have hT2 : TOk e2 o2.length t tmps := by
      refine ⟨hT.1, fun i x hx => or_map (hT.2 i x hx) fun hq => ⟨?_, bel_mono (by omega) x hq.2⟩⟩
      rw [hq.1, den_tags x (fun q hq' => ⟨(hag q (tags_lt x hq.2 q hq')).1.symm, (hag q (tags_lt x hq.2 q hq')).2.symm⟩)]
    have hzip : ((ps.zip (denL e0 xs).toArray).foldl (fun t (p : Tmp × Value) => t.setIfInBounds p.1 p.2) tmps) = ((ps.toList.zip (denL e0 xs)).foldl (fun t p => t.setIfInBounds p.1 p.2) tmps) := by
      rw [← Array.foldl_toList]; simp
    have hrel : Rel (G.part ds (fun k => B k ∧ k ≠ L) m e2 W) e2 (refill t ps.toList xs) o2 h2 { tmps := (ps.zip (denL e0 xs).toArray).foldl (fun t (p : Tmp × Value) => t.setIfInBounds p.1 p.2) tmps, defers := [] } W :=
      ⟨by rw [hzip]; exact tok_params _ _ _ _ hT2 hb0, S.enter m, by show m ≤ o2.length; omega⟩
    have hyc : ∀ B2 e2 W2, YCfg P (G.part ds B2 m e2 W2) { c with round := true } := fun B2 e2 W2 => ⟨fun n xs args B w h1 h2 h3 h4 h5 => hc.ok n xs args B w h1 h2 h3 h4 h5, hc.yl, hc.yok, hc.yN, rfl⟩
    refine IHa _ _ _ (hyc _ _ _) (fun z e3 t3 o3 h3 a3 W3 hk3 hr3 => ?_) e2 _ o2 h2 _ W hrel (swp_same (hround o2 h2 hle hJ))
    obtain ⟨hk3, _, hl3⟩ := hk3
    cases z with
    | exit id => exact hk3.elim
    | ret => exact hk3.elim
    | normal =>
      obtain ⟨S3, hs3⟩ := S.leave hm hr3.wok
      have hd3 : a3.defers = [] := by obtain ⟨_, p3⟩ := hr3.wok.pr; exact p3.rd rfl
      have hL3 : W3.heap[L]? = some (.loop (rec .ready none)) := (hs3.block L ⟨hLlt, fun hq => hq.2 rfl⟩).trans hrecL
      have nB3 : ¬ ((B L ∧ L ≠ L) ∨ (W.heap.size ≤ L ∧ L < W3.heap.size)) := fun hq => hq.elim (fun h => h.2 rfl) (fun h => by omega)
      refine ⟨_, run_beginRound hL3 (by rw [hrec]), ?_⟩
      have hLb : (W3.putObj L (.loop { rec .ready none with state := .busy })).heap[L]? = some (.loop { rec .ready none with state := .busy }) := World.putObj_heap_same (Array.getElem?_eq_some_iff.1 hL3).1
      have S4 := S3.stable (putObj_same (x := .loop { rec .ready none with state := .busy }) nB3)
      generalize hWb : W3.putObj L (.loop { rec .ready none with state := .busy }) = Wb at *
      have hWbs : Wb.heap.size = W3.heap.size := by rw [← hWb]; simp
      have hLltb : L < Wb.heap.size := (Array.getElem?_eq_some_iff.1 hLb).1
      have hrel4 : Rel (G.part ds _ m e3 Wb) e3 t3 o3 h3 a3 Wb := ⟨hr3.tok, by rw [hd3]; exact S4.enter m, hr3.kl⟩
      refine IHb _ _ _ (hyc _ _ _) (fun z e5 t5 o5 h5 a5 W5 hk5 hr5 => ?_) e3 t3 o3 h3 a3 Wb hrel4 (swp_same hk3)
      obtain ⟨hk5, _, hl5⟩ := hk5
      have hs5 := (S4.leave hm hr5.wok).2
      have hL5 : W5.heap[L]? = some (.loop { rec .ready none with state := .busy }) := (hs5.block L ⟨hLltb, nB3⟩).trans hLb
      have hle5 : HLe h h5 := (hle.trans hl3).trans hl5
      have hag3 : ∀ i, i < m → e3.blk i = e.blk i ∧ e3.loc i = e.loc i := fun i hi => by
        have h1 : e3.blk i = e2.blk i ∧ e3.loc i = e2.loc i := hr3.wok.agr i hi
        rw [h1.1, h1.2]; exact hag i hi
      -- what is said of the world at the end, whatever the jump
      have fin : ∀ (s : Bool) (jump : Option Code) (e6 : Env) (o6 : List (Option SObj)) (ds6 : List Deferred), WOk (G.part ds (fun k => (B k ∧ k ≠ L) ∨ (W.heap.size ≤ k ∧ k < W3.heap.size)) m e3 Wb) ds6 e6 o6 h5 W5 →
          (∀ W6 B6, W6.heap[L]? = some (.loop (rec (if jump.isNone then .ready else .done) jump)) → Sup G ds e6 o6 h5 (fun k => B6 k ∧ k ≠ L) W6 → (∀ i, i < m → e6.blk i = e.blk i ∧ e6.loc i = e.loc i) → B6 L → RInv G ds e t h m n L rec J K s (pre ++ [xs]) B6 W6) → jump.isNone = !s →
          ∃ v w', (Instr.endRound L jump).run P W5 = .ok v w' ∧ ∃ (b : Bool) (B' : Nat → Prop), Ending.returned v = .returned (.bool b) ∧ (∀ w'', SameB B' w' w'' → RInv G ds e t h m n L rec J K (!b) (pre ++ [xs]) B' w'') ∧ (∀ k, B k → B' k) ∧
            (∀ k, B' k → k < w'.heap.size ∧ (B k ∨ W.heap.size ≤ k)) ∧ SameB (fun k => k < W.heap.size ∧ (¬ B k ∨ h k ≠ none)) W w' := fun s jump e6 o6 ds6 W6 hinv hjs => by
        obtain ⟨S6, hs6⟩ := S4.leave hm W6
        have hend := run_endRound (P := P) jump hL5
        have hsz3 := hs3.size
        have hsz5 := hs5.size
        have nB6 : ¬ (((B L ∧ L ≠ L) ∨ (W.heap.size ≤ L ∧ L < W3.heap.size)) ∨ (Wb.heap.size ≤ L ∧ L < W5.heap.size)) := fun hq => hq.elim nB3 (fun h => by omega)
        refine ⟨_, _, hend, jump.isNone, fun k => (((B k ∧ k ≠ L) ∨ (W.heap.size ≤ k ∧ k < W3.heap.size)) ∨ (Wb.heap.size ≤ k ∧ k < W5.heap.size)) ∨ k = L, rfl, fun w'' hw'' => ?_, fun k hk => ?_, fun k hk => ?_, ?_⟩
        · refine RInv.stable ?_ hw''
          have hnot : (!jump.isNone) = s := by rw [hjs]; simp
          rw [hnot]
          refine hinv _ _ ?_ ?_ (fun i hi => ?_) (.inr rfl)
          · rw [World.putObj_heap_same (Array.getElem?_eq_some_iff.1 hL5).1, hrec]
          · refine (S6.stable (putObj_same nB6)).congr (fun k => ⟨fun hq => ⟨.inl hq, fun he => nB6 (he ▸ hq)⟩, fun hq => hq.1.elim id (fun he => absurd he hq.2)⟩)
          · have h1 : e6.blk i = e3.blk i ∧ e6.loc i = e3.loc i := W6.agr i hi
            rw [h1.1, h1.2]; exact hag3 i hi
        · by_cases hkL : k = L
          · exact .inr hkL
          · exact .inl (.inl (.inl ⟨hk, hkL⟩))
        · have hz : (W5.putObj L (.loop { ({ rec .ready none with state := .busy } : Loop) with state := if jump.isNone then .ready else .done, pending := jump })).heap.size = W5.heap.size := by simp
          rw [hz]
          rcases hk with ((hk | hk) | hk) | rfl
          · have := S.lt k hk; exact ⟨by omega, .inl hk.1⟩
          · exact ⟨by omega, .inr hk.1⟩
          · exact ⟨by omega, .inr (by omega)⟩
          · exact ⟨by omega, .inl hBL⟩
        · refine ⟨?_, ?_, ?_, ?_, fun k hk => ?_⟩
          · show W5.os = W.os
            rw [hs5.os, ← hs3.os, ← hWb]; rfl
          · show W5.tape = W.tape
            rw [hs5.tape, ← hs3.tape, ← hWb]; rfl
          · show W5.output = W.output
            rw [hs5.output, ← hs3.output, ← hWb]; rfl
          · simp; omega
          · have hkL : k ≠ L := by
              rcases hk.2 with hq | hq
              · rintro rfl; exact hq hBL
              · rintro rfl
                cases hx : h k with
                | none => exact hq hx
                | some x => exact (S.hb k x (hle k x hx)).2 rfl
            rw [World.putObj_heap_other hkL]
            rcases hk.2 with hq | hq
            · have nb : ¬ ((B k ∧ k ≠ L) ∨ (W.heap.size ≤ k ∧ k < W3.heap.size)) := fun hh => hh.elim (fun h => hq h.1) (fun h => by have := hk.1; omega)
              rw [hs5.block k ⟨by have := hk.1; omega, nb⟩, ← hWb, World.putObj_heap_other hkL]
              exact hs3.block k ⟨hk.1, fun hh => hq hh.1⟩
            · cases hx : h k with
              | none => exact absurd hx hq
              | some x => rw [hr5.wok.hh k x (hle5 k x hx), S.wok.hh k x (hle k x hx)]
      cases z with
      | normal =>
        obtain ⟨e6, t6, o6, k1, k2, _, _, k5, k6, _⟩ := meet_ok (G := G.part ds (fun k => (B k ∧ k ≠ L) ∨ (W.heap.size ≤ k ∧ k < W3.heap.size)) m e3 Wb) (Nat.le_refl m) lists hr5.wok (SlotsOk.of_tok hr5.tok []) hr5.tok.1 hk5
        split at k1
        · rename_i hok
          simp only [Bool.and_eq_true] at hok
          rw [nrmOs_eq] at k1
          have hn6 := Nat.eq_of_beq_eq_true hok.2
          have hno : n ≤ o6.length := by simp at hn6; omega
          have hJ6 : ((o6.take n).map nrmO).length = n := by simpa using hn6
          exact fin false none e6 ((o6.take n).map nrmO) a5.defers ((k2.take hno hok.1).nrm) (fun W6 B6 q1 q2 q3 q4 => ⟨q4, .inl ⟨rfl, q1, e6, _, h5, k1, hle5, hJ6, q3, q2⟩⟩) rfl
        · exact k1.elim
      | ret => exact fin true (some .ret) e5 o5 a5.defers hr5.wok (fun W6 B6 q1 q2 q3 q4 => ⟨q4, .inr ⟨rfl, .ret, by simp, q1, e5, o5, h5, hk5, hr5.kl, q3, q2⟩⟩) rfl
      | exit id => exact fin true (some (.exit id)) e5 o5 a5.defers hr5.wok (fun W6 B6 q1 q2 q3 q4 => ⟨q4, .inr ⟨rfl, .exit id, by simp, q1, e5, o5, h5, hk5, hr5.kl, q3, q2⟩⟩) rfl
  · cases hs

end Go.Pw
