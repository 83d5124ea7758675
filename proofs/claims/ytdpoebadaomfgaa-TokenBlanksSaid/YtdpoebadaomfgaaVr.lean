/-
  A verification-condition generator for Go's IR. Part r: regions whose stores may come ahead of some reads.
-/
import Derived.Test.YtdpoebadaomfgaaVq
set_option linter.unusedSimpArgs false
set_option linter.unusedVariables false
namespace Go.Pw
open Go Go.RowKit
variable {G : Base} {e : Env} {t : List SV} {o : List (Option SObj)} {h : Hp} {a : Act} {w : World} {P : Program} {c : Cfg} {gs : List Nat}

section
variable {n : Nat} {md : Region.Mode} {ops : Array Oper} {I : World → Prop} {Q : Exit → Act → World → Prop}

/-- Whatever order is picked, every world on the way is of the class. -/
def wpAnyI (n : Nat) (P : Program) (md : Region.Mode) (ops : Array Oper) (I : World → Prop) (Q : Exit → Act → World → Prop) : Nat → Array Bool → Act → World → Prop
  | 0, listed, a, w => I w ∧ Region.ready md ops listed = [] ∧ Q .normal a w
  | fuel + 1, listed, a, w => I w ∧ (Region.ready md ops listed = [] → Q .normal a w) ∧
    ∀ i ∈ Region.ready md ops listed, wpOpIn (FW none) n P ops Q i (wpAnyI n P md ops I Q fuel (listed.setIfInBounds i true)) a w

theorem wpAnyI_cls : ∀ {f : Nat} {listed : Array Bool} {a : Act} {w : World}, wpAnyI n P md ops I Q f listed a w → I w
  | 0, _, _, _, h => h.1
  | _ + 1, _, _, _, h => h.1

theorem wpAnyI_in : ∀ (f : Nat) (listed : Array Bool) (a : Act) (w : World), wpAnyI n P md ops I Q f listed a w → wpAnyIn (FW none) n P md ops Q f listed a w
  | 0, _, _, _, h => h.2
  | f + 1, _, _, _, h => ⟨h.2.1, fun i hi => wpOpIn_mono (fun a w => wpAnyI_in f _ a w) (h.2.2 i hi)⟩

/-- In state 'a', in every world of the class, operation 'o' yields 'v' and leaves the world alone. -/
def YStill (P : Program) (ops : Array Oper) (I : World → Prop) (o : Oper) (v : Value) (a : Act) : Prop :=
  (Region.wanted o (yielded ops a.tmps) = true ∧ ∀ w, I w → (execOp a.eval o).run P w = .ok (.value v) w) ∨ (Region.wanted o (yielded ops a.tmps) = false ∧ v = undef)

theorem YStill.of_same {o : Oper} {v : Value} {a a' : Act} (hy : YStill P ops I o v a) (he : execOp a'.eval o = execOp a.eval o)
    (hw : Region.wanted o (yielded ops a'.tmps) = Region.wanted o (yielded ops a.tmps)) : YStill P ops I o v a' := by
  unfold YStill at *
  rw [he, hw]; exact hy

theorem YStill.wpOpIn {i : Nat} {o : Oper} {v : Value} {a : Act} (hd : ∀ c, o.op ≠ .defer c) (hi : ops[i]? = some o) (hy : YStill P ops I o v a) {K : Act → World → Prop} {w : World} (hI : I w) (h : K (a.put o.dst v) w) : wpOpIn (FW none) n P ops Q i K a w := by
  unfold Go.wpOpIn
  simp only [hi]
  rcases hy with ⟨hw, hv⟩ | ⟨hw, rfl⟩
  · simp only [hw, if_true]
    exact upon_of_run hd (hv w hI) h
  · simp only [hw, Bool.false_eq_true, if_false]
    exact ⟨fun _ _ => trivial, h⟩

theorem wpOpIn_putI {j : Nat} {oi oj : Oper} {v : Value} (hj : ops[j]? = some oj) (hap : oi.apart ops oj = true)
    (hsi : ∀ cs b, oi.op ≠ .select cs b) (hsj : ∀ cs b, oj.op ≠ .select cs b) (hQ : ∀ c a w, Q (.panic c) (a.put oi.dst v) w → Q (.panic c) a w) {K : Act → World → Prop} {a : Act} {w : World}
    (hy : YStill P ops I oi v a) (h : wpOpIn (FW none) n P ops Q j K (a.put oi.dst v) w) :
    wpOpIn (FW none) n P ops Q j (fun a' w' => YStill P ops I oi v a' ∧ K (a'.put oi.dst v) w') a w := by
  obtain ⟨h1, h2, h3⟩ := Oper.apart_spec hap
  have keep : ∀ (a : Act), YStill P ops I oi v a → ∀ u, YStill P ops I oi v (a.put oj.dst u) := fun a hy u =>
    hy.of_same (execOp_put oi hsi a oj.dst u h3) (wanted_put oi a oj.dst u h3)
  have keepD : ∀ d, YStill P ops I oi v { a with defers := d :: a.defers } := fun d => hy.of_same rfl rfl
  unfold wpOpIn at *
  simp only [hj] at *
  rw [wanted_put oj a oi.dst v h1] at h
  split
  · rename_i hw
    simp only [hw, if_true] at h
    unfold Oper.wpIn at *
    refine ⟨fun _ _ => trivial, ?_⟩
    have h := h.2
    have hro : (FW none).round = none := rfl
    rw [hro, Oper.semAt_none, execOp_put oj hsj a oi.dst v h1] at h
    rw [hro, Oper.semAt_none]
    generalize (execOp a.eval oj).run P w = r at *
    cases r with
    | ok x w' =>
      cases x <;> simp only [Oper.uponIn] at h ⊢
      case value u => exact ⟨keep a hy u, by rw [← Act.put_comm a v u h2]; exact h⟩
      case skip => exact ⟨keep a hy _, by rw [← Act.put_comm a v undef h2]; exact h⟩
      case defer d =>
        refine ⟨keep _ (keepD d) _, ?_⟩
        rw [← Act.put_comm _ v undef h2, ← Act.put_defers]
        exact h
      case enter f args =>
        refine ⟨h.1, CallsIn.mono h.2 fun e w'' he => ?_⟩
        cases e with
        | returned u => exact ⟨keep a hy u, by rw [← Act.put_comm a v u h2]; exact he⟩
        | panicked c => exact hQ _ _ _ he
        | outgrown => exact he
      case row row args => exact ⟨h.1, RowsIn.mono h.2 fun u w'' he => ⟨keep a hy u, by rw [← Act.put_comm a v u h2]; exact he⟩⟩
      case round l f tmps assign body =>
        refine ⟨h.1, RoundIn.mono h.2 fun e w'' he => ?_⟩
        cases e with
        | returned u => exact ⟨keep a hy u, by rw [← Act.put_comm a v u h2]; exact he⟩
        | panicked c => exact hQ _ _ _ he
        | outgrown => exact he
    | halt x w' =>
      cases x <;> simp only [Oper.uponIn] at h ⊢
      case panic u => exact hQ _ _ _ h
  · rename_i hw
    simp only [hw] at h
    exact ⟨fun _ _ => trivial, keep a hy _, by rw [← Act.put_comm a v undef h2]; exact h.2⟩

theorem wpAnyI_first {i : Nat} {oi : Oper} {v : Value} (hi : ops[i]? = some oi) (hdi : ∀ c, oi.op ≠ .defer c) (hsel : ∀ (j : Nat) (o : Oper) cs b, ops[j]? = some o → o.op ≠ .select cs b) (hQ : ∀ c a w, Q (.panic c) (a.put oi.dst v) w → Q (.panic c) a w) :
    ∀ (fuel : Nat) (listed : Array Bool) (a : Act) (w : World),
      (∀ j oj, ops[j]? = some oj → j ≠ i → listed.getD j true = false → (∀ e ∈ oj.after, Region.binds md e = true → e.on ≠ i) → oi.apart ops oj = true) →
      i ∈ Region.ready md ops listed → YStill P ops I oi v a →
      wpAnyI n P md ops I Q fuel (listed.setIfInBounds i true) (a.put oi.dst v) w → wpAnyI n P md ops I Q (fuel + 1) listed a w := by
  intro fuel
  induction fuel with
  | zero =>
    intro listed a w _ hr hy H
    refine ⟨H.1, fun h => (by rw [h] at hr; cases hr), fun j hj => ?_⟩
    by_cases hji : j = i
    · subst hji; exact hy.wpOpIn hdi hi H.1 H
    · have := ready_mono hj hji
      rw [H.2.1] at this
      cases this
  | succ fuel ih =>
    intro listed a w hfree hr hy H
    refine ⟨H.1, fun h => (by rw [h] at hr; cases hr), fun j hj => ?_⟩
    by_cases hji : j = i
    · subst hji; exact hy.wpOpIn hdi hi H.1 H
    · have h1 := H.2.2 j (ready_mono hj hji)
      obtain ⟨hjun, oj, hoj, hall⟩ := mem_ready.1 hj
      have hnot : ∀ e ∈ oj.after, Region.binds md e = true → e.on ≠ i := fun e he hb heq => by
        have h1 := hall e he hb
        have h0 := (mem_ready.1 hr).1
        rw [heq] at h1
        rcases Nat.lt_or_ge i listed.size with h' | h'
        · simp [h'] at h0 h1; rw [h0] at h1; cases h1
        · simp [Array.getElem?_eq_none h'] at h1
      have h2 := wpOpIn_putI hoj (hfree j oj hoj hji hjun hnot) (fun cs b => hsel i oi cs b hi) (fun cs b => hsel j oj cs b hoj) hQ hy h1
      have hfree' : ∀ k ok, ops[k]? = some ok → k ≠ i → (listed.setIfInBounds j true).getD k true = false →
          (∀ e ∈ ok.after, Region.binds md e = true → e.on ≠ i) → oi.apart ops ok = true := fun k ok hk hki hun hno => by
        refine hfree k ok hk hki ?_ hno
        by_cases hjk : j = k
        · subst hjk; exact hjun
        · rw [getD_set_ne true hjk] at hun; exact hun
      refine wpOpIn_mono (fun a' w' h3 => ih (listed.setIfInBounds j true) a' w' hfree' (ready_mono hr (Ne.symm hji)) h3.1 ?_) h2
      rw [Array.setIfInBounds_comm _ _ hji]
      exact h3.2

/-- The floating operations in the order of the text. -/
def wpStillI (P : Program) (ops : Array Oper) (I : World → Prop) (L : Act → Prop) : List Oper → Act → Prop
  | [], a => L a
  | o :: rest, a => ∃ v, YStill P ops I o v a ∧ wpStillI P ops I L rest (a.put o.dst v)

theorem wpAnyI_pull (hsel : Region.noSelect ops = true) (hnd : noDefer ops.toList = true) (hQ : ∀ c a w, ¬ Q (.panic c) a w) {rest : List Nat} {L : Act → Prop} {w : World} (g : Nat) (hg : g = rest.length)
    (hL : ∀ listed a, seqN md ops rest listed = true → L a → wpAnyI n P md ops I Q g listed a w) :
    ∀ (fl : List Nat) (listed : Array Bool) (a : Act), (∀ k ∈ fl, k < ops.size) → pullB md ops rest fl listed = true → wpStillI P ops I L (pick ops fl) a → wpAnyI n P md ops I Q (fl.length + g) listed a w
  | [], listed, a, _, hB, h => by
    simp only [List.length_nil, Nat.zero_add]
    exact hL listed a hB h
  | k :: r, listed, a, hlt, hB, h => by
    have hk : k < ops.size := hlt k (List.mem_cons_self ..)
    have h0 : ops[k]? = some ops[k] := Array.getElem?_eq_getElem hk
    simp only [pick, h0] at h
    obtain ⟨v, hy, h⟩ := h
    simp only [pullB, Bool.and_eq_true] at hB
    have hd : ∀ c, ops[k].op ≠ .defer c := noDefer_spec hnd _ (by simp)
    have := wpAnyI_first (n := n) (Q := Q) (md := md) h0 hd (Region.noSelect_spec hsel) (fun c a w hq => absurd hq (hQ c _ w)) (r.length + g) listed a w (Region.free_spec h0 hB.2.1) (by simpa using hB.1) hy
      (wpAnyI_pull hsel hnd hQ g hg hL r _ _ (fun j hj => hlt j (List.mem_cons_of_mem _ hj)) hB.2.2 h)
    have e : (k :: r).length + g = r.length + g + 1 := by simp; omega
    rw [e]; exact this

/-- The stores, one behind the other. -/
def wpSeqI (n : Nat) (P : Program) (ops : Array Oper) (I : World → Prop) (Q : Exit → Act → World → Prop) : List Oper → Act → World → Prop
  | [], a, w => I w ∧ Q .normal a w
  | o :: rest, a, w => I w ∧ (if Region.wanted o (yielded ops a.tmps) then o.wpIn (FW none) n P a w (wpSeqI n P ops I Q rest) Q else wpSeqI n P ops I Q rest (a.put o.dst undef) w)

theorem wpAnyI_seq : ∀ (l : List Nat) (listed : Array Bool) (a : Act) (w : World), (∀ k ∈ l, k < ops.size) → seqN md ops l listed = true → wpSeqI n P ops I Q (pick ops l) a w → wpAnyI n P md ops I Q l.length listed a w
  | [], listed, a, w, _, hB, h => ⟨h.1, by simpa [seqN] using hB, h.2⟩
  | k :: l, listed, a, w, hlt, hB, h => by
    have hk : k < ops.size := hlt k (List.mem_cons_self ..)
    have h0 : ops[k]? = some ops[k] := Array.getElem?_eq_getElem hk
    simp only [pick, h0] at h
    simp only [seqN, Bool.and_eq_true, decide_eq_true_eq] at hB
    refine ⟨h.1, fun h1 => (by rw [hB.1] at h1; cases h1), fun i hi => ?_⟩
    rw [hB.1] at hi
    have hik : i = k := by simpa using hi
    subst hik
    unfold Go.wpOpIn
    simp only [h0]
    have h2 := h.2
    split
    · rename_i hw
      rw [if_pos hw] at h2
      exact Oper.wpIn_mono (fun a' w' h' => wpAnyI_seq l _ a' w' (fun j hj => hlt j (List.mem_cons_of_mem _ hj)) hB.2 h') h2
    · rename_i hw
      rw [if_neg hw] at h2
      exact ⟨fun _ _ => trivial, wpAnyI_seq l _ _ w (fun j hj => hlt j (List.mem_cons_of_mem _ hj)) hB.2 h2⟩
end

theorem sopsF_sound {D : List Deferred} {ops : Array Oper} {QQ : Act → Prop} {K : SK} (hO : ∀ t, ObB ⟨t, o, h⟩) (hn : ∀ t' a', K t' o h → TOk e o.length t' a'.tmps → a'.defers = D → QQ a') : ∀ (l : List Oper) (t : List SV) (a : Act),
    TOk e o.length t a.tmps → a.defers = D → sopsF P c gs ops l t o h K → wpStillI P ops (Cls G D e o h) QQ l a
  | [], t, a, hT, hd, hk => hn t a hk hT hd
  | p :: l, t, a, hT, hd, hk => by
    have fin : ∀ {v : SV} {u : Value}, putG gs p.dst v t o h (fun t o h => sopsF P c gs ops l t o h K) → Sat e o.length v u → wpStillI P ops (Cls G D e o h) QQ l (a.put p.dst u) := fun hk hs => by
      obtain ⟨t', h1, h2⟩ := putG_ok (a := a) hk hT hs
      exact sopsF_sound hO hn l t' _ h2 ((put_defers _ _ _).trans hd) h1
    have one : Region.wanted p (yielded ops a.tmps) = true → sopF P c gs p.op p.dst t o h (fun t o h => sopsF P c gs ops l t o h K) → wpStillI P ops (Cls G D e o h) QQ (p :: l) a := fun hw hk => by
      have hq := qop_ok (G := G) (e := e) (S := ⟨t, o, h⟩) (P := P) hT (hO t) c p
      unfold sopF at hk
      split at hk
      · rename_i v hv
        rw [hv] at hq
        obtain ⟨u, hs, hx⟩ := hq trivial
        exact ⟨u, .inl ⟨hw, fun w hw => hx w hw.toWR⟩, fin hk hs⟩
      · rename_i q v hv
        rw [hv] at hq
        obtain ⟨u, hs, hx⟩ := hq hk.1
        exact ⟨u, .inl ⟨hw, fun w hw => hx w hw.toWR⟩, fin hk.2 hs⟩
      · rename_i R hv
        rw [hv] at hq
        obtain ⟨v, hR, hk⟩ := hk
        obtain ⟨u, hs, hx⟩ := hq v hR
        exact ⟨u, .inl ⟨hw, fun w hw => hx w hw.toWR⟩, fin hk hs⟩
      · exact hk.elim
    have skip : Region.wanted p (yielded ops a.tmps) = false → put p.dst (.tuple []) t o h (fun t o h => sopsF P c gs ops l t o h K) → wpStillI P ops (Cls G D e o h) QQ (p :: l) a := fun hw hk => by
      obtain ⟨t', h1, h2⟩ := put_ok (a := a) hk hT (undef_sat _)
      exact ⟨undef, .inr ⟨hw, rfl⟩, sopsF_sound hO hn l t' _ h2 ((put_defers _ _ _).trans hd) h1⟩
    unfold sopsF at hk
    split at hk
    · rename_i hg
      exact one (by simp [Region.wanted, hg]) hk
    · rename_i j want hg
      split at hk
      · rename_i b hv
        have hw := guard_wanted hT hg hv
        split at hk
        · rename_i hb
          exact one (by rw [hw, hb]) hk
        · rename_i hb
          exact skip (by rw [hw, hb]) hk
      · rename_i vs hv
        exact skip (guard_undef hT hg hv) hk
      · exact hk.elim

theorem mask_set : ∀ (M : List Nat) (o : List (Option SObj)) (tag : Nat) (y : Option SObj), tag ∈ M → mask (o.set tag y) M = mask o M
  | [], _, _, _, h => by cases h
  | m :: M, o, tag, y, h => by
    show mask ((o.set tag y).set m none) M = mask (o.set m none) M
    by_cases hm : tag = m
    · subst hm; rw [List.set_set]
    · rw [List.set_comm _ _ hm]
      exact mask_set M _ tag y ((List.mem_cons.1 h).resolve_left hm)

theorem sopsT_sound {n : Nat} {ops : Array Oper} {M : List Nat} {Q : Exit → Act → World → Prop} {K : SK} {om : List (Option SObj)} {D : List Deferred} (hn : Nxt G K (Q .normal)) : ∀ (l : List Oper) (t : List SV) (o : List (Option SObj)) (a : Act) (w : World),
    a.defers = D → mask o M = om → Rel G e t o h a w → sopsT P c gs M l t o h K → wpSeqI n P ops (Cls G D e om h) Q l a w
  | [], t, o, a, w, hd, hm, hr, hk => ⟨by have := hr.wok.mask M; rw [hm, hd] at this; exact this, hn _ _ _ _ _ _ hk hr⟩
  | p :: l, t, o, a, w, hd, hm, hr, hk => by
    refine ⟨by have := hr.wok.mask M; rw [hm, hd] at this; exact this, ?_⟩
    unfold sopsT at hk
    split at hk
    · exact hk.elim
    · rename_i hg
      rw [if_pos (by simp [Region.wanted, hg])]
      split at hk
      · rename_i _ ty A x hp
        have hd' : ∀ c, p.op ≠ .defer c := fun c hc => by rw [hp] at hc; cases hc
        split at hk
        · rename_i tag off xs i hA hc hi
          split at hk
          · rename_i ty' cs hgc
            split at hk
            · rename_i hcond
              simp only [Bool.and_eq_true] at hcond
              obtain ⟨hM, hcond⟩ := hcond
              have g1 : xs.length = i.size := Nat.eq_of_beq_eq_true hcond.1.1
              have g2 : off + xs.length ≤ cs.length := Nat.le_of_ble_eq_true hcond.1.2
              have ho := getCells_some hgc
              obtain ⟨hj, hcells, hbel⟩ := svc_cells (e := e) hc
              have h1 := ev_sat hr.tok x
              have h2 := h1.eq hj
              have h3 := ev_sat hr.tok A
              rw [hA] at h3
              have h4 := h3.eq (by simp)
              obtain ⟨k1, k2⟩ := hr.wok.ob _ _ ho
              obtain ⟨w', hrun, hheap, hwr⟩ := run_storeVar (P := P) (v := a.eval x) (xs := denL e xs) (off := off) k1 hi (by rw [h2]; exact hcells) (by rw [denL_length]; exact g1) (by rw [denL_length, denL_length]; exact g2) (cellsB_den hcond.2)
              rw [← setAll_denL] at hheap
              have hr' := hr.wrote ho trivial (y := .cells ty' (setAll cs off xs)) trivial hwr (by intros; simp) ⟨hheap, setAll_bel _ _ _ k2 (hbel _ (h1.bel hj))⟩
              simp only [forceVs_eq, setAllK_eq, setK_eq] at hk
              obtain ⟨t', hk', hr''⟩ := hr'.put (u := undef) hk (.inl rfl)
              refine upon_of_run hd' (x := .ok .skip w') ?_ (sopsT_sound hn l t' _ _ _ ((put_defers _ _ _).trans hd) (by rw [mask_set M o tag _ (by simpa using hM)]; exact hm) hr'' hk')
              simp only [execOp, hp, Instr.storeAt, h4, den, Instr.sureAddr, Sem.run_bind, Sem.run_pure, Result.andThen_ok, hrun]
            · exact hk.elim
          · exact hk.elim
        · exact hk.elim
      · rename_i _ x hp
        have hd' : ∀ c, p.op ≠ .defer c := fun c hc => by rw [hp] at hc; cases hc
        split at hk
        · obtain ⟨t', hk', hr''⟩ := hr.putG hk (ev_sat hr.tok x)
          refine upon_of_run hd' (x := .ok (.value (a.eval x)) w) ?_ (sopsT_sound hn l t' _ _ _ ((put_defers _ _ _).trans hd) hm hr'' hk')
          simp only [execOp, hp, Sem.run_pure]
        · exact hk.elim
      · exact hk.elim

theorem pick_lt {ops : Array Oper} : ∀ (l : List Oper) (k : Nat) (fl : List Nat), k + l.length ≤ ops.size → (∀ j ∈ fl, j < ops.size) → ∀ j ∈ floats ops k l fl, j < ops.size
  | [], k, fl, _, hf, j, hj => hf j (by simpa [floats] using hj)
  | p :: r, k, fl, hk, hf, j, hj => by
    simp only [List.length_cons] at hk
    unfold floats at hj
    split at hj
    · refine pick_lt r (k + 1) _ (by omega) (fun i hi => ?_) j hj
      rcases List.mem_cons.1 hi with rfl | hi
      · omega
      · exact hf i hi
    · exact pick_lt r (k + 1) fl (by omega) hf j hj
theorem sinks_lt {fl : List Nat} {m : Nat} : ∀ (l : List Oper) (k : Nat), k + l.length ≤ m → ∀ j ∈ sinks fl k l, j < m
  | [], k, _, j, hj => by simp [sinks] at hj
  | p :: r, k, hk, j, hj => by
    simp only [List.length_cons] at hk
    unfold sinks at hj
    split at hj
    · exact sinks_lt r (k + 1) (by omega) j hj
    · rcases List.mem_cons.1 hj with rfl | hj
      · omega
      · exact sinks_lt r (k + 1) (by omega) j hj

theorem pullC_sound {r : Option Nat} {n id : Nat} {ops : Array Oper} {M : List Nat} {K : SX → SK} {Q : Exit → Act → World → Prop} (hn : NxtX G K Q) (hr : Rel G e t o h a w) (hnd : noDefer ops.toList = true) (hk : pullC P c ops M t o h K) : (Code.region id ops true).wpIn (FW r) n P Q a w := by
  unfold pullC at hk
  obtain ⟨hB, hk⟩ := hk
  have hB := ClosedB.out hB
  simp only [pullOk, Bool.and_eq_true] at hB
  obtain ⟨hm, hsel, hlen, hB⟩ := hB
  rw [maskK_eq] at hk
  let Q' : Exit → Act → World → Prop := fun z a w => match z with
    | .normal => Q .normal a w
    | _ => False
  refine wpIn_mono (Q := Q') (region_draw_round hnd hm ?_) (fun z a w hq => by cases z <;> first | exact hq | exact hq.elim)
  have hr0 : Rel G e t o h a { w with drawn := w.drawn + 1 } := ⟨hr.tok, hr.wok.drew, hr.kl⟩
  have hlm : (mask o M).length = o.length := mask_length M o
  have hwm := hr0.wok.mask M
  have hst := sopsF_sound (G := G) (D := a.defers) (e := e) (o := mask o M) (h := h) (P := P) (c := c) (gs := gsOf ops ops.toList) (ops := ops)
    (QQ := fun a' => ∃ t1, TOk e o.length t1 a'.tmps ∧ a'.defers = a.defers ∧ sopsT P c (gsOf ops ops.toList) M (pick ops (sinks (floats ops 0 ops.toList []) 0 ops.toList)) t1 o h (K .normal))
    (fun t i ty cs hi => (hwm.ob i _ hi).2) (fun t' a' hk' hT' hd' => ⟨t', by rw [hlm] at hT'; exact hT', hd', hk'⟩) (pick ops (floats ops 0 ops.toList [])) t a (by rw [hlm]; exact hr.tok) rfl hk
  have H := wpAnyI_pull (n := n) (P := P) (md := .any) (ops := ops) (I := Cls G a.defers e (mask o M) h) (Q := Q') (w := { w with drawn := w.drawn + 1 }) hsel hnd (fun _ _ _ hq => hq)
    (rest := sinks (floats ops 0 ops.toList []) 0 ops.toList) _ rfl (fun listed a' hs hL => by
      obtain ⟨t1, hT1, hd1, hk1⟩ := hL
      refine wpAnyI_seq _ _ _ _ (sinks_lt _ _ (by simp)) hs ?_
      exact sopsT_sound (c := c) (n := n) (Q := Q') (K := K .normal) (fun e t o h a w hk hr => hn .normal e t o h a w hk hr) _ t1 o a' _ hd1 rfl ⟨hT1, by rw [hd1]; exact hr0.wok, hr.kl⟩ hk1)
    (floats ops 0 ops.toList []) (Array.replicate ops.size false) a (pick_lt _ _ _ (by simp) (by simp)) hB hst
  rw [Nat.eq_of_beq_eq_true hlen] at H
  exact wpAnyI_in _ _ _ _ H
end Go.Pw
