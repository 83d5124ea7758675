/-
  A verification-condition generator for Go's IR. Part i: code, and functions.
-/
import Derived.Test.YtdpoebadaomfgaaVh
import Derived.StillTail
set_option linter.unusedSimpArgs false
set_option linter.unusedVariables false
namespace Go.Pw
open Go Go.RowKit
variable {G : Base} {e : Env} {t : List SV} {o : List (Option SObj)} {h : Hp} {a : Act} {w : World} {P : Program} {c : Cfg} {gs : List Nat}

theorem noDefer_spec {l : List Oper} (h : noDefer l = true) : ∀ p ∈ l, ∀ c, p.op ≠ .defer c := by
  induction l with
  | nil => intro p hp; cases hp
  | cons q r ih =>
    unfold noDefer at h
    split at h
    · simp at h
    · rename_i hq
      intro p hp
      rcases List.mem_cons.1 hp with rfl | hp
      · exact fun c hc => hq c hc
      · exact ih h p hp

theorem uponIn_round {r : Option Nat} {n : Nat} {p : Oper} {next next' : Act → World → Prop} {Q : Exit → Act → World → Prop} (hm : ∀ a w, next a w → next' a w) {x : Result Next} (hu : p.uponIn (FW none) n P a next Q x) : p.uponIn (FW r) n P a next' Q x := by
  cases x with
  | ok v w' =>
    cases v with
    | value v => exact hm _ _ hu
    | skip => exact hm _ _ hu
    | defer d => exact hm _ _ hu
    | enter f args =>
      obtain ⟨_, hc⟩ := hu
      refine ⟨fun hd => by simp [FW, Fence.wide] at hd, ?_⟩
      exact CallsIn.mono (F := FW r) hc (fun en w'' he => by
        cases en with
        | returned v => exact hm _ _ he
        | panicked ch => exact he
        | outgrown => exact he)
    | row rw_ args =>
      obtain ⟨_, hc⟩ := hu
      refine ⟨fun hd => by simp [FW, Fence.wide] at hd, ?_⟩
      exact RowsIn.mono (F := FW r) hc (fun v w'' he => hm _ _ he)
    | round l f tmps as bd =>
      obtain ⟨_, hc⟩ := hu
      refine ⟨fun hd => by simp [FW, Fence.wide] at hd, ?_⟩
      exact RoundIn.mono (F := FW r) hc (fun en w'' he => by
        cases en with
        | returned v => exact hm _ _ he
        | panicked ch => exact he
        | outgrown => exact he)
    | _ => exact hu.elim
  | halt x w' =>
    cases x with
    | panic v => exact hu
    | _ => exact hu.elim

theorem wpOpsIn_round {r : Option Nat} {n : Nat} {ops : Array Oper} {Q : Exit → Act → World → Prop} (hd : noDefer ops.toList = true) : ∀ (l : List Nat) (a : Act) (w : World), wpOpsIn (FW none) n P ops Q l a w → wpOpsIn (FW r) n P ops Q l a w
  | [], _, _, h => h
  | i :: l, a, w, h => by
    unfold wpOpsIn at h ⊢
    split
    · rename_i ho
      simp only [ho] at h
      exact wpOpsIn_round hd l a w h
    · rename_i p ho
      simp only [ho] at h
      have hp : ∀ c, p.op ≠ .defer c := noDefer_spec hd p (by
        have := Array.mem_of_getElem? ho
        exact Array.mem_toList_iff.2 this)
      split
      · rename_i hw
        rw [if_pos hw] at h
        refine ⟨fun _ _ => trivial, ?_⟩
        rw [Oper.semAt_eq _ _ _ hp]
        have h2 := h.2
        rw [Oper.semAt_eq _ _ _ hp] at h2
        exact uponIn_round (fun a w => wpOpsIn_round hd l a w) h2
      · rename_i hw
        rw [if_neg hw] at h
        exact ⟨fun _ _ => trivial, wpOpsIn_round hd l _ _ h.2⟩

theorem region_draw_round {r : Option Nat} {n : Nat} {id : Nat} {ops : Array Oper} {Q : Exit → Act → World → Prop} (hd : noDefer ops.toList = true) (hm : P.follows .mixedOrders = true)
    (h : wpAnyIn (FW none) n P .any ops Q ops.size (Array.replicate ops.size false) a { w with drawn := w.drawn + 1 }) : (Code.region id ops true).wpIn (FW r) n P Q a w := by
  refine wpIn_region_draw fun tt => wpOpsIn_round hd _ _ _ ?_
  have := wpAnyIn_sound ops.size tt _ a _ h
  simpa [Region.schedule, hm, Region.linearise] using this

/-! ### a region that draws its order: quiet operations, then others one behind the other -/

def wpAnyLQ (F : Fence) (n : Nat) (P : Program) (md : Region.Mode) (ops : Array Oper) (C : World → Prop) (m : Nat) (L : Array Bool → Act → Prop) : Nat → Array Bool → Act → Prop
  | 0, listed, a => L listed a
  | f + 1, listed, a => Region.ready md ops listed ≠ [] ∧ ∀ i ∈ Region.ready md ops listed, i < m ∧ qOpIn F n P ops C i (wpAnyLQ F n P md ops C m L f (listed.setIfInBounds i true)) a

section
variable {F : Fence} {n : Nat} {md : Region.Mode} {ops : Array Oper} {C : World → Prop}

theorem wpAnyIn_of_headQ {m g : Nat} {L : Array Bool → Act → Prop} {Q' : Exit → Act → World → Prop} (hro : F.round = none) (hL : ∀ listed a w, C w → L listed a → wpAnyIn F n P md ops Q' g listed a w) :
    ∀ (f : Nat) (listed : Array Bool) (a : Act) (w : World), C w → wpAnyLQ F n P md ops C m L f listed a → wpAnyIn F n P md ops Q' (f + g) listed a w
  | 0, listed, a, w, hw, h => by rw [Nat.zero_add]; exact hL _ _ _ hw h
  | f + 1, listed, a, w, hw, h => by
    rw [show f + 1 + g = (f + g) + 1 by omega]
    exact ⟨fun h0 => absurd h0 h.1, fun i hi => wpOpIn_of_qOpIn hro hw (fun a' w' hw' h' => wpAnyIn_of_headQ hro hL f _ a' w' hw' h') (h.2 i hi).2⟩

theorem wpAnyLQ_first {m i : Nat} {oi : Oper} {v : Value} {L : Array Bool → Act → Prop} (hi : ops[i]? = some oi) (hsel : ∀ (j : Nat) (o : Oper) cs b, ops[j]? = some o → o.op ≠ .select cs b)
    (hs : Region.sinkB md ops m = true) (hc : Region.chainB md ops m = true) (hn : m < ops.size) (hin : i < m)
    (hdone : ∀ listed a, L listed a → ∀ j ∈ Region.ready md ops listed, m ≤ j) :
    ∀ (f : Nat) (listed : Array Bool) (a : Act), HeadInv md ops m listed →
      (∀ j oj, ops[j]? = some oj → j ≠ i → listed.getD j true = false → (∀ e ∈ oj.after, Region.binds md e = true → e.on ≠ i) → oi.apart ops oj = true) →
      i ∈ Region.ready md ops listed → YieldsQuiet F n P ops C oi v a →
      wpAnyLQ F n P md ops C m L f (listed.setIfInBounds i true) (a.put oi.dst v) → wpAnyLQ F n P md ops C m L (f + 1) listed a := by
  intro f
  induction f with
  | zero =>
    intro listed a inv _ hr hy H
    have hun := (mem_ready.1 hr).1
    refine ⟨fun h => (by rw [h] at hr; cases hr), fun j hj => ?_⟩
    have hjn : j < m := by
      rcases Nat.lt_or_ge j m with h | h
      · exact h
      · exact absurd hj (tail_waits hs hc hn inv _ i rfl hin hun j h)
    refine ⟨hjn, ?_⟩
    by_cases hji : j = i
    · subst hji; exact hy.qOpIn hi H
    · have := hdone _ _ H j (ready_mono hj hji)
      omega
  | succ f ih =>
    intro listed a inv hfree hr hy H
    have hun := (mem_ready.1 hr).1
    refine ⟨fun h => (by rw [h] at hr; cases hr), fun j hj => ?_⟩
    have hjn : j < m := by
      rcases Nat.lt_or_ge j m with h | h
      · exact h
      · exact absurd hj (tail_waits hs hc hn inv _ i rfl hin hun j h)
    refine ⟨hjn, ?_⟩
    by_cases hji : j = i
    · subst hji; exact hy.qOpIn hi H
    · have h1 := (H.2 j (ready_mono hj hji)).2
      obtain ⟨hjun, oj, hoj, hall⟩ := mem_ready.1 hj
      have hnot : ∀ e ∈ oj.after, Region.binds md e = true → e.on ≠ i := fun e he hb heq => by
        have h1 := hall e he hb
        rw [heq, getD_both hun] at h1
        cases h1
      have h2 := qOpIn_put hoj (hfree j oj hoj hji hjun hnot) (fun cs b => hsel i oi cs b hi) (fun cs b => hsel j oj cs b hoj) hy h1
      have hfree' : ∀ k ok, ops[k]? = some ok → k ≠ i → (listed.setIfInBounds j true).getD k true = false →
          (∀ e ∈ ok.after, Region.binds md e = true → e.on ≠ i) → oi.apart ops ok = true := fun k ok hk hki hun hno => by
        refine hfree k ok hk hki ?_ hno
        by_cases hjk : j = k
        · subst hjk; exact hjun
        · rw [getD_set_ne true hjk] at hun; exact hun
      refine qOpIn_mono (fun a' h3 => ih (listed.setIfInBounds j true) a' (inv.set hj hjn) hfree' (ready_mono hr (Ne.symm hji)) h3.1 ?_) h2
      rw [Array.setIfInBounds_comm _ _ hji]
      exact h3.2

theorem wpAnyIn_of_seq {Q' : Exit → Act → World → Prop} : ∀ (l : List Oper) (k : Nat) (listed : Array Bool) (a : Act) (w : World), (∀ j, l[j]? = ops[k + j]?) →
    Region.seqB md ops l.length k listed = true → wpListIn F n P ops Q' l a w → wpAnyIn F n P md ops Q' l.length listed a w
  | [], _, _, _, _, _, hB, h => ⟨by simpa [Region.seqB] using hB, h⟩
  | o :: l, k, listed, a, w, hl, hB, h => by
    have h0 : ops[k]? = some o := by simpa using (hl 0).symm
    simp only [List.length_cons, Region.seqB, Bool.and_eq_true, decide_eq_true_eq] at hB
    refine ⟨fun h1 => (by rw [hB.1] at h1; cases h1), fun i hi => ?_⟩
    rw [hB.1] at hi
    have hik : i = k := by simpa using hi
    subst hik
    have hw : wpOpIn F n P ops Q' i (wpListIn F n P ops Q' l) a w := by unfold wpOpIn; simp only [h0]; exact h
    exact wpOpIn_mono (fun a' w' h' => wpAnyIn_of_seq l (i + 1) _ a' w' (fun j => by have := hl (j + 1); simpa [Nat.add_assoc, Nat.add_comm 1 j] using this) hB.2 h') hw

theorem wpAnyLQ_lex {m g : Nat} {Lq : Act → Prop} (hsel : Region.noSelect ops = true) (hs : Region.sinkB md ops m = true) (hc : Region.chainB md ops m = true) (hn : m < ops.size) :
    ∀ (l : List Oper) (k : Nat) (listed : Array Bool) (a : Act), (∀ j, j < l.length → l[j]? = ops[k + j]?) → k + l.length = m → HeadInv md ops m listed →
    Region.lexHead md ops g l.length k listed = true → wpQuietIn F n P ops C Lq l a →
    wpAnyLQ F n P md ops C m (fun listed' a' => Region.seqB md ops g m listed' = true ∧ Lq a') l.length listed a
  | [], k, listed, a, _, hk, _, hB, h => by
    have : k = m := by simpa using hk
    subst this
    exact ⟨by simpa [Region.lexHead] using hB, h⟩
  | o :: l, k, listed, a, hl, hk, inv, hB, h => by
    have h0 : ops[k]? = some o := by simpa using (hl 0 (by simp)).symm
    simp only [List.length_cons, Region.lexHead, Bool.and_eq_true] at hB
    obtain ⟨⟨hr, hf⟩, hB'⟩ := hB
    have hkn : k < m := by simp only [List.length_cons] at hk; omega
    have hr' : k ∈ Region.ready md ops listed := by simpa using hr
    have hst : qOpIn F n P ops C k (wpQuietIn F n P ops C Lq l) a := by unfold qOpIn; simp only [h0]; exact h
    obtain ⟨v, hy, hK⟩ := yieldsQuiet_of_qOpIn h0 hst
    exact wpAnyLQ_first h0 (Region.noSelect_spec hsel) hs hc hn hkn (fun listed' a' hL => seqB_ready hL.1) l.length listed a inv (Region.free_spec h0 hf) hr' hy
      (wpAnyLQ_lex hsel hs hc hn l (k + 1) _ _ (fun j hj => by have := hl (j + 1) (by simp; omega); simpa [Nat.add_assoc, Nat.add_comm 1 j] using this) (by simp only [List.length_cons] at hk; omega) (inv.set hr' hkn) hB' hK)

theorem wpAnyIn_quiet_tail {Q : Exit → Act → World → Prop} (m : Nat) (hro : F.round = none) (hB : Region.lexTailB .any ops m = true) (hw : C w)
    (h : wpQuietIn F n P ops C (fun a' => ∀ w', C w' → wpListIn F n P ops Q (ops.toList.drop m) a' w') (ops.toList.take m) a) : wpAnyIn F n P .any ops Q ops.size (Array.replicate ops.size false) a w := by
  simp only [Region.lexTailB, Bool.and_eq_true, decide_eq_true_eq] at hB
  obtain ⟨⟨⟨⟨hsel, hn⟩, hs⟩, hc⟩, hlex⟩ := hB
  have htl : (ops.toList.take m).length = m := by simp; omega
  have hdl : (ops.toList.drop m).length = ops.size - m := by simp
  have inv0 : HeadInv .any ops m (Array.replicate ops.size false) :=
    ⟨by simp, fun j oj _ hl => (by rw [getD_replicate_false] at hl; cases hl), fun t _ ht => getD_in (by simpa using ht) (getD_replicate_false _ _)⟩
  have H := wpAnyLQ_lex (md := .any) (g := ops.size - m) hsel hs hc hn (ops.toList.take m) 0 _ a (fun j hj => by
    have hj' : j < m := by rw [htl] at hj; exact hj
    simp [hj']) (by simpa using htl) inv0 (by rw [htl]; exact hlex) h
  have := wpAnyIn_of_headQ (Q' := Q) (g := ops.size - m) hro (fun listed a' w' hw' hL => by
    have := wpAnyIn_of_seq (md := .any) (Q' := Q) (ops.toList.drop m) m listed a' w' (fun j => by simp [List.getElem?_drop]) (by rw [hdl]; exact hL.1) (hL.2 w' hw')
    rwa [hdl] at this) _ _ _ _ hw H
  rw [htl, show m + (ops.size - m) = ops.size by omega] at this
  exact this
end

def SX.exit' : SX → Exit
  | .normal => .normal
  | .exit id => .exit id
  | .ret => .ret

/-- Where it goes on, by each way out. -/
abbrev NxtX (G : Base) (K : SX → SK) (Q : Exit → Act → World → Prop) : Prop := ∀ x e t o h a w, K x t o h → Rel G e t o h a w → Q x.exit' a w

theorem belObjs_spec {n : Nat} : ∀ {o : List (Option SObj)}, belObjs n o = true → ∀ (i : Nat) (ty : TypeId) (cs : List SV), o[i]? = some (some (.cells ty cs)) → belL n cs = true
  | x :: r, h, i, ty, cs, hi => by
    cases i with
    | zero =>
      simp at hi; subst hi
      simp only [belObjs, Bool.and_eq_true] at h
      exact h.1
    | succ i =>
      have h' : belObjs n r = true := by
        cases x with
        | none => simpa [belObjs] using h
        | some x => cases x with
          | cells => simp only [belObjs, Bool.and_eq_true] at h; exact h.2
          | olist => simpa [belObjs] using h
          | ghost => simpa [belObjs] using h
      exact belObjs_spec h' i ty cs (by simpa using hi)

/-- Fewer objects are known. -/
theorem Rel.take (hr : Rel G e t o h a w) {m : Nat} (hm : m ≤ o.length) {t' : List SV} (hT : TOk e m t' a.tmps) (hb : belObjs m (o.take m) = true) (hk : G.nk ≤ m) : Rel G e t' (o.take m) h a w := by
  have hlen : (o.take m).length = m := by simp; omega
  have get : ∀ (i : Nat) (x : SObj), (o.take m)[i]? = some (some x) → i < m ∧ o[i]? = some (some x) := fun i x hi => by
    rw [List.getElem?_take] at hi
    split at hi
    · exact ⟨by assumption, hi⟩
    · cases hi
  have hw := hr.wok
  refine ⟨by rw [hlen]; exact hT, ?_, by rw [hlen]; exact hk⟩
  refine hw.step (Nat.le_refl _) rfl rfl rfl (fun _ _ _ => rfl) (fun _ _ => ⟨rfl, rfl⟩) (fun i x hi => ?_) (fun i x hi hx => .inl ⟨i, x, (get i x hi).2, hx, rfl⟩)
    (fun i j x y hi hj hx hy hij => hw.sep i j x y (get i x hi).2 (get j y hj).2 hx hy hij) (fun i s xs hi => (get i _ hi).2)
  have h1 := hw.ob i x (get i x hi).2
  rw [hlen]
  cases x with
  | cells ty cs => exact ⟨h1.1, belObjs_spec hb i ty cs hi⟩
  | olist => exact h1
  | ghost => trivial

theorem foldl_set_length : ∀ (ms : List Nat) (t : List SV), (ms.foldl (fun t m => t.set m .junk) t).length = t.length
  | [], _ => rfl
  | m :: ms, t => by simp [foldl_set_length ms]
theorem foldl_set_get : ∀ (ms : List Nat) (t : List SV) (i : Nat) (x : SV), (ms.foldl (fun t m => t.set m .junk) t)[i]? = some x → (i ∈ ms ∧ x = .junk) ∨ (i ∉ ms ∧ t[i]? = some x)
  | [], t, i, x, h => .inr ⟨by simp, h⟩
  | m :: ms, t, i, x, h => by
    rcases foldl_set_get ms (t.set m .junk) i x h with ⟨h1, h2⟩ | ⟨h1, h2⟩
    · exact .inl ⟨List.mem_cons_of_mem _ h1, h2⟩
    · rw [List.getElem?_set] at h2
      by_cases hm : m = i
      · subst hm
        rw [if_pos rfl] at h2
        split at h2
        · exact .inl ⟨List.mem_cons_self .., by simpa using h2.symm⟩
        · cases h2
      · rw [if_neg hm] at h2
        exact .inr ⟨by simp [h1, Ne.symm hm], h2⟩

theorem refill_length : ∀ (ss : List Nat) (vs t : List SV), (refill t ss vs).length = t.length
  | [], vs, t => by simp [refill]
  | s :: ss, [], t => by simp [refill]
  | s :: ss, v :: vs, t => by simp [refill, refill_length ss]

end Go.Pw
