/-
  A concrete evaluator for Go's IR. Part f: operations that turn memory.
-/
import Derived.Test.YtelgaffeihgffaaGreatDoorCe2
import Derived.Below
set_option linter.unusedSimpArgs false
set_option linter.unusedVariables false
namespace Go.Cx
open Go Go.RowKit

def isRo : CO → Bool
  | .ro _ => true
  | _ => false

/-- All outside F is as it was. -/
structure Keep (F : Nat → Prop) (w w' : World) : Prop where
  os : w'.os = w.os
  tape : w'.tape = w.tape
  output : w'.output = w.output
  size : w.heap.size ≤ w'.heap.size
  block : ∀ k, F k → w'.heap[k]? = w.heap[k]?
theorem Keep.refl (F : Nat → Prop) (w : World) : Keep F w w := ⟨rfl, rfl, rfl, Nat.le_refl _, fun _ _ => rfl⟩
theorem Keep.trans {F : Nat → Prop} {a b c : World} (h : Keep F a b) (k : Keep F b c) : Keep F a c :=
  ⟨k.os.trans h.os, k.tape.trans h.tape, k.output.trans h.output, Nat.le_trans h.size k.size, fun i hi => (k.block i hi).trans (h.block i hi)⟩
/-- Where a piece of work starts: its world, the blocks that it leaves alone, those that it reads, the tags that are kept free. -/
structure Bas where
  w0 : World
  F : Nat → Prop
  R : Nat → Prop
  Z : Nat → Prop
  hF : ∀ k, F k → k < w0.heap.size
  hR : ∀ k, R k → F k

variable {e : Env} {P : Program} {w : World} {m : Mem} {W0 : Bas}

structure Rel (W0 : Bas) (e : Env) (m : Mem) (w : World) : Prop where
  ok : Mok e m w
  inj0 : ∀ t t' o o' b b', m.get t = some o → m.get t' = some o' → isRo o = false → isRo o' = false → e t = some b → e t' = some b' → b.blk = b'.blk → t = t'
  own : ∀ t o b, m.get t = some o → isRo o = false → e t = some b → ¬ W0.F b.blk
  rof : ∀ t o b, m.get t = some o → isRo o = true → e t = some b → W0.R b.blk
  glb : ∀ g, g < 64 → e g = some ⟨g, 0, 0, 0⟩
  dom : ∀ t, m.nxt ≤ t → e t = none
  frm : Keep W0.F W0.w0 w
  zlt : ∀ t, W0.Z t → t < m.nxt
  bar : ∀ t, W0.Z t → e t = none
theorem Rel.inj (h : Rel W0 e m w) (t t' : Nat) (o o' : CO) (b b' : Blk) (h1 : m.get t = some o) (h2 : m.get t' = some o') (h3 : isRo o' = false) (h4 : e t = some b) (h5 : e t' = some b') (h6 : b.blk = b'.blk) : t = t' := by
  cases hr : isRo o with
  | false => exact h.inj0 t t' o o' b b' h1 h2 hr h3 h4 h5 h6
  | true =>
    have h7 := W0.hR _ (h.rof t o b h1 hr h4)
    rw [h6] at h7
    exact absurd h7 (h.own t' o' b' h2 h3 h5)
theorem Rel.frF (h : Rel W0 e m w) {k : Nat} (hk : W0.F k) : k < w.heap.size := Nat.lt_of_lt_of_le (W0.hF k hk) h.frm.size
theorem Rel.nF (h : Rel W0 e m w) {k : Nat} (hk : w.heap.size ≤ k) : ¬ W0.F k := fun hq => by
  have := h.frF hq
  omega
theorem Rel.nxtZ (h : Rel W0 e m w) : e m.nxt = none ∧ ¬ W0.Z m.nxt := ⟨h.dom _ (Nat.le_refl _), fun hz => Nat.lt_irrefl _ (h.zlt _ hz)⟩

theorem TOk.mono {e' : Env} (h : Env.le e e') {t : Tmps} {vs : Array Value} (ht : TOk e t vs) : TOk e' t vs :=
  ⟨ht.1, fun i x hx => let ⟨v, h1, h2⟩ := ht.2 i x hx; ⟨v, den_mono h x v h1, h2⟩⟩
theorem EntsOk.mono {e' : Env} (h : Env.le e e') {es : List (CV × CV × Nat)} {ms : List MapEntry} (he : EntsOk e es ms) : EntsOk e' es ms := by
  induction he with
  | nil => exact .nil
  | cons h1 h2 _ ih => exact .cons (den_mono h _ _ h1) (den_mono h _ _ h2) ih

theorem objOk_env {t : Nat} {o : CO} (h : objOk e w t o) : ∃ b x, e t = some b ∧ w.heap[b.blk]? = some x := by
  cases o with
  | cells => obtain ⟨b, l, h1, _, _, _, h2⟩ := h; exact ⟨b, _, h1, h2⟩
  | opn => obtain ⟨b, l, _, _, h1, _, _, _, _, _, ⟨fr, h2, _⟩, _⟩ := h; exact ⟨b, _, h1, h2⟩
  | map => obtain ⟨b, _, h1, _, h2⟩ := h; exact ⟨b, _, h1, h2⟩
  | loop => obtain ⟨b, _, _, h1, _, h2, _⟩ := h; exact ⟨b, _, h1, h2⟩
  | dfr => obtain ⟨b, h1, h2⟩ := h; exact ⟨b, _, h1, h2⟩
  | ro => obtain ⟨b, l, _, _, _, _, h1, _, _, _, h2, _⟩ := h; exact ⟨b, _, h1, h2⟩
theorem heap_lt {b : Nat} {x : Obj} (h : w.heap[b]? = some x) : b < w.heap.size := (Array.getElem?_eq_some_iff.1 h).1

theorem objOk_mono {e' : Env} {w' : World} (h : Env.le e e') {t : Nat} {o : CO} (hb : ∀ b, e t = some b → w'.heap[b.blk]? = w.heap[b.blk]?) (ho : objOk e w t o) : objOk e' w' t o := by
  cases o with
  | cells => obtain ⟨b, l, h1, h2, h3, h4, h5⟩ := ho; exact ⟨b, l, h _ _ h1, h2, denL_mono h _ _ h3, h4, (hb b h1).trans h5⟩
  | opn => obtain ⟨b, l, p, s, h1, h2, h3, h4, h5, h6, h7, h8⟩ := ho; obtain ⟨fr, h7, h9⟩ := h7; exact ⟨b, l, p, s, h _ _ h1, h2, h3, h4, denL_mono h _ _ h5, h6, ⟨fr, (hb b h1).trans h7, h9⟩, h8⟩
  | map => obtain ⟨b, ms, h1, h2, h3⟩ := ho; exact ⟨b, ms, h _ _ h1, h2.mono h, (hb b h1).trans h3⟩
  | loop => obtain ⟨b, r, db, h1, h2, h3, h4, h5, h6, h7⟩ := ho; exact ⟨b, r, db, h _ _ h1, h _ _ h2, (hb b h1).trans h3, h4, h5, h6.mono h, h7⟩
  | dfr => obtain ⟨b, h1, h2⟩ := ho; exact ⟨b, h _ _ h1, (hb b h1).trans h2⟩
  | ro => obtain ⟨b, l, pre, suf, ty, fr, h1, h2, h3, h4, h5, h6⟩ := ho; exact ⟨b, l, pre, suf, ty, fr, h _ _ h1, h2, denL_mono h _ _ h3, h4, (hb b h1).trans h5, h6⟩

/-- An object is turned. -/
theorem Rel.put (h : Rel W0 e m w) {T : Nat} {o o' : CO} {b : Blk} (hg : m.get T = some o) (hro : isRo o = false) (hro' : isRo o' = false) (hb : e T = some b) {w' : World} (hw : ∀ k, k ≠ b.blk → w'.heap[k]? = w.heap[k]?)
    (hs : w'.heap.size = w.heap.size) (h1 : w'.os = w.os) (h2 : w'.tape = w.tape) (h3 : w'.output = w.output) (ho : objOk e w' T o') : Rel W0 e (m.put T o') w' := by
  have hpres : ∀ t o1, (m.put T o').get t = some o1 → ∃ o2, m.get t = some o2 ∧ isRo o2 = isRo o1 := fun t o1 ht => by
    rw [Mem.get_put] at ht
    by_cases hq : t = T
    · subst hq; rw [if_pos rfl] at ht; cases ht; exact ⟨o, hg, by rw [hro, hro']⟩
    · rw [if_neg hq] at ht; exact ⟨o1, ht, rfl⟩
  refine ⟨fun t o1 ht => ?_, fun t t' o1 o2 b1 b2 ht ht' hr1 hr2 hb1 hb2 hq => ?_, fun t o1 b1 ht hr hb1 => ?_, fun t o1 b1 ht hr hb1 => ?_, h.glb, h.dom, h.frm.trans ⟨h1, h2, h3, Nat.le_of_eq hs.symm, fun k hk => hw k (fun hq => ?_)⟩, h.zlt, h.bar⟩
  · rw [Mem.get_put] at ht
    by_cases hq : t = T
    · rw [if_pos hq] at ht; cases ht; subst hq; exact ho
    · rw [if_neg hq] at ht
      refine objOk_mono (Env.le.refl e) (fun b1 hb1 => hw _ (fun hbb => hq ?_)) (h.ok t o1 ht)
      exact h.inj t T o1 o b1 b ht hg hro hb1 hb hbb
  · obtain ⟨o3, h4, h4'⟩ := hpres t o1 ht
    obtain ⟨o4, h5, h5'⟩ := hpres t' o2 ht'
    exact h.inj0 t t' o3 o4 b1 b2 h4 h5 (h4'.trans hr1) (h5'.trans hr2) hb1 hb2 hq
  · obtain ⟨o3, h4, h5⟩ := hpres t o1 ht
    exact h.own t o3 b1 h4 (h5.trans hr) hb1
  · obtain ⟨o3, h4, h5⟩ := hpres t o1 ht
    exact h.rof t o3 b1 h4 (h5.trans hr) hb1
  · subst hq
    exact h.own T o b hg hro hb hk

def Env.ext (e : Env) (t : Nat) (b : Blk) : Env := fun i => if i = t then some b else e i
theorem Env.ext_same (e : Env) (t : Nat) (b : Blk) : e.ext t b t = some b := if_pos rfl
theorem Env.ext_le {e : Env} {t : Nat} (h : e t = none) (b : Blk) : Env.le e (e.ext t b) := fun i x hx => by
  unfold Env.ext
  rw [if_neg (by rintro rfl; rw [h] at hx; cases hx)]
  exact hx

theorem Mem.nxtAt (m : Mem) (T : Nat) (o : CO) : (m.newAt T o).nxt = if T < m.nxt then m.nxt else T + 1 := by
  show Bool.rec (motive := fun _ => Nat) (Nat.succ T) m.nxt (Nat.blt T m.nxt) = _
  by_cases h : T < m.nxt
  · rw [if_pos h, show Nat.blt T m.nxt = true by simpa [Nat.blt_eq] using h]
  · rw [if_neg h, show Nat.blt T m.nxt = false by
      cases hb : Nat.blt T m.nxt with
      | false => rfl
      | true => exact absurd (by simpa [Nat.blt_eq] using hb) h]
theorem Mem.get_newAt (m : Mem) (T : Nat) (o : CO) (i : Nat) : (m.newAt T o).get i = if i = T then some o else m.get i := Tr.get_set (T + 1) m.tr T (some o) i (by omega)

/-- A new object, in a block of its own, or in that of an object that has gone. -/
theorem Rel.fresh (h : Rel W0 e m w) {T : Nat} (hT : e T = none ∧ ¬ W0.Z T) {m1 : Mem} (hm : ∀ t o, m1.get t = some o → m.get t = some o) (hn : m1.nxt = m.nxt) {b : Blk} {w' : World} {o : CO}
    (hap : ∀ t o1 b', m1.get t = some o1 → e t = some b' → b'.blk ≠ b.blk ∧ w'.heap[b'.blk]? = w.heap[b'.blk]?) (hown : ¬ W0.F b.blk) (hfrm : Keep W0.F w w')
    (ho : objOk (e.ext T b) w' T o) (hro : isRo o = false := by rfl) : Env.le e (e.ext T b) ∧ Rel W0 (e.ext T b) (m1.newAt T o) w' := by
  have hle : Env.le e (e.ext T b) := Env.ext_le hT.1 b
  have old : ∀ t o1 b1, t ≠ T → (m1.newAt T o).get t = some o1 → e.ext T b t = some b1 → m1.get t = some o1 ∧ e t = some b1 := fun t o1 b1 ht hg hb => by
    rw [Mem.get_newAt, if_neg ht] at hg
    unfold Env.ext at hb
    rw [if_neg ht] at hb
    exact ⟨hg, hb⟩
  have hnx : m.nxt ≤ (m1.newAt T o).nxt ∧ T < (m1.newAt T o).nxt := by
    rw [Mem.nxtAt, hn]
    split <;> omega
  refine ⟨hle, fun t o1 ht => ?_, fun t t' o1 o2 b1 b2 ht ht' hr1 hr2 hb1 hb2 hq => ?_, fun t o1 b1 ht hr hb1 => ?_, fun t o1 b1 ht hr hb1 => ?_, fun g hg => hle _ _ (h.glb g hg), fun t ht => ?_, h.frm.trans hfrm, fun t ht => Nat.lt_of_lt_of_le (h.zlt t ht) hnx.1, fun t ht => ?_⟩
  · rw [Mem.get_newAt] at ht
    by_cases hq : t = T
    · rw [if_pos hq] at ht; cases ht; subst hq; exact ho
    · rw [if_neg hq] at ht
      exact objOk_mono hle (fun b1 hb1 => (hap t o1 b1 ht hb1).2) (h.ok t o1 (hm t o1 ht))
  · by_cases h1 : t = T <;> by_cases h2 : t' = T
    · rw [h1, h2]
    · obtain ⟨h3, h4⟩ := old t' o2 b2 h2 ht' hb2
      subst h1
      rw [Env.ext_same] at hb1; cases hb1
      exact absurd hq.symm (hap t' o2 b2 h3 h4).1
    · obtain ⟨h3, h4⟩ := old t o1 b1 h1 ht hb1
      subst h2
      rw [Env.ext_same] at hb2; cases hb2
      exact absurd hq (hap t o1 b1 h3 h4).1
    · obtain ⟨h3, h4⟩ := old t o1 b1 h1 ht hb1
      obtain ⟨h5, h6⟩ := old t' o2 b2 h2 ht' hb2
      exact h.inj0 t t' o1 o2 b1 b2 (hm _ _ h3) (hm _ _ h5) hr1 hr2 h4 h6 hq
  · by_cases h1 : t = T
    · subst h1; rw [Env.ext_same] at hb1; cases hb1; exact hown
    · obtain ⟨h3, h4⟩ := old t o1 b1 h1 ht hb1
      exact h.own t o1 b1 (hm _ _ h3) hr h4
  · by_cases h1 : t = T
    · subst h1
      rw [Mem.get_newAt, if_pos rfl] at ht; cases ht
      rw [hro] at hr; cases hr
    · obtain ⟨h3, h4⟩ := old t o1 b1 h1 ht hb1
      exact h.rof t o1 b1 (hm _ _ h3) hr h4
  · unfold Env.ext
    rw [if_neg (by omega)]
    exact h.dom t (by omega)
  · unfold Env.ext
    rw [if_neg (fun hq : t = T => hT.2 (hq ▸ ht))]
    exact h.bar t ht

theorem heap_push (w : World) (x : Obj) (k : Nat) : (w.alloc x).heap[k]? = if k = w.heap.size then some x else w.heap[k]? := by
  show (w.heap.push x)[k]? = _
  rw [Array.getElem?_push]

/-- A new block. -/
theorem Rel.alloc (h : Rel W0 e m w) {T : Nat} (hT : e T = none ∧ ¬ W0.Z T) {o : CO} {x : Obj} (b : Blk) (hb : b.blk = w.heap.size) (ho : objOk (e.ext T b) (w.alloc x) T o) (hro : isRo o = false := by rfl) :
    Env.le e (e.ext T b) ∧ Rel W0 (e.ext T b) (m.newAt T o) (w.alloc x) := by
  refine h.fresh hT (fun _ _ h => h) rfl (fun t o1 b' ht hb' => ?_) (h.nF (by omega)) ⟨rfl, rfl, rfl, by simp, fun k hk => ?_⟩ ho hro
  · obtain ⟨b2, x2, h1, h2⟩ := objOk_env (h.ok t o1 ht)
    rw [h1] at hb'; cases hb'
    have := heap_lt h2
    exact ⟨by omega, by rw [heap_push, if_neg (by omega)]⟩
  · have := h.frF hk
    rw [heap_push, if_neg (by omega)]

def EOk (W0 : Bas) (P : Program) (e : Env) (m : Mem) (w : World) (out : COut) (s : Sem Value) : Prop :=
  match out with
  | .val v => ∃ V, den e v = some V ∧ s.run P w = .ok V w
  | .mem v m' => ∃ e' V w', Env.le e e' ∧ den e' v = some V ∧ Rel W0 e' m' w' ∧ s.run P w = .ok V w'
  | .no _ => True
  | _ => False
def SOk (W0 : Bas) (P : Program) (e : Env) (m : Mem) (w : World) (out : COut) (s : Sem Unit) : Prop :=
  match out with
  | .val _ => False
  | .mem v m' => v = undefC ∧ ∃ w', Rel W0 e m' w' ∧ s.run P w = .ok () w'
  | .no _ => True
  | _ => False

theorem VOk.E {out : COut} {s : Sem Value} (h : VOk P e w out s) : EOk W0 P e m w out s := by
  cases out <;> first | exact h | exact h.elim

theorem cvCells_den {x : CV} {vs : List CV} {V : Value} (h : cvCells x = some vs) (hx : den e x = some V) : ∃ l, denL e vs = some l ∧ V.cells.toList = l := by
  unfold cvCells at h
  split at h
  · simp only [Option.some.injEq] at h; subst h
    obtain ⟨l, hl, rfl⟩ := den_agg hx
    exact ⟨l, hl, by simp [Value.cells]⟩
  · cases h
  · rename_i h1 h2
    simp only [Option.some.injEq] at h; subst h
    refine ⟨[V], by simp [denL, hx], ?_⟩
    have : V.cells = #[V] := by
      cases V with
      | agg a => obtain ⟨l, rfl⟩ := den_isagg hx; exact absurd rfl (h1 l)
      | _ => rfl
    simp [this]

theorem cBox_ok (h : Rel W0 e m w) {T : Nat} (hT : e T = none ∧ ¬ W0.Z T) {x : CV} {V : Value} (hx : den e x = some V) (t : TypeId) : EOk W0 P e m w (cBox T m t x) (Instr.box t V) := by
  unfold cBox
  split
  · rename_i vs hc
    split
    · rename_i ha
      obtain ⟨l, hl, hV⟩ := cvCells_den hc hx
      have hcells : V.cells = l.toArray := by rw [← hV]
      obtain ⟨h1, h2⟩ := h.alloc hT (o := .cells t vs) (x := .cells l.toArray t (0, 0)) ⟨w.heap.size, 0, 0, 0⟩ rfl
        ⟨_, l, Env.ext_same .., rfl, denL_mono (Env.ext_le hT.1 _) _ _ hl, ha, by rw [heap_push, if_pos rfl]⟩
      refine ⟨_, .pointer (some ⟨w.heap.size, 0, none⟩), _, h1, ?_, h2, ?_⟩
      · show ((e.ext T _) T).map _ = _
        rw [Env.ext_same]; rfl
      · simp [Instr.box, newVar, newRow, hcells]
    · trivial
  · trivial

theorem u8_back (l : List UInt8) : (l.map UInt8.toNat).map UInt8.ofNat = l := by
  induction l with
  | nil => rfl
  | cons x xs ih => simp [ih]

theorem ofV1_den {v : Value} {x : CV} (h : ofV1 v = some x) : den e x = some v := by
  unfold ofV1 at h
  split at h <;> simp only [Option.some.injEq, reduceCtorEq] at h <;> subst h <;> first
    | rfl
    | (simp only [den, u8_back])
theorem ofVL_den : ∀ {l : List Value} {xs : List CV}, ofVL l = some xs → denL e xs = some l
  | [], xs, h => by simp only [ofVL, Option.some.injEq] at h; subst h; rfl
  | v :: l, xs, h => by
    unfold ofVL at h
    split at h
    · rename_i x hx
      split at h
      · rename_i ys hys
        simp only [Option.some.injEq] at h; subst h
        exact denL_cons_some (ofV1_den hx) (ofVL_den hys)
      · cases h
    · cases h
theorem ofV_den {v : Value} {x : CV} (h : ofV v = some x) : den e x = some v := by
  unfold ofV at h
  split at h
  · split at h
    · rename_i l hl
      simp only [Option.some.injEq] at h; subst h
      simp [den, ofVL_den hl]
    · cases h
  · exact ofV1_den h

theorem zeroV_some {t : TypeId} {z : CV} (h : zeroV P t = some z) : ∃ i zv, P.info? t = some i ∧ i.zero = some zv ∧ ∀ e, den e z = some zv := by
  unfold zeroV at h
  split at h
  · rename_i i hi
    split at h
    · rename_i zv hz
      exact ⟨i, zv, hi, hz, fun e => ofV_den h⟩
    · cases h
  · cases h
theorem zeroC_some {t : TypeId} {z : List CV} (h : zeroC P t = some z) : ∃ i zv, P.info? t = some i ∧ i.zero = some zv ∧ ∀ e, denL e z = some zv.cells.toList := by
  unfold zeroC at h
  split at h
  · rename_i i hi
    split at h
    · rename_i zv hz
      exact ⟨i, zv, hi, hz, fun e => ofVL_den h⟩
    · cases h
  · cases h
theorem run_zero {t : TypeId} {i : TypeInfo} {z : Value} (hi : P.info? t = some i) (hz : i.zero = some z) (w : World) : (zeroValue t).run P w = .ok z w := by
  simp [zeroValue, run_info hi, hz]

theorem setCell_row {b i : Nat} {l : List Value} {ty : TypeId} {fr : Nat × Nat} (hb : w.heap[b]? = some (.cells l.toArray ty fr)) (v : Value) :
    (w.setCell ⟨b, i, none⟩ v).heap[b]? = some (.cells (l.set i v).toArray ty fr) ∧ (∀ k, k ≠ b → (w.setCell ⟨b, i, none⟩ v).heap[k]? = w.heap[k]?) := by
  constructor
  · simp [World.setCell, Array.getElem?_modify, hb]
  · intro k hk
    simp [World.setCell, Array.getElem?_modify, Ne.symm hk]

structure Wrote (b : Nat) (w w' : World) : Prop where
  os : w'.os = w.os
  tape : w'.tape = w.tape
  output : w'.output = w.output
  size : w'.heap.size = w.heap.size
  block : ∀ k, k ≠ b → w'.heap[k]? = w.heap[k]?

theorem run_storeCells {b off : Nat} {ty : TypeId} {fr : Nat × Nat} : ∀ (xs : List Value) (i : Nat) (old : List Value) (w : World), w.heap[b]? = some (.cells old.toArray ty fr) → NoFr fr old.length → off + i + xs.length ≤ old.length → (∀ v ∈ xs, v.oneCell' = true) →
    ∃ w', (storeCells ⟨b, off, none⟩ xs i).run P w = .ok () w' ∧ w'.heap[b]? = some (.cells (putN old (off + i) xs).toArray ty fr) ∧ Wrote b w w'
  | [], i, old, w, hb, _, _, _ => ⟨w, by simp [storeCells], by simpa [putN] using hb, ⟨rfl, rfl, rfl, rfl, fun _ _ => rfl⟩⟩
  | v :: xs, i, old, w, hb, hnf, hl, hv => by
    simp only [List.length_cons] at hl
    have hc : w.cell? ⟨b, off + i, none⟩ = some (old[off + i]'(by omega)) := by
      rw [cell_of_heap hb]; simp
    have hf : w.frozen? ⟨b, off + i, none⟩ = false := by
      have := hnf (off + i) (by omega)
      obtain ⟨lo, hi⟩ := fr
      simp only at this
      simp only [World.frozen?, hb]
      simp only [Bool.and_eq_false_iff, decide_eq_false_iff_not]
      omega
    obtain ⟨h1, h2⟩ := setCell_row (i := off + i) hb v
    obtain ⟨w', r, hh, hw⟩ := run_storeCells (off := off) xs (i + 1) (old.set (off + i) v) (w.setCell ⟨b, off + i, none⟩ v) h1 (by simpa using hnf) (by simp; omega) (fun u hu => hv u (List.mem_cons_of_mem _ hu))
    refine ⟨w', ?_, hh, ⟨hw.os, hw.tape, hw.output, hw.size.trans (by simp), fun k hk => (hw.block k hk).trans (h2 k hk)⟩⟩
    simp only [storeCells, Sem.run_bind]
    rw [Addr.add_lit, run_store _ _ _ _ _ (hv v (List.mem_cons_self ..)), hc]
    simp only [hf, Bool.false_eq_true, if_false, Result.andThen_ok]
    exact r

/-- A row is written. -/
theorem wr_ok (h : Rel W0 e m w) {t off : Nat} {vs : List CV} {m' : Mem} (hw : wr m t off vs = some m') {us : List Value} (hu : denL e vs = some us) :
    ∃ b w', e t = some b ∧ (storeCells ⟨b.blk, b.off + off, none⟩ us).run P w = .ok () w' ∧ Rel W0 e m' w' := by
  unfold wr at hw
  split at hw
  · cases hw
  · rename_i hall
    split at hw
    · rename_i ty cs ho
      split at hw
      · rename_i hl
        simp only [Option.some.injEq] at hw; subst hw
        have hl := Nat.le_of_ble_eq_true hl
        obtain ⟨b, l, h1, h2, h3, h4, h5⟩ := h.ok _ _ ho
        obtain ⟨w', r, hh, hwr⟩ := run_storeCells (P := P) (off := b.off + off) us 0 l w h5 (NoFr.zero _) (by rw [h2, denL_length h3, denL_length hu]; omega) (all_den hall hu)
        refine ⟨b, w', h1, r, h.put ho rfl rfl h1 hwr.block hwr.size hwr.os hwr.tape hwr.output ⟨b, _, h1, h2, denL_wr h3 hu, all_wr h4 hall, ?_⟩⟩
        rw [hh, h2]; simp
      · cases hw
    · rename_i ty sz cs ho
      split at hw
      · rename_i hl
        simp only [Option.some.injEq] at hw; subst hw
        have hl := Nat.le_of_ble_eq_true hl
        obtain ⟨b, l, pre, suf, h1, h2, h3, h4, h5, h6, h7, h8, h9⟩ := h.ok _ _ ho
        have hll : off + us.length ≤ l.length := by rw [denL_length h5, denL_length hu]; exact hl
        obtain ⟨fr, h7, hnf⟩ := h7
        obtain ⟨w', r, hh, hwr⟩ := run_storeCells (P := P) (off := b.off + off) us 0 (pre ++ l ++ suf) w h7 hnf (by simp; omega) (all_den hall hu)
        refine ⟨b, w', h1, r, h.put ho rfl rfl h1 hwr.block hwr.size hwr.os hwr.tape hwr.output ⟨b, putN l off us, pre, suf, h1, h2, h3, h4, denL_wr h5 hu, all_wr h6 hall, ⟨fr, ?_, by simpa [putN_length] using hnf⟩, ?_, h9⟩⟩
        · rw [hh, Nat.add_zero, ← h4, putN_append pre suf us l off hll]
        · simpa [putN_length] using h8
      · cases hw
    · cases hw

theorem cStore_ok (h : Rel W0 e m w) {x v : CV} {X V : Value} (hx : den e x = some X) (hv : den e v = some V) (t : TypeId) : SOk W0 P e m w (cStore P m t x v) (Instr.storeAt t X V) := by
  unfold cStore
  split
  · rename_i tag off inf vs hi hc
    split
    · rename_i hn
      split
      · rename_i m' hw
        obtain ⟨us, hu, hV⟩ := cvCells_den hc hv
        obtain ⟨b, w', h1, h2, h3⟩ := wr_ok (P := P) h hw hu
        obtain ⟨b', hb', rfl⟩ := den_ptr hx
        obtain rfl : b = b' := by rw [h1] at hb'; cases hb'; rfl
        refine ⟨rfl, w', h3, ?_⟩
        have hsz : V.cells.size = inf.size := by rw [← Array.length_toList, hV, denL_length hu, Nat.eq_of_beq_eq_true hn]
        simp only [Instr.storeAt, Instr.sureAddr, Sem.run_bind, Sem.run_pure, Result.andThen_ok, storeVar, run_size hi, hsz, ne_eq, not_true, if_false, hV]
        exact h2
      · trivial
    · trivial
  · trivial
end Go.Cx
