/-
  A verification-condition generator for Go's IR. Part f: the generator's operations are sound.
-/
import Derived.Test.YtdpoebadaomfgaaVe
import Derived.TacticsIn
set_option linter.unusedSimpArgs false
set_option linter.unusedVariables false
namespace Go.Pw
open Go Go.RowKit

theorem callsIn_FW {r : Option Nat} {n : Nat} {P : Program} {f : FuncId} {args : Array Value} {w : World} {R : Ending → World → Prop} (h : Calls P f args w R) : CallsIn (FW r) n P f args w R :=
  (callsIn_wide (n := n)).2 h

structure Rel (G : Base) (e : Env) (t : List SV) (o : List (Option SObj)) (h : Hp) (a : Act) (w : World) : Prop where
  tok : TOk e o.length t a.tmps
  wok : WOk G a.defers e o h w
  kl : G.nk ≤ o.length

variable {G : Base} {e : Env} {t : List SV} {o : List (Option SObj)} {h : Hp} {a : Act} {w : World} {P : Program} {c : Cfg} {gs : List Nat} {K : SK}

theorem Rel.obB (hr : Rel G e t o h a w) : ObB ⟨t, o, h⟩ := fun i ty cs hi => (hr.wok.ob i _ hi).2

theorem put_defers (a : Act) (dst : Option Tmp) (v : Value) : (a.put dst v).defers = a.defers := by cases dst <;> rfl

theorem tok_put (hT : TOk e o.length t a.tmps) {v : SV} {u : Value} (hs : Sat e o.length v u) (d : Tmp) : TOk e o.length (t.set d v) (a.put (some d) u).tmps := hT.set hs d

theorem put_ok {dst : Option Tmp} {v : SV} {u : Value} (hk : put dst v t o h K) (hT : TOk e o.length t a.tmps) (hs : Sat e o.length v u) : ∃ t', K t' o h ∧ TOk e o.length t' (a.put dst u).tmps := by
  cases dst with
  | none => exact ⟨t, hk, hT⟩
  | some d =>
    simp only [put, forceV_eq, setK_eq] at hk
    exact ⟨_, hk, tok_put hT hs d⟩

theorem putG_ok {dst : Option Tmp} {v : SV} {u : Value} (hk : putG gs dst v t o h K) (hT : TOk e o.length t a.tmps) (hs : Sat e o.length v u) : ∃ t', K t' o h ∧ TOk e o.length t' (a.put dst u).tmps := by
  cases dst with
  | none => exact ⟨t, hk, hT⟩
  | some d =>
    simp only [putG, forceV_eq, setK_eq] at hk
    split at hk
    · exact ⟨_, hk, tok_put hT hs d⟩
    · split at hk
      · rename_i b
        have hu := hs.eq (by simp)
        cases b
        · exact ⟨_, hk.2 rfl, tok_put (v := .bool false) hT (.inr ⟨hu, rfl⟩) d⟩
        · exact ⟨_, hk.1 rfl, tok_put (v := .bool true) hT (.inr ⟨hu, rfl⟩) d⟩
      · exact ⟨_, hk, tok_put hT hs d⟩

/-! ### new blocks, and stores -/

theorem heap_push (w : World) (x : Obj) (k : Nat) : (w.alloc x).heap[k]? = if k = w.heap.size then some x else w.heap[k]? := by
  show (w.heap.push x)[k]? = _
  rw [Array.getElem?_push]

theorem live_agr {e' : Env} {n i : Nat} {x : SObj} (ha : Agr n e e') (hi : i < n) : live e i x ↔ live e' i x := by
  cases x with
  | cells => exact Iff.rfl
  | olist => simp only [live]; rw [(ha i hi).2]
  | ghost => exact Iff.rfl

theorem objOk_agr {e' : Env} {n m i : Nat} {x : SObj} {w' : World} (ha : Agr n e e') (hn : n ≤ m) (hi : i < n) (hx : objOk e w n i x) (hw : live e i x → w'.heap[e.blk i]? = w.heap[e.blk i]?) : objOk e' w' m i x := by
  cases x with
  | cells ty cs =>
    obtain ⟨h1, h2⟩ := hx
    refine ⟨?_, belL_mono hn cs h2⟩
    rw [← (ha i hi).1, hw trivial, h1, denL_agr ha cs h2]
  | olist ty sz k xs =>
    obtain ⟨h1, h3⟩ := hx
    refine ⟨by rw [← (ha i hi).2]; exact h1, ?_⟩
    rw [← (ha i hi).2, ← (ha i hi).1]
    rcases h3 with h3 | ⟨h3, h4, h4', c, h5, h6⟩
    · exact .inl h3
    · exact .inr ⟨h3, h4, h4', c, by rw [hw (by simp [live, h3])]; exact h5, h6⟩
  | ghost => trivial

theorem ob_lt {n i : Nat} {x : SObj} (hx : objOk e w n i x) (hl : live e i x) : e.blk i < w.heap.size := by
  cases x with
  | cells ty cs => exact (Array.getElem?_eq_some_iff.1 hx.1).1
  | olist ty sz k xs =>
    obtain ⟨_, h3⟩ := hx
    rcases h3 with h3 | ⟨_, _, _, c, h5, _⟩
    · exact absurd h3.1 hl
    · exact (Array.getElem?_eq_some_iff.1 h5).1
  | ghost => exact hl.elim
theorem live_lt {ds : List Deferred} (hw : WOk G ds e o h w) {i : Nat} {x : SObj} (hi : o[i]? = some (some x)) (hl : live e i x) : e.blk i < w.heap.size := ob_lt (hw.ob i x hi) hl

theorem idx_lt {A : Type} {l : List A} {i : Nat} {x : A} (h : l[i]? = some x) : i < l.length := (List.getElem?_eq_some_iff.1 h).1

/-- A step that turns own blocks alone, and lays new ones. -/
theorem WOk.step {ds : List Deferred} {e' : Env} {o' : List (Option SObj)} {w' : World} (hw : WOk G ds e o h w)
    (hs : w.heap.size ≤ w'.heap.size) (h1 : w'.os = w.os) (h2 : w'.tape = w.tape) (h3 : w'.output = w.output)
    (hb : ∀ k, k < w.heap.size → (∀ (i : Nat) x, o[i]? = some (some x) → live e i x → e.blk i ≠ k) → w'.heap[k]? = w.heap[k]?)
    (hk : ∀ i, i < G.nk → e'.blk i = e.blk i ∧ e'.loc i = e.loc i)
    (hob : ∀ (i : Nat) x, o'[i]? = some (some x) → objOk e' w' o'.length i x)
    (hl : ∀ (i : Nat) x, o'[i]? = some (some x) → live e' i x → (∃ (j : Nat) (y : SObj), o[j]? = some (some y) ∧ live e j y ∧ e'.blk i = e.blk j) ∨ w.heap.size ≤ e'.blk i)
    (hsep : ∀ (i j : Nat) x y, o'[i]? = some (some x) → o'[j]? = some (some y) → live e' i x → live e' j y → i ≠ j → e'.blk i ≠ e'.blk j)
    (hg : ∀ (i : Nat) s xs, o'[i]? = some (some (.ghost s xs)) → o[i]? = some (some (.ghost s xs))) : WOk G ds e' o' h w' := by
  have hhb : ∀ b x, h b = some x → w'.heap[b]? = some x := fun b x hx => by
    have := hw.hh b x hx
    rw [hb b (Array.getElem?_eq_some_iff.1 this).1 (fun i y hi hy he => by have h0 := hw.hn i y hi hy; rw [he, hx] at h0; cases h0)]; exact this
  refine { hh := hhb, ob := hob, sep := hsep, hn := fun i x hi hx => ?_, frm := ?_, own := fun i x hi hx => ?_, hle := hw.hle, hnew := hw.hnew, agr := fun i hi => ?_, pr := hw.pr.step hs h1 h2 h3 hb hl hg (fun b x hx => .inl hx) }
  · rcases hl i x hi hx with ⟨j, y, hj, hy, he⟩ | he
    · rw [he]; exact hw.hn j y hj hy
    · cases hq : h (e'.blk i) with
      | none => rfl
      | some z => have := (Array.getElem?_eq_some_iff.1 (hw.hh _ _ hq)).1; omega
  · refine ⟨h1.trans hw.frm.os, h2.trans hw.frm.tape, h3.trans hw.frm.output, Nat.le_trans hw.frm.size hs, fun k hk hm => ?_⟩
    rw [hb k (Nat.lt_of_lt_of_le hk hw.frm.size) (fun i x hi hx he => ?_)]
    · exact hw.frm.block k hk hm
    · rcases hw.own i x hi hx with ho | ho
      · exact hm (he ▸ ho)
      · omega
  · rcases hl i x hi hx with ⟨j, y, hj, hy, he⟩ | he
    · rw [he]; exact hw.own j y hj hy
    · exact .inr (Nat.le_trans hw.frm.size he)
  · rw [(hk i hi).1, (hk i hi).2]; exact hw.agr i hi

theorem snoc_get {i : Nat} {x y : SObj} (hi : (o ++ [some y])[i]? = some (some x)) : (i < o.length ∧ o[i]? = some (some x)) ∨ (i = o.length ∧ x = y) := by
  rcases Nat.lt_trichotomy i o.length with hlt | heq | hgt
  · rw [List.getElem?_append_left hlt] at hi; exact .inl ⟨hlt, hi⟩
  · subst heq; simp at hi; exact .inr ⟨rfl, hi.symm⟩
  · rw [List.getElem?_eq_none (by simp; omega)] at hi; cases hi

/-- A new object, in a new block or an old one's. 'o1': the old objects, of which some may be forgotten. -/
theorem WOk.snoc {ds : List Deferred} {o1 : List (Option SObj)} {y : SObj} {bl : Nat} {lc : Option Addr × Nat × Nat} {w' : World} (hw : WOk G ds e o h w) (hkl : G.nk ≤ o.length)
    (hlen : o1.length = o.length) (ho1 : ∀ (i : Nat) x, o1[i]? = some (some x) → o[i]? = some (some x))
    (hs : w.heap.size ≤ w'.heap.size) (h1 : w'.os = w.os) (h2 : w'.tape = w.tape) (h3 : w'.output = w.output)
    (hb : ∀ k, k < w.heap.size → k ≠ bl ∨ (∀ (i : Nat) x, o[i]? = some (some x) → live e i x → e.blk i ≠ k) → w'.heap[k]? = w.heap[k]?)
    (hbl : w.heap.size ≤ bl ∨ ∃ (j : Nat) (z : SObj), o[j]? = some (some z) ∧ o1[j]? = some none ∧ live e j z ∧ bl = e.blk j)
    (hyg : ∀ s xs, y ≠ .ghost s xs)
    (hy : ∀ e', Agr o.length e e' → e'.blk o.length = bl → e'.loc o.length = lc → objOk e' w' (o.length + 1) o.length y) :
    ∃ e', Agr o.length e e' ∧ e'.blk o.length = bl ∧ e'.loc o.length = lc ∧ WOk G ds e' (o1 ++ [some y]) h w' := by
  let e' : Env := ⟨fun i => if i = o.length then bl else e.blk i, fun i => if i = o.length then lc else e.loc i⟩
  have ha : Agr o.length e e' := fun i hi => ⟨by simp [e', Nat.ne_of_lt hi], by simp [e', Nat.ne_of_lt hi]⟩
  have e1 : e'.blk o.length = bl := by simp [e']
  have e2 : e'.loc o.length = lc := by simp [e']
  refine ⟨e', ha, e1, e2, ?_⟩
  have get : ∀ (i : Nat) x, (o1 ++ [some y])[i]? = some (some x) → (i < o.length ∧ o1[i]? = some (some x) ∧ o[i]? = some (some x)) ∨ (i = o.length ∧ x = y) := fun i x hi => by
    rcases snoc_get hi with ⟨h1, h2⟩ | ⟨h1, h2⟩
    · exact .inl ⟨by omega, h2, ho1 i x h2⟩
    · exact .inr ⟨by omega, h2⟩
  have apart : ∀ (i : Nat) x, i < o.length → o1[i]? = some (some x) → live e i x → e.blk i ≠ bl := fun i x hi h1x hx => by
    have h0 := ho1 i x h1x
    rcases hbl with hbl | ⟨j, z, hj, hj1, hz, hbl⟩
    · have := live_lt hw h0 hx; omega
    · rw [hbl]
      exact hw.sep i j x z h0 hj hx hz (by rintro rfl; rw [h1x] at hj1; cases hj1)
  refine hw.step hs h1 h2 h3 (fun k hk hq => hb k hk (.inr hq)) (fun i hi => by rw [← (ha i (by omega)).1, ← (ha i (by omega)).2]; exact ⟨rfl, rfl⟩) (fun i x hi => ?_) (fun i x hi hx => ?_) (fun i j x z hi hj hx hz hij => ?_) (fun i s xs hi => ?_)
  · have hl' : (o1 ++ [some y]).length = o.length + 1 := by simp [hlen]
    rw [hl']
    rcases get i x hi with ⟨hlt, hi1, hi'⟩ | ⟨rfl, rfl⟩
    · refine objOk_agr ha (by omega) hlt (hw.ob i x hi') (fun hx => hb _ (live_lt hw hi' hx) (.inl (apart i x hlt hi1 hx)))
    · exact hy e' ha e1 e2
  · rcases get i x hi with ⟨hlt, hi1, hi'⟩ | ⟨rfl, rfl⟩
    · exact .inl ⟨i, x, hi', (live_agr ha hlt).2 hx, (ha i hlt).1.symm⟩
    · rw [e1]
      rcases hbl with hbl | ⟨j, z, hj, _, hz, hbl⟩
      · exact .inr hbl
      · exact .inl ⟨j, z, hj, hz, hbl⟩
  · rcases get i x hi with ⟨hlt, hi1, hi'⟩ | ⟨rfl, rfl⟩ <;> rcases get j z hj with ⟨hlt', hj1, hj'⟩ | ⟨rfl, rfl⟩
    · rw [← (ha i hlt).1, ← (ha j hlt').1]
      exact hw.sep i j x z hi' hj' ((live_agr ha hlt).2 hx) ((live_agr ha hlt').2 hz) hij
    · rw [e1, ← (ha i hlt).1]; exact apart i x hlt hi1 ((live_agr ha hlt).2 hx)
    · rw [e1, ← (ha j hlt').1]; exact Ne.symm (apart j z hlt' hj1 ((live_agr ha hlt').2 hz))
    · exact absurd rfl hij
  · rcases get i _ hi with ⟨hlt, hi1, hi'⟩ | ⟨rfl, hq⟩
    · exact hi'
    · exact absurd hq.symm (hyg s xs)

/-- A new block of known cells. -/
theorem Rel.alloc (hr : Rel G e t o h a w) (ty : TypeId) {cs : List SV} (hb : belL o.length cs = true) :
    ∃ e', Agr o.length e e' ∧ den e' (.ptr o.length 0) = .pointer (some ⟨w.heap.size, 0, none⟩) ∧ Rel G e' t (o ++ [some (.cells ty cs)]) h a (w.alloc (.cells (denL e cs).toArray ty)) := by
  obtain ⟨hT, hw, hkl⟩ := hr
  obtain ⟨e', ha, e1, _, hw'⟩ := hw.snoc (o1 := o) (y := .cells ty cs) (bl := w.heap.size) (lc := (none, 0, 0)) (w' := w.alloc (.cells (denL e cs).toArray ty)) hkl rfl (fun _ _ h => h) (by simp) rfl rfl rfl
    (fun k hk _ => by rw [heap_push, if_neg (by omega)]) (.inl (Nat.le_refl _)) (by intros; simp) (fun e' ha e1 _ => ⟨by rw [e1, heap_push, if_pos rfl, denL_agr ha cs hb], belL_mono (by omega) cs hb⟩)
  exact ⟨e', ha, by simp [den, e1], ⟨hT.agr ha (by simp), hw', by simp; omega⟩⟩

theorem setCell_row {w : World} {b i : Nat} {l : List Value} {ty : TypeId} (hb : w.heap[b]? = some (.cells l.toArray ty (0, 0))) (v : Value) :
    (w.setCell ⟨b, i, none⟩ v).heap[b]? = some (.cells (l.set i v).toArray ty (0, 0)) ∧ (∀ k, k ≠ b → (w.setCell ⟨b, i, none⟩ v).heap[k]? = w.heap[k]?) := by
  constructor
  · simp [World.setCell, Array.getElem?_modify, hb]
  · intro k hk
    simp [World.setCell, Array.getElem?_modify, Ne.symm hk]

/-- What a store may turn. -/
structure Wrote (b : Nat) (w w' : World) : Prop where
  os : w'.os = w.os
  tape : w'.tape = w.tape
  output : w'.output = w.output
  size : w'.heap.size = w.heap.size
  block : ∀ k, k ≠ b → w'.heap[k]? = w.heap[k]?

theorem run_storeCells {b off : Nat} {ty : TypeId} : ∀ (xs : List Value) (i : Nat) (old : List Value) (w : World), w.heap[b]? = some (.cells old.toArray ty (0, 0)) → off + i + xs.length ≤ old.length → (∀ v ∈ xs, v.oneCell' = true) →
    ∃ w', (storeCells ⟨b, off, none⟩ xs i).run P w = .ok () w' ∧ w'.heap[b]? = some (.cells (xs.zipIdx i |>.foldl (fun acc p => acc.set (off + p.2) p.1) old).toArray ty (0, 0)) ∧ Wrote b w w'
  | [], i, old, w, hb, _, _ => ⟨w, by simp [storeCells], by simpa using hb, ⟨rfl, rfl, rfl, rfl, fun _ _ => rfl⟩⟩
  | v :: xs, i, old, w, hb, hl, hv => by
    simp only [List.length_cons] at hl
    have hc : w.cell? ⟨b, off + i, none⟩ = some (old[off + i]'(by omega)) := by
      rw [cell_of_heap hb]; simp
    have hf : w.frozen? ⟨b, off + i, none⟩ = false := by simp [World.frozen?, hb]
    obtain ⟨h1, h2⟩ := setCell_row (i := off + i) hb v
    obtain ⟨w', r, hh, hw⟩ := run_storeCells (off := off) xs (i + 1) (old.set (off + i) v) (w.setCell ⟨b, off + i, none⟩ v) h1 (by simp; omega) (fun u hu => hv u (List.mem_cons_of_mem _ hu))
    refine ⟨w', ?_, by simpa using hh, ⟨hw.os, hw.tape, hw.output, hw.size.trans (by simp), fun k hk => (hw.block k hk).trans (h2 k hk)⟩⟩
    simp only [storeCells, Sem.run_bind]
    rw [Addr.add_lit, run_store _ _ _ _ _ (hv v (List.mem_cons_self ..)), hc]
    simp only [hf, Bool.false_eq_true, if_false, Result.andThen_ok]
    exact r

theorem run_storeVar {b off : Nat} {ty tt : TypeId} {old : List Value} {v : Value} {xs : List Value} {i : TypeInfo} (hb : w.heap[b]? = some (.cells old.toArray tt (0, 0))) (hi : P.info? ty = some i) (hv : v.cells.toList = xs) (hn : xs.length = i.size)
    (hl : off + xs.length ≤ old.length) (h1 : ∀ v ∈ xs, v.oneCell' = true) :
    ∃ w', (storeVar ty ⟨b, off, none⟩ v).run P w = .ok () w' ∧ w'.heap[b]? = some (.cells (xs.zipIdx.foldl (fun acc p => acc.set (off + p.2) p.1) old).toArray tt (0, 0)) ∧ Wrote b w w' := by
  obtain ⟨w', r, hh, hw⟩ := run_storeCells (P := P) (b := b) (off := off) (ty := tt) xs 0 old w hb (by omega) h1
  refine ⟨w', ?_, hh, hw⟩
  have hsz : v.cells.size = i.size := by rw [← Array.length_toList, hv, hn]
  simp only [storeVar, Sem.run_bind, run_size hi, Result.andThen_ok, hsz, ne_eq, not_true, if_false, hv]
  exact r

theorem setAll_denL (off : Nat) (cs cells : List SV) : denL e (setAll cells off cs) = (denL e cs).zipIdx.foldl (fun acc p => acc.set (off + p.2) p.1) (denL e cells) := by
  have : ∀ (cs cells : List SV) (k : Nat), denL e (setAll cells (off + k) cs) = ((denL e cs).zipIdx k).foldl (fun acc p => acc.set (off + p.2) p.1) (denL e cells) := by
    intro cs
    induction cs with
    | nil => intro cells k; rfl
    | cons c cs ih =>
      intro cells k
      simp only [setAll, denL, List.zipIdx_cons, List.foldl_cons]
      have := ih (cells.set (off + k) c) (k + 1)
      rw [← Nat.add_assoc] at this
      rw [this, denL_set]
  simpa using this cs cells 0

theorem set_get {i j : Nat} {x y : SObj} (hlt : i < o.length) (hj : (o.set i (some y))[j]? = some (some x)) : (j = i ∧ x = y) ∨ (j ≠ i ∧ o[j]? = some (some x)) := by
  rw [List.getElem?_set] at hj
  by_cases hij : i = j
  · subst hij; simp [hlt] at hj; exact .inl ⟨rfl, hj.symm⟩
  · rw [if_neg hij] at hj; exact .inr ⟨Ne.symm hij, hj⟩

/-- A block of one's own is turned. -/
theorem Rel.wrote (hr : Rel G e t o h a w) {i : Nat} {x y : SObj} (hi : o[i]? = some (some x)) (hx : live e i x) (hy : live e i y) {w' : World} (hw' : Wrote (e.blk i) w w') (hyg : ∀ s xs, y ≠ .ghost s xs)
    (hh : objOk e w' o.length i y) : Rel G e t (o.set i (some y)) h a w' := by
  obtain ⟨hT, hw, hkl⟩ := hr
  have hlt := idx_lt hi
  have hsep : ∀ (j : Nat) (z : SObj), j ≠ i → o[j]? = some (some z) → live e j z → e.blk j ≠ e.blk i := fun j z hj hjo hl => hw.sep j i z _ hjo hi hl hx hj
  refine ⟨by simpa using hT, ?_, by simpa using hkl⟩
  refine hw.step (Nat.le_of_eq hw'.size.symm) hw'.os hw'.tape hw'.output (fun k hk hq => hw'.block k (fun he => hq i x hi hx he.symm)) (fun _ _ => ⟨rfl, rfl⟩) (fun j z hj => ?_) (fun j z hj hz => ?_) (fun j k y' z hj hk hlj hlk hjk => ?_) (fun j s xs hj => ?_)
  · rw [List.length_set]
    rcases set_get hlt hj with ⟨rfl, rfl⟩ | ⟨hji, hj'⟩
    · exact hh
    · exact objOk_agr (Agr.refl _ _) (Nat.le_refl _) (idx_lt hj') (hw.ob j z hj') (fun hl => hw'.block _ (hsep j z hji hj' hl))
  · rcases set_get hlt hj with ⟨rfl, rfl⟩ | ⟨hji, hj'⟩
    · exact .inl ⟨j, x, hi, hx, rfl⟩
    · exact .inl ⟨j, z, hj', hz, rfl⟩
  · rcases set_get hlt hj with ⟨rfl, rfl⟩ | ⟨hji, hj'⟩ <;> rcases set_get hlt hk with ⟨rfl, rfl⟩ | ⟨hki, hk'⟩
    · exact absurd rfl hjk
    · exact Ne.symm (hsep k z hki hk' hlk)
    · exact hsep j y' hji hj' hlj
    · exact hw.sep j k y' z hj' hk' hlj hlk hjk
  · rcases set_get hlt hj with ⟨rfl, hq⟩ | ⟨hji, hj'⟩
    · exact absurd hq.symm (hyg s xs)
    · exact hj'

theorem cellB_den {x : SV} (h : cellB x = true) : (den e x).oneCell' = true := by
  cases x with
  | val v => cases v <;> first | rfl | simp [cellB] at h
  | _ => first | rfl | simp [cellB] at h
theorem cellsB_den {l : List SV} (h : cellsB l = true) : ∀ v ∈ denL e l, v.oneCell' = true := by
  induction l with
  | nil => intro v hv; cases hv
  | cons x xs ih =>
    simp only [cellsB, Bool.and_eq_true] at h
    intro v hv
    rcases List.mem_cons.1 hv with rfl | hv
    · exact cellB_den h.1
    · exact ih h.2 v hv

/-- The same, of the temporaries. -/
theorem Rel.retok {t' : List SV} {a' : Act} (hr : Rel G e t o h a w) (hT : TOk e o.length t' a'.tmps) (hd : a'.defers = a.defers) : Rel G e t' o h a' w :=
  ⟨hT, hd ▸ hr.wok, hr.kl⟩

theorem Rel.putG {dst : Option Tmp} {v : SV} {u : Value} (hr : Rel G e t o h a w) (hk : Pw.putG gs dst v t o h K) (hs : Sat e o.length v u) : ∃ t', K t' o h ∧ Rel G e t' o h (a.put dst u) w := by
  obtain ⟨t', h1, h2⟩ := putG_ok (a := a) hk hr.tok hs
  exact ⟨t', h1, hr.retok h2 (put_defers _ _ _)⟩
theorem Rel.put {dst : Option Tmp} {v : SV} {u : Value} (hr : Rel G e t o h a w) (hk : Pw.put dst v t o h K) (hs : Sat e o.length v u) : ∃ t', K t' o h ∧ Rel G e t' o h (a.put dst u) w := by
  obtain ⟨t', h1, h2⟩ := put_ok (a := a) hk hr.tok hs
  exact ⟨t', h1, hr.retok h2 (put_defers _ _ _)⟩

/-- Where it goes on. -/
abbrev Nxt (G : Base) (K : SK) (next : Act → World → Prop) : Prop := ∀ e t o h a w, K t o h → Rel G e t o h a w → next a w

theorem upon_of_run {r : Option Nat} {n : Nat} {p : Oper} {next : Act → World → Prop} {Q : Exit → Act → World → Prop} (hp : ∀ c, p.op ≠ .defer c) {x : Result Next} (hx : (execOp a.eval p).run P w = x) (hu : p.uponIn (FW r) n P a next Q x) : p.wpIn (FW r) n P a w next Q := by
  refine ⟨fun _ _ => trivial, ?_⟩
  rw [Oper.semAt_eq _ _ _ hp, hx]
  exact hu

theorem qop_sound {r : Option Nat} {n : Nat} {p : Oper} {next : Act → World → Prop} {Q : Exit → Act → World → Prop} (hr : Rel G e t o h a w) (hn : Nxt G K next) (hp : ∀ c, p.op ≠ .defer c)
    (hk : match qop P c ⟨t, o, h⟩ p.op with | .val none v => Pw.putG gs p.dst v t o h K | .val (some q) v => q ∧ Pw.putG gs p.dst v t o h K | .rd R => ∃ v, R h v ∧ Pw.putG gs p.dst v t o h K | .no => False) : p.wpIn (FW r) n P a w next Q := by
  have hq := qop_ok (G := G) (e := e) (S := ⟨t, o, h⟩) (P := P) hr.tok hr.obB c p
  have fin : ∀ (v : SV) (u : Value), Pw.putG gs p.dst v t o h K → Sat e o.length v u → (execOp a.eval p).run P w = .ok (.value u) w → p.wpIn (FW r) n P a w next Q := fun v u hk hs hx => by
    obtain ⟨t', h1, h2⟩ := hr.putG hk hs
    exact upon_of_run hp hx (hn _ _ _ _ _ _ h1 h2)
  split at hk
  · rename_i v hv
    rw [hv] at hq
    obtain ⟨u, hs, hx⟩ := hq trivial
    exact fin v u hk hs (hx w hr.wok.toWR)
  · rename_i q v hv
    rw [hv] at hq
    obtain ⟨u, hs, hx⟩ := hq hk.1
    exact fin v u hk.2 hs (hx w hr.wok.toWR)
  · rename_i R hv
    rw [hv] at hq
    obtain ⟨v, hR, hk⟩ := hk
    obtain ⟨u, hs, hx⟩ := hq v hR
    exact fin v u hk hs (hx w hr.wok.toWR)
  · exact hk.elim
end Go.Pw
