/-
  A verification-condition generator for Go's IR: symbolic values, states, and what they mean. Part a: the definitions.
-/
import Derived.WalkKit
set_option linter.unusedSimpArgs false
set_option linter.unusedVariables false
namespace Go.Pw
open Go Go.RowKit

theorem or_map {a b c : Prop} (h : a ∨ b) (f : b → c) : a ∨ c := h.elim .inl (fun x => .inr (f x))

/-- Symbolic values. 'bool': known when the code is read; 'bexp': a Bool of the proof's. 'ptr t off': into the call's own block with tag t. 'loc t': the slice value of the owned list with tag t. 'optr t off': into that list's row. -/
inductive SV where
  | junk
  | val (v : Value)
  | bool (b : Bool)
  | bexp (b : Bool)
  | int (k : IntKind) (n : Int)
  | str (s : List UInt8)
  | agg (cs : List SV)
  | tuple (vs : List SV)
  | ptr (t off : Nat)
  | loc (t : Nat)
  | optr (t off : Nat)
  | func (fn : Fn) (first captured : List SV)
  | slc (a : Option Addr) (n c : Nat)
  | dptr (a : Option Addr)
  deriving Inhabited

structure Env where
  blk : Nat → Nat
  loc : Nat → Option Addr × Nat × Nat

mutual
def den (e : Env) : SV → Value
  | .junk => undef
  | .val v => v
  | .bool b => .bool b
  | .bexp b => .bool b
  | .int k n => .int k n
  | .str s => .string ⟨s.toArray⟩
  | .agg cs => .agg (denL e cs).toArray
  | .tuple vs => .tuple (denL e vs).toArray
  | .ptr t off => .pointer (some ⟨e.blk t, off, none⟩)
  | .loc t => .slice (e.loc t).1 (e.loc t).2.1 (e.loc t).2.2
  | .optr t off => .pointer (some ⟨e.blk t, off, none⟩)
  | .func fn a b => .func fn (denL e a).toArray (denL e b).toArray
  | .slc a n c => .slice a n c
  | .dptr a => .pointer a
def denL (e : Env) : List SV → List Value
  | [] => []
  | x :: xs => den e x :: denL e xs
end

mutual
/-- All tags are below n, and nothing inside is unknown. -/
def bel (n : Nat) : SV → Bool
  | .junk => false
  | .val _ => true
  | .bool _ => true
  | .bexp _ => true
  | .int _ _ => true
  | .str _ => true
  | .agg cs => belL n cs
  | .tuple vs => belL n vs
  | .ptr t _ => Nat.blt t n
  | .loc t => Nat.blt t n
  | .optr t _ => Nat.blt t n
  | .func _ a b => belL n a && belL n b
  | .slc _ _ _ => true
  | .dptr _ => true
def belL (n : Nat) : List SV → Bool
  | [] => true
  | x :: xs => bel n x && belL n xs
end

mutual
def ren (r : Nat → Nat) : SV → SV
  | .junk => .junk
  | .val v => .val v
  | .bool b => .bool b
  | .bexp b => .bexp b
  | .int k n => .int k n
  | .str s => .str s
  | .agg cs => .agg (renL r cs)
  | .tuple vs => .tuple (renL r vs)
  | .ptr t off => .ptr (r t) off
  | .loc t => .loc (r t)
  | .optr t off => .optr (r t) off
  | .func fn a b => .func fn (renL r a) (renL r b)
  | .slc a n c => .slc a n c
  | .dptr a => .dptr a
def renL (r : Nat → Nat) : List SV → List SV
  | [] => []
  | x :: xs => ren r x :: renL r xs
end

mutual
def tags : SV → List Nat
  | .agg cs => tagsL cs
  | .tuple vs => tagsL vs
  | .ptr t _ => [t]
  | .loc t => [t]
  | .optr t _ => [t]
  | .func _ a b => tagsL a ++ tagsL b
  | _ => []
def tagsL : List SV → List Nat
  | [] => []
  | x :: xs => tags x ++ tagsL xs
end

theorem denL_eq (e : Env) (l : List SV) : denL e l = l.map (den e) := by
  induction l with
  | nil => rfl
  | cons x xs ih => simp [denL, ih]
theorem belL_eq (n : Nat) (l : List SV) : belL n l = l.all (bel n) := by
  induction l with
  | nil => rfl
  | cons x xs ih => simp [belL, ih]
theorem renL_eq (r : Nat → Nat) (l : List SV) : renL r l = l.map (ren r) := by
  induction l with
  | nil => rfl
  | cons x xs ih => simp [renL, ih]

def Env.comp (e : Env) (r : Nat → Nat) : Env := ⟨fun t => e.blk (r t), fun t => e.loc (r t)⟩

mutual
theorem den_ren (e : Env) (r : Nat → Nat) : ∀ x, den e (ren r x) = den (e.comp r) x
  | .junk => rfl
  | .val _ => rfl
  | .bool _ => rfl
  | .bexp _ => rfl
  | .int _ _ => rfl
  | .str _ => rfl
  | .agg cs => by simp [ren, den, denL_ren e r cs]
  | .tuple vs => by simp [ren, den, denL_ren e r vs]
  | .ptr _ _ => rfl
  | .loc _ => rfl
  | .optr _ _ => rfl
  | .func _ a b => by simp [ren, den, denL_ren e r a, denL_ren e r b]
  | .slc _ _ _ => rfl
  | .dptr _ => rfl
theorem denL_ren (e : Env) (r : Nat → Nat) : ∀ l, denL e (renL r l) = denL (e.comp r) l
  | [] => rfl
  | x :: xs => by simp [renL, denL, den_ren e r x, denL_ren e r xs]
end

/-- Two environments that agree on the tags below n. -/
def Agr (n : Nat) (e e' : Env) : Prop := ∀ t, t < n → e.blk t = e'.blk t ∧ e.loc t = e'.loc t
theorem Agr.refl (n : Nat) (e : Env) : Agr n e e := fun _ _ => ⟨rfl, rfl⟩
theorem Agr.trans {n : Nat} {a b c : Env} (h : Agr n a b) (k : Agr n b c) : Agr n a c := fun t ht => ⟨(h t ht).1.trans (k t ht).1, (h t ht).2.trans (k t ht).2⟩

mutual
theorem den_agr {n : Nat} {e e' : Env} (h : Agr n e e') : ∀ x, bel n x = true → den e x = den e' x
  | .junk, hb => by simp [bel] at hb
  | .val _, _ => rfl
  | .bool _, _ => rfl
  | .bexp _, _ => rfl
  | .int _ _, _ => rfl
  | .str _, _ => rfl
  | .agg cs, hb => by simp only [den]; rw [denL_agr h cs (by simpa [bel] using hb)]
  | .tuple vs, hb => by simp only [den]; rw [denL_agr h vs (by simpa [bel] using hb)]
  | .ptr t off, hb => by simp only [den]; rw [(h t (by simpa [bel] using hb)).1]
  | .loc t, hb => by simp only [den]; rw [(h t (by simpa [bel] using hb)).2]
  | .optr t off, hb => by simp only [den]; rw [(h t (by simpa [bel] using hb)).1]
  | .func _ a b, hb => by
    simp only [bel, Bool.and_eq_true] at hb
    simp only [den]; rw [denL_agr h a hb.1, denL_agr h b hb.2]
  | .slc _ _ _, _ => rfl
  | .dptr _, _ => rfl
theorem denL_agr {n : Nat} {e e' : Env} (h : Agr n e e') : ∀ l, belL n l = true → denL e l = denL e' l
  | [], _ => rfl
  | x :: xs, hb => by
    simp only [belL, Bool.and_eq_true] at hb
    simp only [denL]; rw [den_agr h x hb.1, denL_agr h xs hb.2]
end

mutual
theorem bel_mono {n m : Nat} (h : n ≤ m) : ∀ x, bel n x = true → bel m x = true
  | .junk, hb => by simp [bel] at hb
  | .val _, _ => rfl
  | .bool _, _ => rfl
  | .bexp _, _ => rfl
  | .int _ _, _ => rfl
  | .str _, _ => rfl
  | .agg cs, hb => by simp only [bel] at *; exact belL_mono h cs hb
  | .tuple vs, hb => by simp only [bel] at *; exact belL_mono h vs hb
  | .ptr t off, hb => by simp [bel] at *; omega
  | .loc t, hb => by simp [bel] at *; omega
  | .optr t off, hb => by simp [bel] at *; omega
  | .func _ a b, hb => by
    simp only [bel, Bool.and_eq_true] at *
    exact ⟨belL_mono h a hb.1, belL_mono h b hb.2⟩
  | .slc _ _ _, _ => rfl
  | .dptr _, _ => rfl
theorem belL_mono {n m : Nat} (h : n ≤ m) : ∀ l, belL n l = true → belL m l = true
  | [], _ => rfl
  | x :: xs, hb => by
    simp only [belL, Bool.and_eq_true] at *
    exact ⟨bel_mono h x hb.1, belL_mono h xs hb.2⟩
end

/-- The call's own objects. 'cells': a block all of whose cells are known. 'olist': a slice that nobody else holds: n elements of sz cells each. 'ghost': what an iterator has yielded till now, and whether it has been told to stop. -/
inductive SObj where
  | cells (t : TypeId) (cs : List SV)
  | olist (e : TypeId) (sz n : Nat) (xs : List Value)
  | ghost (stop : Bool) (xs : List (List SV))
  deriving Inhabited

abbrev Hp := Nat → Option Obj

structure SS where
  t : List SV
  o : List (Option SObj)
  h : Hp

def live (e : Env) (t : Nat) : SObj → Prop
  | .cells _ _ => True
  | .olist _ _ _ _ => (e.loc t).1 ≠ none
  | .ghost _ _ => False

def objOk (e : Env) (w : World) (n t : Nat) : SObj → Prop
  | .cells ty cs => w.heap[e.blk t]? = some (.cells (denL e cs).toArray ty (0, 0)) ∧ belL n cs = true
  | .olist ty sz k xs => ((e.loc t).2.1 = k ∧ xs.length = k * sz ∧ ∀ u ∈ xs, u.oneCell' = true) ∧
      (((e.loc t).1 = none ∧ k = 0 ∧ (e.loc t).2.2 = 0) ∨
       ((e.loc t).1 = some ⟨e.blk t, 0, none⟩ ∧ k ≤ (e.loc t).2.2 ∧ (e.loc t).2.2 ≤ maxLen ∧ ∃ c : List Value, w.heap[e.blk t]? = some (.cells (xs ++ c).toArray ty (0, 0)) ∧ (xs ++ c).length = (e.loc t).2.2 * sz))
  | .ghost _ _ => True

def HLe (h h' : Hp) : Prop := ∀ b x, h b = some x → h' b = some x
theorem HLe.refl (h : Hp) : HLe h h := fun _ _ h => h
theorem HLe.trans {a b c : Hp} (h : HLe a b) (k : HLe b c) : HLe a c := fun x y hx => k x y (h x y hx)

/-- What a call began with. The last four: of an iterator: what its caller is promised, which yield it is handed, what may be yielded and how often. -/
structure Base where
  w : World
  M : Nat → Prop
  h : Hp
  e : Env
  nk : Nat
  inv : Bool → List (List SV) → (Nat → Prop) → World → Prop := fun _ _ _ _ => False
  yl : Nat := 0
  yok : List (List SV) → List SV → Prop := fun _ _ => False
  yN : Nat := 0
  rd : Bool := false

structure Frm (M : Nat → Prop) (w w' : World) : Prop where
  os : w'.os = w.os
  tape : w'.tape = w.tape
  output : w'.output = w.output
  size : w.heap.size ≤ w'.heap.size
  block : ∀ k, k < w.heap.size → ¬ M k → w'.heap[k]? = w.heap[k]?

theorem Frm.refl (M : Nat → Prop) (w : World) : Frm M w w := ⟨rfl, rfl, rfl, Nat.le_refl _, fun _ _ _ => rfl⟩
theorem Frm.trans {M : Nat → Prop} {a b c : World} (h : Frm M a b) (k : Frm M b c) : Frm M a c :=
  ⟨k.os.trans h.os, k.tape.trans h.tape, k.output.trans h.output, Nat.le_trans h.size k.size, fun i hi hm => (k.block i (Nat.lt_of_lt_of_le hi h.size) hm).trans (h.block i hi hm)⟩

/-- What somebody else relies on lies as it lay. -/
structure SameB (B : Nat → Prop) (w w' : World) : Prop where
  os : w'.os = w.os
  tape : w'.tape = w.tape
  output : w'.output = w.output
  size : w.heap.size ≤ w'.heap.size
  block : ∀ k, B k → w'.heap[k]? = w.heap[k]?
theorem SameB.refl (B : Nat → Prop) (w : World) : SameB B w w := ⟨rfl, rfl, rfl, Nat.le_refl _, fun _ _ => rfl⟩
theorem SameB.trans {B : Nat → Prop} {a b c : World} (h : SameB B a b) (k : SameB B b c) : SameB B a c :=
  ⟨k.os.trans h.os, k.tape.trans h.tape, k.output.trans h.output, Nat.le_trans h.size k.size, fun i hi => (k.block i hi).trans (h.block i hi)⟩

/-- The known part of memory. -/
structure WR (e : Env) (o : List (Option SObj)) (h : Hp) (w : World) : Prop where
  hh : ∀ b x, h b = some x → w.heap[b]? = some x
  ob : ∀ t x, o[t]? = some (some x) → objOk e w o.length t x

/-- What is of others, or of the machine's book-keeping: B: what an iterator's caller relies on; ds: the marks that ranges over functions have left. -/
structure PRb (G : Base) (ds : List Deferred) (e : Env) (o : List (Option SObj)) (h : Hp) (w : World) (B : Nat → Prop) : Prop where
  inv : ∀ (t : Nat) s xs, o[t]? = some (some (.ghost s xs)) → ∀ w', SameB B w w' → G.inv s xs B w'
  one : ∀ (t t' : Nat) s s' xs xs', o[t]? = some (some (.ghost s xs)) → o[t']? = some (some (.ghost s' xs')) → t = t'
  lv : ∀ (t : Nat) x, o[t]? = some (some x) → live e t x → ¬ B (e.blk t)
  lt : ∀ k, B k → k < w.heap.size
  hb : ∀ b x, h b = some x → G.h b = some x ∨ ¬ B b
  ow : ∀ k, B k → G.M k ∨ G.w.heap.size ≤ k
  rd : G.rd = true → ds = []
  nd : ds.Nodup
  ds : ∀ d ∈ ds, ∃ D, d = { target := .collected D, args := #[] } ∧ ¬ B D ∧ G.w.heap.size ≤ D ∧ w.heap[D]? = some (.deferred (some [])) ∧ (∀ (t : Nat) x, o[t]? = some (some x) → live e t x → e.blk t ≠ D) ∧ h D = none
def PR (G : Base) (ds : List Deferred) (e : Env) (o : List (Option SObj)) (h : Hp) (w : World) : Prop := ∃ B, PRb G ds e o h w B

/-- The world is as the symbolic state says. -/
structure WOk (G : Base) (ds : List Deferred) (e : Env) (o : List (Option SObj)) (h : Hp) (w : World) : Prop extends WR e o h w where
  sep : ∀ t t' x x', o[t]? = some (some x) → o[t']? = some (some x') → live e t x → live e t' x' → t ≠ t' → e.blk t ≠ e.blk t'
  hn : ∀ t x, o[t]? = some (some x) → live e t x → h (e.blk t) = none
  frm : Frm G.M G.w w
  own : ∀ t x, o[t]? = some (some x) → live e t x → G.M (e.blk t) ∨ G.w.heap.size ≤ e.blk t
  hle : HLe G.h h
  hnew : ∀ b x, h b = some x → G.h b = some x ∨ G.M b ∨ G.w.heap.size ≤ b
  agr : ∀ t, t < G.nk → e.blk t = G.e.blk t ∧ e.loc t = G.e.loc t
  pr : PR G ds e o h w

/-- The marks and what others rely on outlast a step that turns own blocks alone. -/
theorem PRb.step {G : Base} {ds : List Deferred} {e e' : Env} {o o' : List (Option SObj)} {h h' : Hp} {w w' : World} {B : Nat → Prop} (p : PRb G ds e o h w B)
    (hs : w.heap.size ≤ w'.heap.size) (h1 : w'.os = w.os) (h2 : w'.tape = w.tape) (h3 : w'.output = w.output)
    (hb : ∀ k, k < w.heap.size → (∀ (i : Nat) x, o[i]? = some (some x) → live e i x → e.blk i ≠ k) → w'.heap[k]? = w.heap[k]?)
    (hl : ∀ (i : Nat) x, o'[i]? = some (some x) → live e' i x → (∃ (j : Nat) (y : SObj), o[j]? = some (some y) ∧ live e j y ∧ e'.blk i = e.blk j) ∨ w.heap.size ≤ e'.blk i)
    (hg : ∀ (i : Nat) s xs, o'[i]? = some (some (.ghost s xs)) → o[i]? = some (some (.ghost s xs)))
    (hh : ∀ b x, h' b = some x → h b = some x ∨ (∃ (j : Nat) (y : SObj), o[j]? = some (some y) ∧ live e j y ∧ e.blk j = b) ∨ w.heap.size ≤ b) : PRb G ds e' o' h' w' B := by
  have hsame : SameB B w w' := ⟨h1, h2, h3, hs, fun k hk => hb k (p.lt k hk) (fun i x hi hx he => p.lv i x hi hx (he ▸ hk))⟩
  refine ⟨fun t s xs ht w'' hw => p.inv t s xs (hg t s xs ht) w'' (hsame.trans hw), fun t t' s s' xs xs' ht ht' => p.one t t' s s' xs xs' (hg t s xs ht) (hg t' s' xs' ht'), fun t x ht hx hB => ?_, fun k hk => Nat.lt_of_lt_of_le (p.lt k hk) hs, fun b x hx => ?_, p.ow, p.rd, p.nd, fun d hd => ?_⟩
  · rcases hl t x ht hx with ⟨j, y, hj, hy, he⟩ | he
    · exact p.lv j y hj hy (he ▸ hB)
    · have := p.lt _ hB; omega
  · rcases hh b x hx with h0 | ⟨j, y, hj, hy, he⟩ | h0
    · exact p.hb b x h0
    · exact .inr (he ▸ p.lv j y hj hy)
    · exact .inr (fun hB => by have := p.lt _ hB; omega)
  · obtain ⟨D, q1, q2, q3, q4, q5, q6⟩ := p.ds d hd
    have hD : D < w.heap.size := (Array.getElem?_eq_some_iff.1 q4).1
    refine ⟨D, q1, q2, q3, (hb D hD q5).trans q4, fun t x ht hx => ?_, ?_⟩
    · rcases hl t x ht hx with ⟨j, y, hj, hy, he⟩ | he
      · rw [he]; exact q5 j y hj hy
      · omega
    · cases hq : h' D with
      | none => rfl
      | some x =>
        rcases hh D x hq with h0 | ⟨j, y, hj, hy, he⟩ | h0
        · rw [q6] at h0; cases h0
        · exact absurd he (q5 j y hj hy)
        · omega
theorem PR.step {G : Base} {ds : List Deferred} {e e' : Env} {o o' : List (Option SObj)} {h h' : Hp} {w w' : World} (p : PR G ds e o h w)
    (hs : w.heap.size ≤ w'.heap.size) (h1 : w'.os = w.os) (h2 : w'.tape = w.tape) (h3 : w'.output = w.output)
    (hb : ∀ k, k < w.heap.size → (∀ (i : Nat) x, o[i]? = some (some x) → live e i x → e.blk i ≠ k) → w'.heap[k]? = w.heap[k]?)
    (hl : ∀ (i : Nat) x, o'[i]? = some (some x) → live e' i x → (∃ (j : Nat) (y : SObj), o[j]? = some (some y) ∧ live e j y ∧ e'.blk i = e.blk j) ∨ w.heap.size ≤ e'.blk i)
    (hg : ∀ (i : Nat) s xs, o'[i]? = some (some (.ghost s xs)) → o[i]? = some (some (.ghost s xs)))
    (hh : ∀ b x, h' b = some x → h b = some x ∨ (∃ (j : Nat) (y : SObj), o[j]? = some (some y) ∧ live e j y ∧ e.blk j = b) ∨ w.heap.size ≤ b) : PR G ds e' o' h' w' := by
  obtain ⟨B, p⟩ := p
  exact ⟨B, p.step hs h1 h2 h3 hb hl hg hh⟩

/-- The temporaries are as the symbolic state says. -/
def TOk (e : Env) (n : Nat) (ts : List SV) (vs : Array Value) : Prop :=
  vs.size = ts.length ∧ ∀ (i : Nat) (x : SV), ts[i]? = some x → x = .junk ∨ (vs[i]? = some (den e x) ∧ bel n x = true)

def Sat (e : Env) (n : Nat) (x : SV) (v : Value) : Prop := x = .junk ∨ (v = den e x ∧ bel n x = true)

theorem TOk.set {e : Env} {n : Nat} {ts : List SV} {vs : Array Value} (h : TOk e n ts vs) {x : SV} {v : Value} (hx : Sat e n x v) (d : Nat) : TOk e n (ts.set d x) (vs.setIfInBounds d v) := by
  refine ⟨by simp [h.1], fun i y hy => ?_⟩
  rw [List.getElem?_set] at hy
  by_cases hd : d = i
  · subst hd
    rw [if_pos rfl] at hy
    split at hy
    · rename_i hlt
      obtain rfl : x = y := by simpa using hy
      rcases hx with hx | ⟨hx, hb⟩
      · exact .inl hx
      · refine .inr ⟨?_, hb⟩
        rw [Array.getElem?_setIfInBounds, if_pos rfl, if_pos (by rw [h.1]; exact hlt), hx]
    · cases hy
  · rw [if_neg hd] at hy
    rcases h.2 i y hy with h' | ⟨h', hb⟩
    · exact .inl h'
    · exact .inr ⟨by rw [Array.getElem?_setIfInBounds, if_neg hd]; exact h', hb⟩

theorem TOk.agr {e e' : Env} {n m : Nat} {ts : List SV} {vs : Array Value} (h : TOk e n ts vs) (ha : Agr n e e') (hm : n ≤ m) : TOk e' m ts vs :=
  ⟨h.1, fun i x hx => or_map (h.2 i x hx) fun ⟨a, b⟩ => ⟨by rw [a, den_agr ha x b], bel_mono hm x b⟩⟩

/-- A constant of the code, read. -/
def ofC : Value → SV
  | .bool b => .bool b
  | .int k n => .int k n
  | .string s => .str s.data.toList
  | .slice a n c => .slc a n c
  | .pointer a => .dptr a
  | v => .val v
/-- A value out of memory: its Bool is one of the proof's. -/
def ofV : Value → SV
  | .bool b => .bexp b
  | .int k n => .int k n
  | .string s => .str s.data.toList
  | .slice a n c => .slc a n c
  | .pointer a => .dptr a
  | v => .val v
theorem den_ofC (e : Env) (v : Value) : den e (ofC v) = v := by cases v <;> simp [ofC, den]
theorem den_ofV (e : Env) (v : Value) : den e (ofV v) = v := by cases v <;> simp [ofV, den]
theorem bel_ofC (n : Nat) (v : Value) : bel n (ofC v) = true := by cases v <;> simp [ofC, bel]
theorem bel_ofV (n : Nat) (v : Value) : bel n (ofV v) = true := by cases v <;> simp [ofV, bel]

/-- A constant operand: an aggregate is laid out in its cells. -/
def ofK : Value → SV
  | .agg cs => .agg (cs.toList.map ofC)
  | v => ofC v
theorem denL_ofC (e : Env) (l : List Value) : denL e (l.map ofC) = l := by
  induction l with
  | nil => rfl
  | cons x xs ih => simp [denL, den_ofC, ih]
theorem belL_ofC (n : Nat) (l : List Value) : belL n (l.map ofC) = true := by
  induction l with
  | nil => rfl
  | cons x xs ih => simp [belL, bel_ofC, ih]
theorem den_ofK (e : Env) (v : Value) : den e (ofK v) = v := by
  cases v <;> simp [ofK, den, den_ofC, denL_ofC]
theorem bel_ofK (n : Nat) (v : Value) : bel n (ofK v) = true := by
  cases v <;> simp [ofK, bel, bel_ofC, belL_ofC]

def ev (t : List SV) : Operand → SV
  | .tmp i => t.getD i .junk
  | .const v => ofK v
  | .global g => .dptr (some ⟨g, 0, none⟩)
  | .func f => .func (.func f) [] []

theorem ev_sat {e : Env} {n : Nat} {ts : List SV} {a : Act} (h : TOk e n ts a.tmps) (x : Operand) : Sat e n (ev ts x) (a.eval x) := by
  cases x with
  | tmp i =>
    simp only [ev, Act.eval]
    by_cases hi : i < ts.length
    · have h1 := h.2 i ts[i] (by simp [hi])
      have h0 : ts.getD i .junk = ts[i] := by simp [List.getD, hi]
      rcases h1 with h1 | ⟨h1, hb⟩
      · exact .inl (by rw [h0, h1])
      · refine .inr ⟨?_, by rw [h0]; exact hb⟩
        rw [h0, Array.getD_eq_getD_getElem?, h1]; rfl
    · exact .inl (by simp [List.getD, Nat.le_of_not_lt hi])
  | const v => exact .inr ⟨(den_ofK e v).symm, bel_ofK n v⟩
  | global g => exact .inr ⟨rfl, rfl⟩
  | func f => exact .inr ⟨rfl, rfl⟩

theorem Sat.eq {e : Env} {n : Nat} {x : SV} {v : Value} (h : Sat e n x v) (hx : x ≠ .junk) : v = den e x := (h.resolve_left hx).1
theorem Sat.bel {e : Env} {n : Nat} {x : SV} {v : Value} (h : Sat e n x v) (hx : x ≠ .junk) : bel n x = true := (h.resolve_left hx).2

end Go.Pw
