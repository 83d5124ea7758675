import Derived.Test.YtdhgpmhlnechbaaGreatDoorGc
/-
  Reasoning about runs of the concrete evaluator. Part a: runs that come to an end, symbolic temporaries, memory.
-/
set_option linter.unusedSimpArgs false
set_option linter.unusedVariables false
namespace Go.Cx
open Go

/-- From some fuel on. -/
def Evt (P : Program) (X : Ext) (p : (Task → Res) → Prop) : Prop := ∃ n, ∀ j, n ≤ j → p (runC P X j)
section
variable {P : Program} {X : Ext} {p q : (Task → Res) → Prop}
theorem Evt.and (h : Evt P X p) (k : Evt P X q) : Evt P X fun ih => p ih ∧ q ih := by
  obtain ⟨a, ha⟩ := h
  obtain ⟨b, hb⟩ := k
  exact ⟨max a b, fun j hj => ⟨ha j (by omega), hb j (by omega)⟩⟩
theorem Evt.mono (h : Evt P X p) (k : ∀ ih, p ih → q ih) : Evt P X q := by
  obtain ⟨a, ha⟩ := h
  exact ⟨a, fun j hj => k _ (ha j hj)⟩
theorem Evt.all (h : ∀ ih, p ih) : Evt P X p := ⟨0, fun j _ => h _⟩
end
/-- A task ends so. -/
def Ev (P : Program) (X : Ext) (k : Task) (R : Res) : Prop := Evt P X fun ih => ih k = R
theorem Ev.step {P : Program} {X : Ext} {k : Task} {R : Res} (h : Evt P X fun ih => stepC P X ih k = R) : Ev P X k R := by
  obtain ⟨a, ha⟩ := h
  refine ⟨a + 1, fun j hj => ?_⟩
  obtain ⟨i, rfl⟩ : ∃ i, j = i + 1 := ⟨j - 1, by omega⟩
  exact ha i (by omega)

/-! ### memory -/
/-- The machine's own records. -/
def isRec : CO → Bool
  | .loop _ _ _ _ _ _ _ => true
  | .dfr _ => true
  | _ => false
/-- Nothing lies behind the next tag. -/
def Wf (m : Mem) : Prop := ∀ t, m.nxt ≤ t → m.get t = none
/-- What has become of memory: tags of S may have changed, all others that there were have not. -/
structure Fr (S : List Nat) (m m' : Mem) : Prop where
  nxt : m.nxt ≤ m'.nxt
  get : ∀ t, t < m.nxt → t ∉ S → m'.get t = m.get t
  wf : Wf m → Wf m'
/-- A new object. -/
structure New (m : Mem) (a : Nat) (o : CO) (m' : Mem) : Prop where
  tag : a = m.nxt
  nxt : m'.nxt = m.nxt + 1
  get : ∀ t, m'.get t = if t = a then some o else m.get t
/-- An object is exchanged. -/
structure Put (m : Mem) (a : Nat) (o : CO) (m' : Mem) : Prop where
  nxt : m'.nxt = m.nxt
  get : ∀ t, m'.get t = if t = a then some o else m.get t
  old : ∀ o', m.get a = some o' → isRec o' = false
/-- An object goes. -/
structure Kill (m : Mem) (a : Nat) (m' : Mem) : Prop where
  nxt : m'.nxt = m.nxt
  get : ∀ t, m'.get t = if t = a then none else m.get t
  old : ∀ o', m.get a = some o' → isRec o' = false

theorem New.mk' (m : Mem) (o : CO) : New m m.nxt o (m.new o) := ⟨rfl, rfl, fun t => Mem.get_new m o t⟩
theorem New.at (m : Mem) (o : CO) : New m m.nxt o (m.newAt m.nxt o) := by rw [← Mem.new_eq]; exact .mk' m o
theorem Put.mk' (m : Mem) (a : Nat) (o : CO) (h : ∀ o', m.get a = some o' → isRec o' = false) : Put m a o (m.put a o) := ⟨rfl, fun t => Mem.get_put m a o t, h⟩
theorem Put.at {m : Mem} {a : Nat} {o : CO} (ha : a < m.nxt) (h : ∀ o', m.get a = some o' → isRec o' = false) : Put m a o (m.newAt a o) := by
  refine ⟨?_, fun t => Mem.get_newAt m a o t, h⟩
  show Bool.rec (motive := fun _ => Nat) (Nat.succ a) m.nxt (Nat.blt a m.nxt) = m.nxt
  rw [show Nat.blt a m.nxt = true from Nat.ble_eq_true_of_le ha]
theorem Kill.mk' (m : Mem) (a : Nat) (h : ∀ o', m.get a = some o' → isRec o' = false) : Kill m a (m.kill a) := ⟨rfl, fun t => Mem.get_kill m a t, h⟩

section
variable {m m' m'' : Mem} {a t : Nat} {o : CO} {r : Option CO} {S : List Nat}
theorem Wf.lt (h : Wf m) {o : CO} (hg : m.get t = some o) : t < m.nxt := by
  rcases Nat.lt_or_ge t m.nxt with h1 | h1
  · exact h1
  · rw [h t h1] at hg; cases hg
theorem New.self (h : New m a o m') : m'.get a = some o := by rw [h.get, if_pos rfl]
theorem New.ne (h : New m a o m') (ht : t ≠ a) (hg : m.get t = r) : m'.get t = r := by rw [h.get, if_neg ht, hg]
theorem Put.self (h : Put m a o m') : m'.get a = some o := by rw [h.get, if_pos rfl]
theorem Put.ne (h : Put m a o m') (ht : t ≠ a) (hg : m.get t = r) : m'.get t = r := by rw [h.get, if_neg ht, hg]
theorem Kill.ne (h : Kill m a m') (ht : t ≠ a) (hg : m.get t = r) : m'.get t = r := by rw [h.get, if_neg ht, hg]
theorem Fr.ne (h : Fr S m m') (ht : t < m.nxt) (hS : t ∉ S) (hg : m.get t = r) : m'.get t = r := by rw [h.get t ht hS, hg]
theorem New.wf (h : New m a o m') (hw : Wf m) : Wf m' := fun t ht => by
  have := h.nxt; have := h.tag
  rw [h.get, if_neg (by omega)]; exact hw t (by omega)
theorem Put.wf (h : Put m a o m') (ha : a < m.nxt) (hw : Wf m) : Wf m' := fun t ht => by
  have := h.nxt
  rw [h.get, if_neg (by omega)]; exact hw t (by omega)
theorem Kill.wf (h : Kill m a m') (hw : Wf m) : Wf m' := fun t ht => by
  have := h.nxt
  rw [h.get]; split
  · rfl
  · exact hw t (by omega)
theorem Fr.refl (S : List Nat) (m : Mem) : Fr S m m := ⟨Nat.le_refl _, fun _ _ _ => rfl, id⟩
theorem Fr.trans (h : Fr S m m') (k : Fr S m' m'') : Fr S m m'' :=
  ⟨Nat.le_trans h.nxt k.nxt, fun t ht hS => by rw [k.get t (Nat.lt_of_lt_of_le ht h.nxt) hS, h.get t ht hS], fun w => k.wf (h.wf w)⟩
/-- Steps behind a frame: a new object, an own object (or one of S) exchanged, a call. -/
theorem Fr.new (k : New m' a o m'') (h : Fr S m m') : Fr S m m'' :=
  ⟨by have := k.nxt; have := h.nxt; omega, fun t ht hS => by have := k.tag; have := h.nxt; rw [k.get, if_neg (by omega), h.get t ht hS], fun w => k.wf (h.wf w)⟩
theorem Fr.put (k : Put m' a o m'') (hl : a < m'.nxt) (ha : m.nxt ≤ a ∨ a ∈ S) (h : Fr S m m') : Fr S m m'' :=
  ⟨by have := k.nxt; have := h.nxt; omega, fun t ht hS => by
    rw [k.get, if_neg (by rintro rfl; rcases ha with ha | ha; omega; exact hS ha), h.get t ht hS], fun w => k.wf hl (h.wf w)⟩
theorem Fr.kill (k : Kill m' a m'') (ha : m.nxt ≤ a ∨ a ∈ S) (h : Fr S m m') : Fr S m m'' :=
  ⟨by have := k.nxt; have := h.nxt; omega, fun t ht hS => by
    rw [k.get, if_neg (by rintro rfl; rcases ha with ha | ha; omega; exact hS ha), h.get t ht hS], fun w => k.wf (h.wf w)⟩
theorem Fr.call {S' : List Nat} (k : Fr S' m' m'') (ha : ∀ a ∈ S', m.nxt ≤ a ∨ a ∈ S) (h : Fr S m m') : Fr S m m'' :=
  ⟨Nat.le_trans h.nxt k.nxt, fun t ht hS => by
    have := h.nxt
    rw [k.get t (by omega) (fun hS' => by rcases ha t hS' with ha | ha; omega; exact hS ha), h.get t ht hS], fun w => k.wf (h.wf w)⟩
theorem Fr.weaken {S' : List Nat} (k : Fr S' m m') (ha : ∀ a ∈ S', a ∈ S ∨ m.nxt ≤ a) : Fr S m m' :=
  ⟨k.nxt, fun t ht hS => k.get t ht fun h => by rcases ha t h with h | h; exact hS h; omega, k.wf⟩
end

/-- Memory that stays as it is. -/
abbrev RO := Nat → Option CO
structure Mk (R : RO) (m : Mem) : Prop where
  wf : Wf m
  ro : ∀ t o, R t = some o → m.get t = some o
def RO.le (R R' : RO) : Prop := ∀ t o, R t = some o → R' t = some o
theorem RO.le.refl (R : RO) : R.le R := fun _ _ h => h
theorem RO.le.trans {A B C : RO} (h : A.le B) (k : B.le C) : A.le C := fun t o x => k t o (h t o x)
section
variable {R R' : RO} {m m' m'' : Mem} {a t : Nat} {o : CO} {S : List Nat}
theorem Mk.lt (h : Mk R m) {o : CO} (hg : R t = some o) : t < m.nxt := h.wf.lt (h.ro t o hg)
theorem Mk.none (h : Mk R m) (ht : m.nxt ≤ t) : R t = none := by
  cases hr : R t with
  | none => rfl
  | some o => have := h.lt hr; omega
theorem Mk.new (k : New m a o m') (h : Mk R m) : Mk R m' := ⟨k.wf h.wf, fun t x hx => by
  have := h.lt hx; have := k.tag
  rw [k.get, if_neg (by omega)]; exact h.ro t x hx⟩
theorem Mk.put (k : Put m a o m') (hl : a < m.nxt) (ha : R a = .none) (h : Mk R m) : Mk R m' := ⟨k.wf hl h.wf, fun t x hx => by
  rw [k.get, if_neg (by rintro rfl; rw [ha] at hx; cases hx)]; exact h.ro t x hx⟩
theorem Mk.kill (k : Kill m a m') (ha : R a = .none) (h : Mk R m) : Mk R m' := ⟨k.wf h.wf, fun t x hx => by
  rw [k.get, if_neg (by rintro rfl; rw [ha] at hx; cases hx)]; exact h.ro t x hx⟩
theorem Mk.fr (k : Fr S m m') (ha : ∀ a ∈ S, R a = .none) (h : Mk R m) : Mk R m' := ⟨k.wf h.wf, fun t x hx => by
  rw [k.get t (h.lt hx) (fun hs => by rw [ha t hs] at hx; cases hx)]; exact h.ro t x hx⟩
theorem Mk.sub (hR : R.le R') (h : Mk R' m) : Mk R m := ⟨h.wf, fun t x hx => h.ro t x (hR t x hx)⟩
/-- An own object becomes part of what stays. -/
def RO.add (R : RO) (a : Nat) (o : CO) : RO := fun t => if t = a then some o else R t
theorem RO.le_add (h : R a = .none) : R.le (R.add a o) := fun t x hx => by
  unfold RO.add; split
  · rename_i e; rw [e, h] at hx; cases hx
  · exact hx
theorem RO.add_self : (R.add a o) a = some o := if_pos rfl
theorem RO.add_ne (h : t ≠ a) : (R.add a o) t = R t := if_neg h
theorem Mk.add (h : Mk R m) (hg : m.get a = some o) : Mk (R.add a o) m := ⟨h.wf, fun t x hx => by
  unfold RO.add at hx; split at hx
  · rename_i e; cases hx; rw [e]; exact hg
  · exact h.ro t x hx⟩
end

/-- What a piece of code does to the machine's records and to what stays: nothing. -/
structure RFr (R : RO) (m m' : Mem) : Prop where
  nxt : m.nxt ≤ m'.nxt
  stay : Mk R m → Mk R m'
  recs : ∀ t o, m.get t = some o → isRec o = true → m'.get t = some o
/-- The same, but for the record l. -/
structure YFr (R : RO) (l : Nat) (m m' : Mem) : Prop where
  nxt : m.nxt ≤ m'.nxt
  stay : Mk R m → Mk R m'
  recs : ∀ t o, m.get t = some o → isRec o = true → t ≠ l → m'.get t = some o
/-- New objects and records from k on, nothing else. -/
structure Still (k : Nat) (m m' : Mem) : Prop where
  nxt : m.nxt ≤ m'.nxt
  wf : Wf m → Wf m'
  data : ∀ t o, m.get t = some o → isRec o = false → m'.get t = some o
  old : ∀ t, t < k → m'.get t = m.get t
section
variable {R : RO} {m m' m'' : Mem} {a l k k' : Nat} {o : CO} {S : List Nat}
theorem RFr.refl (R : RO) (m : Mem) : RFr R m m := ⟨Nat.le_refl _, id, fun _ _ h _ => h⟩
theorem RFr.trans (h : RFr R m m') (g : RFr R m' m'') : RFr R m m'' := ⟨Nat.le_trans h.nxt g.nxt, g.stay ∘ h.stay, fun t o x y => g.recs t o (h.recs t o x y) y⟩
theorem YFr.refl (R : RO) (l : Nat) (m : Mem) : YFr R l m m := ⟨Nat.le_refl _, id, fun _ _ h _ _ => h⟩
theorem YFr.trans (h : YFr R l m m') (g : YFr R l m' m'') : YFr R l m m'' := ⟨Nat.le_trans h.nxt g.nxt, g.stay ∘ h.stay, fun t o x y z => g.recs t o (h.recs t o x y z) y z⟩
theorem RFr.y (h : RFr R m m') : YFr R l m m' := ⟨h.nxt, h.stay, fun t o x y _ => h.recs t o x y⟩
theorem Still.refl (k : Nat) (m : Mem) : Still k m m := ⟨Nat.le_refl _, id, fun _ _ h _ => h, fun _ _ => rfl⟩
theorem Still.trans (h : Still k m m') (g : Still k m' m'') : Still k m m'' := ⟨Nat.le_trans h.nxt g.nxt, g.wf ∘ h.wf, fun t o x y => g.data t o (h.data t o x y) y, fun t ht => (g.old t ht).trans (h.old t ht)⟩
theorem Still.le (h : Still k m m') (hk : k' ≤ k) : Still k' m m' := ⟨h.nxt, h.wf, h.data, fun t ht => h.old t (by omega)⟩
theorem Still.ne {r : Option CO} (h : Still k m m') {t : Nat} (ht : t < k) (hg : m.get t = r) : m'.get t = r := by rw [h.old t ht, hg]
theorem Still.dat (h : Still k m m') {t : Nat} (ho : isRec o = false) (hg : m.get t = some o) : m'.get t = some o := h.data t o hg ho
theorem Mk.still (h : Still k m m') (hR : ∀ t o, R t = some o → isRec o = false) (g : Mk R m) : Mk R m' := ⟨h.wf g.wf, fun t o x => h.data t o (g.ro t o x) (hR t o x)⟩
theorem New.recs (h : New m a o m') (hw : Wf m) {t : Nat} {x : CO} (hg : m.get t = some x) : m'.get t = some x := h.ne (by have := hw.lt hg; have := h.tag; omega) hg
theorem Put.recs (h : Put m a o m') {t : Nat} {x : CO} (hg : m.get t = some x) (hx : isRec x = true) : m'.get t = some x := h.ne (by rintro rfl; rw [h.old x hg] at hx; cases hx) hg
theorem Kill.recs (h : Kill m a m') {t : Nat} {x : CO} (hg : m.get t = some x) (hx : isRec x = true) : m'.get t = some x := h.ne (by rintro rfl; rw [h.old x hg] at hx; cases hx) hg
end

/-! ### symbolic temporaries -/
abbrev ST := List (Option CV)
def sget : ST → Nat → Option CV
  | [], _ => none
  | x :: _, 0 => x
  | _ :: xs, n + 1 => sget xs n
theorem sget_eq : ∀ (S : ST) (n : Nat), sget S n = (S[n]?).join
  | [], _ => rfl
  | x :: _, 0 => rfl
  | _ :: xs, n + 1 => by simp only [sget, List.getElem?_cons_succ]; exact sget_eq xs n
structure SSat (S : ST) (t : Tmps) : Prop where
  sz : t.sz = S.length
  get : ∀ i v, sget S i = some v → t.get i = some v
def setK {R : Sort _} {A : Type} : List A → Nat → A → R → (List A → R) → R
  | [], _, _, d, _ => d
  | _ :: xs, 0, v, _, k => k (v :: xs)
  | x :: xs, n + 1, v, d, k => setK xs n v d fun r => k (x :: r)
theorem setK_eq {R : Sort _} {A : Type} : ∀ (l : List A) (n : Nat) (v : A) (d : R) (k : List A → R), setK l n v d k = if n < l.length then k (l.set n v) else d
  | [], _, _, _, _ => by simp [setK]
  | _ :: xs, 0, v, _, k => by simp [setK]
  | x :: xs, n + 1, v, d, k => by
    rw [setK, setK_eq xs n]
    simp only [List.length_cons, List.set_cons_succ, Nat.add_lt_add_iff_right]
theorem Tmps.get_set_self (t : Tmps) {i : Nat} (v : CV) (h : i < t.sz) : (t.set i v).get i = some v := by
  obtain ⟨sz, tr⟩ := t
  show Bool.rec (motive := fun _ => Option CV) none ((Tr.set (Nat.succ i) tr i (some v)).get i) (Nat.ble (Nat.succ i) sz) = some v
  rw [show Nat.ble (Nat.succ i) sz = true from Nat.ble_eq_true_of_le h, Tr.get_set _ _ _ _ _ (by omega), if_pos rfl]
theorem Tmps.get_set_ne (t : Tmps) {i j : Nat} (v : CV) (h : j ≠ i) : (t.set i v).get j = t.get j := by
  obtain ⟨sz, tr⟩ := t
  show Bool.rec (motive := fun _ => Option CV) none ((Tr.set (Nat.succ i) tr i (some v)).get j) (Nat.ble (Nat.succ j) sz) = Bool.rec (motive := fun _ => Option CV) none (tr.get j) (Nat.ble (Nat.succ j) sz)
  rw [Tr.get_set _ _ _ _ _ (by omega), if_neg h]
theorem SSat.set {S : ST} {t : Tmps} (h : SSat S t) {d : Nat} (v : CV) (hd : d < S.length) : SSat (S.set d (some v)) (t.set d v) := by
  refine ⟨by rw [Tmps.set_sz, h.sz, List.length_set], fun i u hi => ?_⟩
  rw [sget_eq, List.getElem?_set] at hi
  by_cases hq : d = i
  · subst hq
    rw [if_pos rfl, if_pos hd] at hi
    simp only [Option.join_some, Option.some.injEq] at hi
    subst hi
    exact Tmps.get_set_self t v (by rw [h.sz]; exact hd)
  · rw [if_neg hq, ← sget_eq] at hi
    rw [Tmps.get_set_ne t v (fun e => hq e.symm)]
    exact h.get i u hi
/-- Less is known. -/
def SLe (S S' : ST) : Prop := S.length = S'.length ∧ ∀ i v, sget S i = some v → sget S' i = some v
theorem SSat.le {S S' : ST} {t : Tmps} (h : SSat S' t) (k : SLe S S') : SSat S t := ⟨h.sz.trans k.1.symm, fun i v hi => h.get i v (k.2 i v hi)⟩
/-- Of the temporaries ms nothing is known. -/
def havoc (S : ST) (ms : List Nat) : ST := ms.foldl (fun S m => S.set m none) S
def havocK {R : Sort _} : ST → List Nat → (ST → R) → R
  | S, [], k => k S
  | S, m :: ms, k => setK S m none (havocK S ms k) fun S => havocK S ms k
theorem havocK_eq {R : Sort _} : ∀ (ms : List Nat) (S : ST) (k : ST → R), havocK S ms k = k (havoc S ms)
  | [], _, _ => rfl
  | m :: ms, S, k => by
    rw [havocK, setK_eq, havocK_eq ms, havocK_eq ms]
    unfold havoc
    simp only [List.foldl_cons]
    split
    · rfl
    · rename_i h; rw [List.set_eq_of_length_le (by omega)]
theorem SLe.refl (S : ST) : SLe S S := ⟨rfl, fun _ _ h => h⟩
theorem SLe.trans {A B C : ST} (h : SLe A B) (k : SLe B C) : SLe A C := ⟨h.1.trans k.1, fun i v x => k.2 i v (h.2 i v x)⟩
theorem SLe.set_none (S : ST) (m : Nat) : SLe (S.set m none) S := ⟨by simp, fun i v h => by
  rw [sget_eq, List.getElem?_set] at h
  split at h
  · split at h <;> simp at h
  · rw [sget_eq]; exact h⟩
theorem SLe.havoc : ∀ (ms : List Nat) (S : ST), SLe (havoc S ms) S
  | [], S => .refl S
  | m :: ms, S => (SLe.havoc ms (S.set m none)).trans (.set_none S m)
/-- The listed temporaries hold these values. -/
def refillK {R : Sort _} : ST → List Nat → List CV → R → (ST → R) → R
  | S, s :: ss, v :: vs, d, k => setK S s (some v) d fun S => refillK S ss vs d k
  | S, [], [], _, k => k S
  | _, _, _, d, _ => d
def pickK : ST → List Nat → (List CV → Prop) → Prop
  | _, [], k => k []
  | S, s :: ss, k => match sget S s with
    | some v => pickK S ss fun vs => k (v :: vs)
    | none => False
end Go.Cx

/-
  Reasoning about runs of the concrete evaluator. Part b: the executor, operations.
-/
set_option linter.unusedSimpArgs false
set_option linter.unusedVariables false
namespace Go.Cx
open Go

structure ECfg where
  /-- Numbers wrap around. -/
  wrap : Bool := false
  /-- Loops, by their first region: the temporaries that are carried on. -/
  ann : List (Nat × List Nat) := []
  /-- Places at which ways meet again, by the region that comes next. -/
  cut : List (Nat × List Nat) := []

@[irreducible] def ClosedB (b : Bool) : Prop := b = true
theorem closedB {b : Bool} (h : b = true) : ClosedB b := by unfold ClosedB; exact h
theorem ClosedB.out {b : Bool} (h : ClosedB b) : b = true := by unfold ClosedB at h; exact h

def inK : IntKind → Int → Prop
  | .i8, n => -128 ≤ n ∧ n ≤ 127
  | .i16, n => -32768 ≤ n ∧ n ≤ 32767
  | .i32, n => -2147483648 ≤ n ∧ n ≤ 2147483647
  | .i64, n => -9223372036854775808 ≤ n ∧ n ≤ 9223372036854775807
  | .u8, n => 0 ≤ n ∧ n ≤ 255
  | .u16, n => 0 ≤ n ∧ n ≤ 65535
  | .u32, n => 0 ≤ n ∧ n ≤ 4294967295
  | .u64, n => 0 ≤ n ∧ n ≤ 18446744073709551615
theorem wrap_in {k : IntKind} {n : Int} (h : inK k n) : k.wrap n = n := by
  cases k <;> simp only [inK] at h <;> simp [IntKind.wrap, IntKind.bits, IntKind.signed] <;> omega

/-- Two ways. -/
def splitB (b : Bool) (A B : Prop) : Prop := match b with
  | true => A
  | false => B
theorem splitB_intro {b : Bool} {A B : Prop} (h1 : b = true → A) (h2 : b = false → B) : splitB b A B := by
  cases b
  · exact h2 rfl
  · exact h1 rfl

noncomputable def evS (S : ST) : Operand → Option CV
  | .tmp i => sget S i
  | .const v => ofV v
  | .global g => match Nat.blt g 64 with
    | true => some (.ptr g 0)
    | false => none
  | .func f => some (.fn f [] [])
noncomputable def evK (S : ST) (x : Operand) (k : CV → Prop) : Prop := match evS S x with
  | some v => k v
  | none => False
noncomputable def evLK (S : ST) : List Operand → (List CV → Prop) → Prop
  | [], k => k []
  | x :: xs, k => evK S x fun v => evLK S xs fun vs => k (v :: vs)
noncomputable def evPK (S : ST) : List (Nat × Operand) → (List (Nat × CV) → Prop) → Prop
  | [], k => k []
  | (i, x) :: xs, k => evK S x fun v => evPK S xs fun vs => k ((i, v) :: vs)
noncomputable def evOK (S : ST) : Option Operand → (Option CV → Prop) → Prop
  | none, k => k none
  | some x, k => evK S x fun v => k (some v)

section
variable {S : ST} {t : Tmps}
theorem evS_ok (h : SSat S t) {x : Operand} {v : CV} (hx : evS S x = some v) : evO t x = some v := by
  cases x with
  | tmp i => exact h.get i v hx
  | const u => exact hx
  | global g =>
    show Bool.rec (motive := fun _ => Option CV) none (some (.ptr g 0)) (Nat.blt g 64) = some v
    simp only [evS] at hx
    split at hx
    · rename_i hg; rw [hg]; exact hx
    · cases hx
  | func f => exact hx
theorem evK_ok (h : SSat S t) {x : Operand} {k : CV → Prop} (hx : evK S x k) : ∃ v, evO t x = some v ∧ k v := by
  unfold evK at hx
  split at hx
  · rename_i v hv; exact ⟨v, evS_ok h hv, hx⟩
  · exact hx.elim
theorem evLK_ok (h : SSat S t) : ∀ {l : List Operand} {k : List CV → Prop}, evLK S l k → ∃ vs, evL t l = some vs ∧ k vs
  | [], k, hk => ⟨[], rfl, hk⟩
  | x :: xs, k, hk => by
    obtain ⟨v, hv, hk⟩ := evK_ok h hk
    obtain ⟨vs, hvs, hk⟩ := evLK_ok h hk
    exact ⟨v :: vs, by simp [evL, hv, hvs], hk⟩
theorem evPK_ok (h : SSat S t) : ∀ {l : List (Nat × Operand)} {k : List (Nat × CV) → Prop}, evPK S l k → ∃ vs, evP t l = some vs ∧ k vs
  | [], k, hk => ⟨[], rfl, hk⟩
  | (i, x) :: xs, k, hk => by
    obtain ⟨v, hv, hk⟩ := evK_ok h hk
    obtain ⟨vs, hvs, hk⟩ := evPK_ok h hk
    exact ⟨(i, v) :: vs, by simp [evP, hv, hvs], hk⟩
theorem evOK_ok (h : SSat S t) {x : Option Operand} {k : Option CV → Prop} (hk : evOK S x k) : ∃ v, evOpt t x = some v ∧ k v := by
  cases x with
  | none => exact ⟨none, rfl, hk⟩
  | some x =>
    obtain ⟨v, hv, hk⟩ := evK_ok h hk
    exact ⟨some v, by simp [evOpt, hv], hk⟩
end

/-- A list, each element written out before the next. -/
def forceL {R : Sort _} {A : Type} : List A → (List A → R) → R
  | [], k => k []
  | x :: xs, k => forceL xs fun xs => k (x :: xs)
theorem forceL_eq {R : Sort _} {A : Type} : ∀ (l : List A) (k : List A → R), forceL l k = k l
  | [], _ => rfl
  | x :: xs, k => by rw [forceL, forceL_eq xs]
def forceCV {R : Sort _} : CV → (CV → R) → R
  | .agg cs, k => forceL cs fun cs => k (.agg cs)
  | .tup cs, k => forceL cs fun cs => k (.tup cs)
  | .fn f a b, k => forceL a fun a => forceL b fun b => k (.fn f a b)
  | v, k => k v
theorem forceCV_eq {R : Sort _} (v : CV) (k : CV → R) : forceCV v k = k v := by
  cases v <;> simp only [forceCV, forceL_eq]

/-! ### calls -/
def ResQ (Q Qp : CV → Mem → Prop) : Res → Prop
  | .ret v m => Q v m
  | .pan v m => Qp v m
  | _ => False
/-- A call comes to an end. -/
structure ECall (P : Program) (X : Ext) (f : FuncId) (args : List CV) (m : Mem) (Q Qp : CV → Mem → Prop) : Prop where
  ex : ∃ R, Ev P X (.call f args m) R ∧ ResQ Q Qp R
structure EYield (P : Program) (X : Ext) (l : Nat) (args : List CV) (m : Mem) (Q : CV → Mem → Prop) : Prop where
  ex : ∃ v m', Evt P X (fun ih => yieldC ih l args m = .ret v m') ∧ Q v m'
structure EDCall (P : Program) (X : Ext) (f : FuncId) (args : List CV) (m : Mem) (Q : Mem → Prop) : Prop where
  ex : ∃ v m', Ev P X (.dcall f args m) (.ret v m') ∧ Q m'
def EVal (P : Program) (X : Ext) (f : CV) (args : List CV) (m : Mem) (Q Qp : CV → Mem → Prop) : Prop := match callV f args with
  | .call g as => ECall P X g as m Q Qp
  | .yield l as => EYield P X l as m Q
  | _ => False
theorem ECall.mono {P : Program} {X : Ext} {f : FuncId} {args : List CV} {m : Mem} {Q Qp Q' Qp' : CV → Mem → Prop} (h : ECall P X f args m Q Qp) (k : ∀ v m', Q v m' → Q' v m') (kp : ∀ v m', Qp v m' → Qp' v m') : ECall P X f args m Q' Qp' := by
  obtain ⟨R, h1, h2⟩ := h.ex
  refine ⟨R, h1, ?_⟩
  cases R with
  | ret v m' => exact k v m' h2
  | pan v m' => exact kp v m' h2
  | no w => exact h2
  | ex e t ds m' => exact h2
theorem EYield.mono {P : Program} {X : Ext} {l : Nat} {args : List CV} {m : Mem} {Q Q' : CV → Mem → Prop} (h : EYield P X l args m Q) (k : ∀ v m', Q v m' → Q' v m') : EYield P X l args m Q' := by
  obtain ⟨v, m', h1, h2⟩ := h.ex
  exact ⟨v, m', h1, k v m' h2⟩
theorem EDCall.mono {P : Program} {X : Ext} {f : FuncId} {args : List CV} {m : Mem} {Q Q' : Mem → Prop} (h : EDCall P X f args m Q) (k : ∀ m', Q m' → Q' m') : EDCall P X f args m Q' := by
  obtain ⟨v, m', h1, h2⟩ := h.ex
  exact ⟨v, m', h1, k m' h2⟩

/-! ### what operations ask -/
/-- A value is read. -/
structure Ld (P : Program) (m : Mem) (ty : TypeId) (p v : CV) : Prop where
  eq : cLoad P m ty p = .val v
structure IxA (P : Program) (m : Mem) (ty : TypeId) (x i p : CV) : Prop where
  eq : cIndexAddr P m ty x i = .val p
structure Ix (P : Program) (ty : TypeId) (x i v : CV) : Prop where
  eq : cIndex P ty x i = .val v
structure Sl (P : Program) (m : Mem) (ty : TypeId) (x : CV) (lo hi : Option CV) (v : CV) : Prop where
  eq : cSlice P m ty x lo hi none = .val v
structure Ln (P : Program) (m : Mem) (ty : TypeId) (x : CV) (n : Nat) : Prop where
  eq : cLen P m ty x = .val (.int .i64 n)
structure Lk (P : Program) (m : Mem) (ty : TypeId) (x k : CV) (ok : Bool) (v : CV) : Prop where
  eq : cLookup P m ty x k ok = .val v
structure EqV (P : Program) (c neg : Bool) (ty : TypeId) (x y : CV) (b : Bool) : Prop where
  eq : cEq P c neg ty x y = .val (.bool b)
structure BStr (m : Mem) (x : CV) (s : List Nat) : Prop where
  eq : toStr m x = .val (.str s)
/-- Memory is changed. -/
structure StW (P : Program) (m : Mem) (ty : TypeId) (p v : CV) (Q : Mem → Prop) : Prop where
  ex : ∃ m', cStore P m ty p v = .mem undefC m' ∧ Q m'
structure ApW (P : Program) (m : Mem) (ty : TypeId) (s x : CV) (Q : CV → Mem → Prop) : Prop where
  ex : ∃ v m', (cAppend P m.nxt m ty ty s x = .mem v m' ∨ (cAppend P m.nxt m ty ty s x = .val v ∧ m' = m)) ∧ Q v m'
structure CpW (P : Program) (m : Mem) (t1 t2 : TypeId) (d s : CV) (Q : CV → Mem → Prop) : Prop where
  ex : ∃ v m', (cCopy P m t1 t2 d s = .mem v m' ∨ (cCopy P m t1 t2 d s = .val v ∧ m' = m)) ∧ Q v m'
structure MuW (P : Program) (m : Mem) (ty : TypeId) (x k v : CV) (Q : Mem → Prop) : Prop where
  ex : ∃ m', cMapUpdate P m ty x k v = .mem undefC m' ∧ Q m'
structure MsW (P : Program) (m : Mem) (ty : TypeId) (l c : CV) (Q : CV → Mem → Prop) : Prop where
  ex : ∃ v m', cMakeSlice P m.nxt m ty l c = .mem v m' ∧ Q v m'
structure UsW (P : Program) (m : Mem) (ty : TypeId) (p n : CV) (Q : CV → Mem → Prop) : Prop where
  ex : ∃ v m', cUnsafeStr P m ty p n = .mem v m' ∧ Q v m'
/-- A string's bytes, as a slice. -/
structure SbW (P : Program) (m : Mem) (el : TypeId) (s : List Nat) (Q : CV → Mem → Prop) : Prop where
  ex : P.underlying el = some (.int .u8) ∧ s.length ≤ 1000000 ∧ ∀ a m', New m a (.opn el 1 (s.map fun b => .int .u8 (.ofNat (b % 256)))) m' → Q (.opn a 0 s.length) m'

abbrev KV := CV → Mem → Prop
noncomputable def outK (K : CV → Prop) : COut → Prop
  | .val v => forceCV v K
  | _ => False
noncomputable def gbN (s : List Nat) (i : Int) : Int := ((s.getD i.toNat 0 % 256 : Nat) : Int)
def subN (s : List Nat) (a b : Int) : List Nat := (s.drop a.toNat).take (b.toNat - a.toNat)
def sBnd (x : Option CV) (d : Int) : Option Int :=
  match x with
  | none => some d
  | some (.int _ n) => some n
  | some _ => none
def fa : CV → Nat → CV
  | .ptr t o, k => .ptr t (o + k)
  | x, _ => x
def IsPtr (p : CV) : Prop := ∃ t o, p = .ptr t o
theorem isPtr (t o : Nat) : IsPtr (.ptr t o) := ⟨t, o, rfl⟩
def NotNil (v : CV) : Prop := fNil ⟨0, .nil⟩ v = .val v

/-- Numbers of one kind. -/
noncomputable def eInt2 (c : ECfg) (op : BinOp) (k : IntKind) (a b : Int) (K : CV → Prop) : Prop :=
  match op with
  | .add => match c.wrap with
    | true => K (.int k (k.wrap (a + b)))
    | false => inK k (a + b) ∧ K (.int k (a + b))
  | .sub => match c.wrap with
    | true => K (.int k (k.wrap (a - b)))
    | false => inK k (a - b) ∧ K (.int k (a - b))
  | .mul => match c.wrap with
    | true => K (.int k (k.wrap (a * b)))
    | false => inK k (a * b) ∧ K (.int k (a * b))
  | .quo => (b ≠ 0 ∧ inK k (a.tdiv b)) ∧ K (.int k (a.tdiv b))
  | .rem => b ≠ 0 ∧ K (.int k (a.tmod b))
  | .and => K (.int k (b2 .and k a b))
  | .or => K (.int k (b2 .or k a b))
  | .xor => K (.int k (b2 .xor k a b))
  | .andNot => K (.int k (b2 .andNot k a b))
  | .eql => K (.bool (a == b))
  | .neq => K (.bool (a != b))
  | .lss => K (.bool (decide (a < b)))
  | .leq => K (.bool (decide (a ≤ b)))
  | .gtr => K (.bool (decide (a > b)))
  | .geq => K (.bool (decide (a ≥ b)))
  | _ => False
noncomputable def eInt (c : ECfg) (op : BinOp) (k k' : IntKind) (a b : Int) (K : CV → Prop) : Prop :=
  match op with
  | .shl => 0 ≤ b ∧ K (.int k (k.wrap (a * 2 ^ (min b.toNat k.bits))))
  | .shr => 0 ≤ b ∧ K (.int k (a.fdiv (2 ^ (min b.toNat k.bits))))
  | _ => match kEq k k' with
    | false => False
    | true => eInt2 c op k a b K
/-- Bytes are below 256. -/
def Byt (s : List Nat) : Prop := ∀ b ∈ s, b < 256
noncomputable def eStr (op : BinOp) (a b : List Nat) (K : CV → Prop) : Prop :=
  match op with
  | .add => a.length + b.length ≤ 1000000 ∧ K (.str (a ++ b))
  | .eql => (Byt a ∧ Byt b) ∧ K (.bool (a == b))
  | .neq => (Byt a ∧ Byt b) ∧ K (.bool (!(a == b)))
  | .lss => K (.bool (ltL a b))
  | .leq => K (.bool (ltL a b || beqL a b))
  | .gtr => K (.bool (!(ltL a b || beqL a b)))
  | .geq => K (.bool (!ltL a b))
  | _ => False
noncomputable def eBin (P : Program) (c : ECfg) (lit : Bool) (op : BinOp) (t : TypeId) (x y : CV) (K : CV → Prop) : Prop :=
  match P.underlying t with
  | some (.int _) => match x, y with
    | .int k a, .int k' b => eInt c op k k' a b K
    | _, _ => False
  | some .string => match x, y with
    | .str a, .str b => eStr op a b K
    | _, _ => False
  | some .bool => match x, y with
    | .bool a, .bool b => match op with
      | .eql => K (.bool (a == b))
      | .neq => K (.bool (!(a == b)))
      | _ => False
    | _, _ => False
  | _ => match op with
    | .eql => (∀ k n, x ≠ .int k n) ∧ (∀ s, x ≠ .str s) ∧ (∀ a b c d, x ≠ .res a b c d) ∧ ∃ b, EqV P lit false t x y b ∧ K (.bool b)
    | .neq => (∀ k n, x ≠ .int k n) ∧ (∀ s, x ≠ .str s) ∧ (∀ a b c d, x ≠ .res a b c d) ∧ ∃ b, EqV P lit true t x y b ∧ K (.bool b)
    | _ => False
noncomputable def eUn (c : ECfg) (op : UnOp) (x : CV) (K : CV → Prop) : Prop :=
  match op, x with
  | .not, .bool b => K (.bool (!b))
  | .neg, .int k n => match c.wrap with
    | true => K (.int k (k.wrap (0 - n)))
    | false => inK k (-n) ∧ K (.int k (-n))
  | _, _ => False
noncomputable def eConv (P : Program) (c : ECfg) (m : Mem) (src dst : TypeId) (x : CV) (K : KV) : Prop :=
  match P.underlying src with
  | none => False
  | some (.slice el) => match P.underlying dst, P.underlying el with
    | some .string, some (.int .u8) => ∃ s, BStr m x s ∧ K (.str s) m
    | _, _ => False
  | some sd => match P.underlying dst with
    | some (.int k) => match x with
      | .int _ n => match c.wrap with
        | true => K (.int k (k.wrap n)) m
        | false => inK k n ∧ K (.int k n) m
      | _ => False
    | some .string => match sd, x with
      | .string, .str s => K (.str s) m
      | _, _ => False
    | some (.slice el) => match sd, x with
      | .string, .str s => SbW P m el s K
      | _, _ => False
    | _ => False
noncomputable def eSlice (P : Program) (m : Mem) (ty : TypeId) (x : CV) (lo hi mx : Option CV) (K : CV → Prop) : Prop :=
  match mx with
  | some _ => False
  | none => match P.underlying ty with
    | some .string => match x with
      | .str s => match sBnd lo 0, sBnd hi s.length with
        | some a, some b => (0 ≤ a ∧ a ≤ b ∧ b ≤ s.length) ∧ K (.str (subN s a b))
        | _, _ => False
      | _ => False
    | _ => ∃ v, Sl P m ty x lo hi v ∧ K v
noncomputable def eIndex (P : Program) (ty : TypeId) (x i : CV) (K : CV → Prop) : Prop :=
  match P.underlying ty with
  | some .string => match x, i with
    | .str s, .int _ n => (0 ≤ n ∧ n < s.length) ∧ K (.int .u8 (gbN s n))
    | _, _ => False
  | _ => ∃ v, Ix P ty x i v ∧ K v
noncomputable def eLen (P : Program) (m : Mem) (ty : TypeId) (x : CV) (K : CV → Prop) : Prop :=
  match P.underlying ty with
  | some .string => match x with
    | .str s => K (.int .i64 s.length)
    | _ => False
  | _ => ∃ n : Nat, Ln P m ty x n ∧ K (.int .i64 n)
noncomputable def eFieldAddr (P : Program) (s : TypeId) (x : CV) (f : Nat) (K : CV → Prop) : Prop :=
  match P.underlying s with
  | some (.struct fs) => match nth fs.toList f with
    | some fd => match P.info? fd.type with
      | some i => match i.size with
        | 0 => False
        | _ + 1 => IsPtr x ∧ K (fa x fd.offset)
      | none => False
    | none => False
  | _ => False
noncomputable def eNew (m : Mem) (ty : TypeId) (cs : List CV) (K : KV) : Prop :=
  match cs.all one with
  | true => forceL cs fun cs => ∀ a m', New m a (.cells ty cs) m' → K (.ptr a 0) m'
  | false => False
noncomputable def eMinMax (mx : Bool) (l : List CV) (K : CV → Prop) : Prop :=
  match l with
  | [.int k a, .int k' b] => match kEq k k' with
    | true => match mx with
      | true => K (.int k (max a b))
      | false => K (.int k (min a b))
    | false => False
  | _ => False
noncomputable def eBuildSlice (P : Program) (m : Mem) (t : TypeId) (len : Nat) (parts : List (Nat × CV)) (K : KV) : Prop :=
  match P.underlying t with
  | some (.slice elem) => match P.info? elem, zeroC P elem with
    | some i, some z => match Nat.blt 0 i.size && (Nat.ble (len * i.size) 100000 && Nat.beq z.length i.size) with
      | true => match fillC (fun k => some (k * i.size, i.size)) (rep z len) parts with
        | some cs => forceL cs fun cs => match cs.all one with
          | true => ∀ a m', New m a (.cells elem cs) m' → K (.slc a 0 len len) m'
          | false => False
        | none => False
      | false => False
    | _, _ => False
  | _ => False

/-- An operation. Kp: it panics. -/
noncomputable def eop (P : Program) (X : Ext) (c : ECfg) (op : Op) (S : ST) (m : Mem) (K Kp : KV) : Prop :=
  match op with
  | .move x => evK S x fun v => K v m
  | .assign x => evK S x fun v => K v m
  | .pick b x y => evK S b fun b => match b with
    | .bool b => splitB b (evK S x fun v => K v m) (evK S y fun v => K v m)
    | _ => False
  | .alloc e => match zeroV P e with
    | some z => match cvCells z with
      | some cs => eNew m e cs K
      | none => False
    | none => False
  | .box e x => evK S x fun v => match cvCells v with
    | some cs => eNew m e cs K
    | none => False
  | .build ty ps => evPK S ps.toList fun ps => outK (fun v => K v m) (cBuild P ty ps)
  | .buildSlice ty n ps => evPK S ps.toList fun ps => eBuildSlice P m ty n ps K
  | .load ty a => evK S a fun p => ∃ v, Ld P m ty p v ∧ K v m
  | .store ty a x => evK S a fun p => evK S x fun v => StW P m ty p v fun m' => K undefC m'
  | .nilCheck x => evK S x fun v => NotNil v ∧ K v m
  | .binOp op ty x y _ => evK S x fun a => evK S y fun b => eBin P c (litO x || litO y) op ty a b fun v => K v m
  | .unOp op _ x => evK S x fun v => eUn c op v fun v => K v m
  | .convert s d x => evK S x fun v => eConv P c m s d v K
  | .makeInterface ty x => evK S x fun v => outK (fun v => K v m) (fIface P ty m v)
  | .makeFunc fn a b => match fn with
    | .func f => evLK S a.toList fun a => evLK S b.toList fun b => K (.fn f a b) m
    | _ => False
  | .makeMap _ r => match r with
    | none => ∀ a m', New m a (.map [] 0) m' → K (.map a) m'
    | some _ => False
  | .makeSlice ty l c => evK S l fun l => evK S c fun c => MsW P m ty l c K
  | .slice ty x lo hi mx => evK S x fun x => evOK S lo fun lo => evOK S hi fun hi => evOK S mx fun mx => eSlice P m ty x lo hi mx fun v => K v m
  | .fieldAddr ty x f => evK S x fun x => eFieldAddr P ty x f fun v => K v m
  | .field ty x f => evK S x fun v => outK (fun v => K v m) (cField P ty v f)
  | .indexAddr ty x i => evK S x fun x => evK S i fun i => ∃ p, IxA P m ty x i p ∧ K p m
  | .index ty x i => evK S x fun x => evK S i fun i => eIndex P ty x i fun v => K v m
  | .lookup ty x k ok => evK S x fun x => evK S k fun k => ∃ v, Lk P m ty x k ok v ∧ K v m
  | .mapUpdate ty x k v => evK S x fun x => evK S k fun k => evK S v fun v => MuW P m ty x k v fun m' => K undefC m'
  | .insert ty x k v => evK S x fun x => evK S k fun k => evK S v fun v => MuW P m ty x k v fun m' => K undefC m'
  | .typeAssert x _ a ok => evK S x fun v => outK (fun v => K v m) (cTypeAssert P v a ok)
  | .extract x i => evK S x fun v => outK (fun v => K v m) (fExtract i m v)
  | .panic x => evK S x fun v => match v with
    | .ifc a b => Kp (.ifc a b) m
    | _ => False
  | .call cl => evLK S cl.args.toList fun args => match cl.callee with
    | .value f => evK S f fun f => match f with
      | .fn g a b => ECall P X g (a ++ args ++ b) m K Kp
      | .yld l => EYield P X l args m K
      | f => EVal P X f args m K Kp
    | .builtin b => match b with
      | .len => match args, cl.argTypes.toList with
        | [x], [ty] => eLen P m ty x fun v => K v m
        | _, _ => False
      | .append => match args, cl.argTypes.toList with
        | [x, y], [t1, t2] => match Nat.beq t1 t2 with
          | true => ApW P m t1 x y K
          | false => False
        | _, _ => False
      | .copy => match args, cl.argTypes.toList with
        | [x, y], [t1, t2] => CpW P m t1 t2 x y K
        | _, _ => False
      | .max => eMinMax true args fun v => K v m
      | .min => eMinMax false args fun v => K v m
      | .unsafeString => match args, cl.argTypes.toList with
        | [x, y], [pt, _] => UsW P m pt x y K
        | _, _ => False
      | _ => False
    | _ => False
  | _ => False

/-- What an operation does to the run. -/
inductive OutR where
  | go (v : CV) (m : Mem)
  | pan (v : CV) (m : Mem)
noncomputable def OutR.is (o : OutR) (k : KK) (dst : Option Tmp) (t : Tmps) (ds : List CDef) : Res := match o with
  | .go v m => goOn k dst v t ds m
  | .pan v m => .ex (.panic v) t ds m
def OutR.Q (K Kp : KV) : OutR → Prop
  | .go v m => K v m
  | .pan v m => Kp v m
end Go.Cx

/-
  Reasoning about runs of the concrete evaluator. Part c: the executor's operations are sound.
-/
set_option linter.unusedSimpArgs false
set_option linter.unusedVariables false
namespace Go.Cx
open Go

def Good (P : Program) (X : Ext) (op : Op) (m : Mem) (t : Tmps) (K Kp : KV) : Prop :=
  ∃ o : OutR, Evt P X (fun ih => ∀ r k dst ds, after ih r k dst t ds m (cop P op m t) = o.is k dst t ds) ∧ o.Q K Kp
section
variable {P : Program} {X : Ext} {op : Op} {m : Mem} {t : Tmps} {S : ST} {K Kp : KV} {c : ECfg}
theorem good_val {v : CV} (h : cop P op m t = .val v) (hk : K v m) : Good P X op m t K Kp := ⟨.go v m, .all fun ih r k dst ds => by rw [h]; rfl, hk⟩
theorem good_mem {v : CV} {m' : Mem} (h : cop P op m t = .mem v m') (hk : K v m') : Good P X op m t K Kp := ⟨.go v m', .all fun ih r k dst ds => by rw [h]; rfl, hk⟩
theorem good_pan {v : CV} (h : cop P op m t = .panic v) (hk : Kp v m) : Good P X op m t K Kp := ⟨.pan v m, .all fun ih r k dst ds => by rw [h]; rfl, hk⟩
theorem good_call {f : FuncId} {args : List CV} (h : cop P op m t = .call f args) (hk : ECall P X f args m K Kp) : Good P X op m t K Kp := by
  obtain ⟨R, h1, h2⟩ := hk.ex
  cases R with
  | ret v m' => exact ⟨.go v m', h1.mono fun ih he r k dst ds => by rw [h]; simp only [after, he, backC]; rfl, h2⟩
  | pan v m' => exact ⟨.pan v m', h1.mono fun ih he r k dst ds => by rw [h]; simp only [after, he, backC]; rfl, h2⟩
  | no w => exact h2.elim
  | ex e t ds m' => exact h2.elim
theorem good_yield {l : Nat} {args : List CV} (h : cop P op m t = .yield l args) (hk : EYield P X l args m K) : Good P X op m t K Kp := by
  obtain ⟨v, m', h1, h2⟩ := hk.ex
  exact ⟨.go v m', h1.mono fun ih he r k dst ds => by rw [h]; simp only [after, he, backY]; rfl, h2⟩
theorem outK_ok {K : CV → Prop} {out : COut} (h : outK K out) : ∃ v, out = .val v ∧ K v := by
  unfold outK at h
  split at h
  · rename_i v; rw [forceCV_eq] at h; exact ⟨v, rfl, h⟩
  · exact h.elim
theorem un1_val {f : Mem → CV → COut} {x : Operand} {v : CV} (h : evO t x = some v) : un1 f x m t = f m v := by
  unfold un1; rw [h]
theorem bin2_val {f : Mem → CV → CV → COut} {x y : Operand} {v u : CV} (h : evO t x = some v) (h' : evO t y = some u) : bin2 f x y m t = f m v u := by
  unfold bin2; rw [h, h']
theorem tri3_val {f : Mem → CV → CV → CV → COut} {x y z : Operand} {v u w : CV} (h : evO t x = some v) (h' : evO t y = some u) (h'' : evO t z = some w) : tri3 f x y z m t = f m v u w := by
  unfold tri3; rw [h]; exact bin2_val h' h''

theorem cop_un {f : Mem → CV → COut} {x : Operand} {v : CV} {out : COut} (hc : cop P op m t = un1 f x m t) (h : evO t x = some v) (hf : f m v = out) : cop P op m t = out := by rw [hc, un1_val h, hf]
theorem cop_bin {f : Mem → CV → CV → COut} {x y : Operand} {v u : CV} {out : COut} (hc : cop P op m t = bin2 f x y m t) (h : evO t x = some v) (h' : evO t y = some u) (hf : f m v u = out) : cop P op m t = out := by rw [hc, bin2_val h h', hf]
theorem cop_tri {f : Mem → CV → CV → CV → COut} {x y z : Operand} {v u w : CV} {out : COut} (hc : cop P op m t = tri3 f x y z m t) (h : evO t x = some v) (h' : evO t y = some u) (h'' : evO t z = some w) (hf : f m v u w = out) : cop P op m t = out := by rw [hc, tri3_val h h' h'', hf]
theorem kEq_of {k k' : IntKind} (h : kEq k k' = true) : k = k' := kEq_true h
theorem same_self (f : IntKind → Int → Int → COut) (k : IntKind) (a b : Int) : same f k k a b = f k a b := by
  unfold same; cases k <;> rfl
theorem eInt2_ok {k : IntKind} {a b : Int} {o : BinOp} {K : CV → Prop} (h : eInt2 c o k a b K) : ∃ v, intOp o k k a b = .val v ∧ K v := by
  unfold eInt2 at h
  cases o <;> simp only at h
  case add =>
    refine ⟨.int k (k.wrap (a + b)), ?_, ?_⟩
    · show same binAdd k k a b = _
      rw [same_self]; simp only [binAdd, wrapC_eq]
    · split at h
      · exact h
      · rw [wrap_in h.1]; exact h.2
  case sub =>
    refine ⟨.int k (k.wrap (a - b)), ?_, ?_⟩
    · show same binSub k k a b = _
      rw [same_self]; simp only [binSub, wrapC_eq]
    · split at h
      · exact h
      · rw [wrap_in h.1]; exact h.2
  case mul =>
    refine ⟨.int k (k.wrap (a * b)), ?_, ?_⟩
    · show same binMul k k a b = _
      rw [same_self]; simp only [binMul, wrapC_eq]
    · split at h
      · exact h
      · rw [wrap_in h.1]; exact h.2
  case quo =>
    refine ⟨.int k (a.tdiv b), ?_, h.2⟩
    show same binQuo k k a b = _
    rw [same_self]; unfold binQuo
    rw [ieq_eq, show (b == 0) = false from by simpa using h.1.1, wrapC_eq, wrap_in h.1.2]
  case rem =>
    refine ⟨.int k (a.tmod b), ?_, h.2⟩
    show same binRem k k a b = _
    rw [same_self]; unfold binRem
    rw [ieq_eq, show (b == 0) = false from by simpa using h.1]
  case and => exact ⟨_, same_self binAnd k a b, h⟩
  case or => exact ⟨_, same_self binOr k a b, h⟩
  case xor => exact ⟨_, same_self binXor k a b, h⟩
  case andNot => exact ⟨_, same_self binAndNot k a b, h⟩
  case eql =>
    refine ⟨.bool (a == b), ?_, h⟩
    show same binEql k k a b = _
    rw [same_self]; simp only [binEql, ieq_eq]
  case neq =>
    refine ⟨.bool (a != b), ?_, h⟩
    show same binNeq k k a b = _
    rw [same_self]; simp only [binNeq, ieq_eq]; rfl
  case lss =>
    refine ⟨_, ?_, h⟩
    show same binLss k k a b = _
    rw [same_self]; simp only [binLss, ilt_eq]
  case leq =>
    refine ⟨_, ?_, h⟩
    show same binLeq k k a b = _
    rw [same_self]; simp only [binLeq, ilt_eq, COut.val.injEq, CV.bool.injEq]
    by_cases hq : a ≤ b
    · simp [hq, Int.not_lt.2 hq]
    · simp [hq, Int.not_le.1 hq]
  case gtr =>
    refine ⟨_, ?_, h⟩
    show same binGtr k k a b = _
    rw [same_self]; simp only [binGtr, ilt_eq]
  case geq =>
    refine ⟨_, ?_, h⟩
    show same binGeq k k a b = _
    rw [same_self]; simp only [binGeq, ilt_eq, COut.val.injEq, CV.bool.injEq]
    by_cases hq : b ≤ a
    · simp [hq, Int.not_lt.2 hq]
    · simp [hq, Int.not_le.1 hq]
theorem eInt_ok {k k' : IntKind} {a b : Int} {o : BinOp} {K : CV → Prop} (h : eInt c o k k' a b K) : ∃ v, intOp o k k' a b = .val v ∧ K v := by
  unfold eInt at h
  split at h
  · refine ⟨_, ?_, h.2⟩
    show binShl k a b = _
    unfold binShl
    rw [ilt_eq, decide_eq_false (by omega)]
  · refine ⟨_, ?_, h.2⟩
    show binShr k a b = _
    unfold binShr
    rw [ilt_eq, decide_eq_false (by omega)]
  · split at h
    · exact h.elim
    · rename_i hk
      obtain rfl := kEq_of hk
      exact eInt2_ok h

theorem beqL_byt : ∀ {a b : List Nat}, Byt a → Byt b → beqL a b = (a == b)
  | [], [], _, _ => rfl
  | [], _ :: _, _, _ => rfl
  | _ :: _, [], _, _ => rfl
  | x :: a, y :: b, ha, hb => by
    have h1 := ha x (List.mem_cons_self ..)
    have h2 := hb y (List.mem_cons_self ..)
    have ih := beqL_byt (a := a) (b := b) (fun z hz => ha z (List.mem_cons_of_mem _ hz)) (fun z hz => hb z (List.mem_cons_of_mem _ hz))
    unfold beqL
    rw [Nat.mod_eq_of_lt h1, Nat.mod_eq_of_lt h2]
    by_cases hq : x = y
    · subst hq; simp [ih]
    · rw [beqF hq]; simp [hq]
theorem eStr_ok {a b : List Nat} {o : BinOp} {K : CV → Prop} (h : eStr o a b K) : ∃ v, strOp o a b = .val v ∧ K v := by
  unfold eStr at h
  cases o
  case add =>
    refine ⟨_, ?_, h.2⟩
    show strAdd a b = _
    unfold strAdd
    rw [Nat.ble_eq_true_of_le h.1]
  case eql => exact ⟨_, by show strEql a b = _; unfold strEql; rw [beqL_byt h.1.1 h.1.2], h.2⟩
  case neq => exact ⟨_, by show strNeq a b = _; unfold strNeq; rw [beqL_byt h.1.1 h.1.2], h.2⟩
  case lss => exact ⟨_, rfl, h⟩
  case leq => exact ⟨_, rfl, h⟩
  case gtr => exact ⟨_, rfl, h⟩
  case geq => exact ⟨_, rfl, h⟩
  all_goals exact h.elim
theorem other_bin {lit : Bool} {o : BinOp} {ty : TypeId} {x y : CV} (h1 : ∀ k n, x ≠ .int k n) (h2 : ∀ s, x ≠ .str s) (h3 : ∀ a b c d, x ≠ .res a b c d) : cBin P lit o ty x y = otherOp P lit o ty x y := by
  cases x <;> first | rfl | (exact absurd rfl (h1 _ _)) | (exact absurd rfl (h2 _)) | (exact absurd rfl (h3 _ _ _ _))
theorem eBin_ok {lit : Bool} {o : BinOp} {ty : TypeId} {x y : CV} {K : CV → Prop} (h : eBin P c lit o ty x y K) : ∃ v, cBin P lit o ty x y = .val v ∧ K v := by
  unfold eBin at h
  split at h
  · split at h
    · exact eInt_ok h
    · exact h.elim
  · split at h
    · exact eStr_ok h
    · exact h.elim
  · rename_i hu
    split at h
    · rename_i a b
      have hq : ∀ neg, cEq P lit neg ty (.bool a) (.bool b) = .val (.bool (match neg with | true => !(a == b) | false => a == b)) := fun neg => by
        unfold cEq
        simp only [eqKind, ceq, hu]
        cases neg <;> cases a <;> cases b <;> rfl
      split at h
      · exact ⟨_, hq false, h⟩
      · exact ⟨_, hq true, h⟩
      · exact h.elim
    · exact h.elim
  · split at h
    · obtain ⟨h1, h2, h3, b, hb, hk⟩ := h
      exact ⟨_, by rw [other_bin h1 h2 h3]; exact hb.eq, hk⟩
    · obtain ⟨h1, h2, h3, b, hb, hk⟩ := h
      exact ⟨_, by rw [other_bin h1 h2 h3]; exact hb.eq, hk⟩
    · exact h.elim
theorem eUn_ok {o : UnOp} {x : CV} {K : CV → Prop} (h : eUn c o x K) : ∃ v, cUn o x = .val v ∧ K v := by
  unfold eUn at h
  split at h
  · exact ⟨_, rfl, h⟩
  · refine ⟨_, rfl, ?_⟩
    rename_i k n
    rw [wrapC_eq]
    split at h
    · exact h
    · rw [show (0 : Int) - n = -n by omega, wrap_in h.1]; exact h.2
  · exact h.elim

theorem eNew_ok {ty : TypeId} {x : CV} {cs : List CV} (hx : cvCells x = some cs) (h : eNew m ty cs K) : ∃ v m', cBox m.nxt m ty x = .mem v m' ∧ K v m' := by
  unfold eNew at h
  split at h
  · rename_i ha
    rw [forceL_eq] at h
    refine ⟨.ptr m.nxt 0, _, ?_, h m.nxt _ (New.at m _)⟩
    unfold cBox; simp only [hx, ha]
  · exact h.elim
theorem eSlice_ok {ty : TypeId} {x : CV} {lo hi mx : Option CV} {K : CV → Prop} (h : eSlice P m ty x lo hi mx K) : ∃ v, cSlice P m ty x lo hi mx = .val v ∧ K v := by
  unfold eSlice at h
  split at h
  · exact h.elim
  split at h
  · rename_i hu
    split at h
    · rename_i s
      split at h
      · rename_i a b ha hb
        obtain ⟨⟨h0, h1, h2⟩, hk⟩ := h
        refine ⟨_, ?_, hk⟩
        have e1 : bound lo 0 = some a.toNat := by
          unfold sBnd at ha; unfold bound
          cases lo with
          | none => simp at ha; subst ha; rfl
          | some x =>
            cases x <;> simp at ha
            subst ha
            obtain ⟨n, hn⟩ := Int.eq_ofNat_of_zero_le h0
            subst hn; rfl
        have e2 : bound hi s.length = some b.toNat := by
          unfold sBnd at hb; unfold bound
          cases hi with
          | none => simp at hb; subst hb; simp
          | some x =>
            cases x <;> simp at hb
            subst hb
            obtain ⟨n, hn⟩ := Int.eq_ofNat_of_zero_le (show 0 ≤ _ by exact Int.le_trans h0 h1)
            subst hn; rfl
        unfold cSlice
        simp only [hu, slStr, e1, e2]
        rw [Nat.ble_eq_true_of_le (by omega), Nat.ble_eq_true_of_le (by omega)]
        rfl
      · exact h.elim
    · exact h.elim
  · obtain ⟨v, hv, hk⟩ := h
    exact ⟨v, hv.eq, hk⟩
theorem eIndex_ok {ty : TypeId} {x i : CV} {K : CV → Prop} (h : eIndex P ty x i K) : ∃ v, cIndex P ty x i = .val v ∧ K v := by
  unfold eIndex at h
  split at h
  · rename_i hu
    split at h
    · rename_i s k n
      obtain ⟨⟨h0, h1⟩, hk⟩ := h
      obtain ⟨j, rfl⟩ := Int.eq_ofNat_of_zero_le h0
      refine ⟨_, ?_, hk⟩
      unfold cIndex
      have hj : j < s.length := by omega
      have : nth s j = some s[j] := by rw [nth_eq]; simp [hj]
      simp only [hu, ixStr]
      rw [show ((j : Nat) : Int) = Int.ofNat j from rfl]
      simp only [this, gbN, Int.ofNat_eq_natCast, Int.toNat_natCast, List.getD_eq_getElem?_getD, List.getElem?_eq_getElem hj, Option.getD_some]
    · exact h.elim
  · obtain ⟨v, hv, hk⟩ := h
    exact ⟨v, hv.eq, hk⟩
theorem eLen_ok {ty : TypeId} {x : CV} {K : CV → Prop} (h : eLen P m ty x K) : ∃ v, cLen P m ty x = .val v ∧ K v := by
  unfold eLen at h
  split at h
  · rename_i hu
    split at h
    · exact ⟨_, by unfold cLen; simp only [hu, lenStr]; rfl, h⟩
    · exact h.elim
  · obtain ⟨n, hn, hk⟩ := h
    exact ⟨_, hn.eq, hk⟩
theorem eFieldAddr_ok {s : TypeId} {x : CV} {f : Nat} {K : CV → Prop} (h : eFieldAddr P s x f K) : ∃ v, cFieldAddr P s x f = .val v ∧ K v := by
  unfold eFieldAddr at h
  split at h
  · rename_i fs hu
    split at h
    · rename_i fd hf
      split at h
      · rename_i i hi
        split at h
        · exact h.elim
        · rename_i n hn
          obtain ⟨⟨tg, o, rfl⟩, hk⟩ := h
          refine ⟨_, ?_, hk⟩
          unfold cFieldAddr
          simp only [hu, hf, hi, hn]
          rfl
      · exact h.elim
    · exact h.elim
  · exact h.elim
theorem eMinMax_ok {mx : Bool} {l : List CV} {K : CV → Prop} (h : eMinMax mx l K) : ∃ v, cMinMax mx l = .val v ∧ K v := by
  unfold eMinMax at h
  split at h
  · rename_i k a k' b
    split at h
    · rename_i hk
      cases mx with
      | true =>
        refine ⟨_, ?_, h⟩
        simp only [cMinMax, hk, ilt_eq]
        by_cases hq : a < b
        · simp only [hq, decide_true]; rw [show max a b = b by omega]
        · simp only [hq, decide_false]; rw [show max a b = a by omega]
      | false =>
        refine ⟨_, ?_, h⟩
        simp only [cMinMax, hk, ilt_eq]
        by_cases hq : b < a
        · simp only [hq, decide_true]; rw [show min a b = b by omega]
        · simp only [hq, decide_false]; rw [show min a b = a by omega]
    · exact h.elim
  · exact h.elim
theorem eBuildSlice_ok {ty : TypeId} {n : Nat} {ps : List (Nat × CV)} (h : eBuildSlice P m ty n ps K) : ∃ v m', cBuildSlice P m.nxt m ty n ps = .mem v m' ∧ K v m' := by
  unfold eBuildSlice at h
  split at h
  · rename_i elem hu
    split at h
    · rename_i i z hi hz
      split at h
      · rename_i hb
        split at h
        · rename_i cs hc
          rw [forceL_eq] at h
          split at h
          · rename_i ha
            refine ⟨_, _, ?_, h m.nxt _ (New.at m _)⟩
            unfold cBuildSlice
            simp only [hu, hi, hz, hb, hc, ha]
          · exact h.elim
        · exact h.elim
      · exact h.elim
    · exact h.elim
  · exact h.elim
theorem conv_int {s d : TypeId} {T : Nat} {sd : TypeDesc} {k k' : IntKind} {n : Int} (hs : P.underlying s = some sd) (hd : P.underlying d = some (.int k)) : cConv P T m s d (.int k' n) = .val (.int k (wrapC k n)) := by
  unfold cConv; rw [hs, hd]
theorem conv_str {s d : TypeId} {T : Nat} {l : List Nat} (hs : P.underlying s = some .string) (hd : P.underlying d = some .string) : cConv P T m s d (.str l) = .val (.str l) := by
  unfold cConv; rw [hs, hd]
theorem conv_bytes {s d el : TypeId} {T : Nat} {l : List Nat} (hs : P.underlying s = some .string) (hd : P.underlying d = some (.slice el)) (he : P.underlying el = some (.int .u8)) (hl : l.length ≤ 1000000) : cConv P T m s d (.str l) = .mem (.opn T 0 l.length) (m.newAt T (.opn el 1 (l.map fun b => .int .u8 (.ofNat (b % 256))))) := by
  unfold cConv; rw [hs, hd]
  simp only [he, Nat.ble_eq_true_of_le hl]
theorem conv_back {s d el : TypeId} {T : Nat} {x : CV} (hs : P.underlying s = some (.slice el)) (hd : P.underlying d = some .string) (he : P.underlying el = some (.int .u8)) (hx : ∀ s, x ≠ .str s) : cConv P T m s d x = toStr m x := by
  unfold cConv; rw [hs, hd]
  cases x <;> first | exact absurd rfl (hx _) | simp only [he]
theorem eConv_ok {s d : TypeId} {x : CV} (h : eConv P c m s d x K) : (∃ v, cConv P m.nxt m s d x = .val v ∧ K v m) ∨ ∃ v m', cConv P m.nxt m s d x = .mem v m' ∧ K v m' := by
  unfold eConv at h
  split at h
  · exact h.elim
  · rename_i el hs
    split at h
    · rename_i hd he
      obtain ⟨str, hst, hk⟩ := h
      refine .inl ⟨_, ?_, hk⟩
      rw [conv_back hs hd he]
      · exact hst.eq
      · rintro s' rfl
        have := hst.eq
        simp [toStr, elems] at this
    · exact h.elim
  · rename_i sd hs hn
    split at h
    · rename_i k hd
      split at h
      · rename_i k' n
        refine .inl ⟨.int k (k.wrap n), ?_, ?_⟩
        · rw [conv_int hn hd, wrapC_eq]
        · split at h
          · exact h
          · rw [wrap_in h.1]; exact h.2
      · exact h.elim
    · rename_i hd
      split at h
      · exact .inl ⟨_, conv_str hn hd, h⟩
      · exact h.elim
    · rename_i el hd
      split at h
      · rename_i str
        obtain ⟨h1, h2, h3⟩ := h.ex
        exact .inr ⟨_, _, conv_bytes hn hd h1 h2, h3 m.nxt _ (New.at m _)⟩
      · exact h.elim
    · exact h.elim

theorem eop_ok (hd : ∀ c, op ≠ .defer c) (h : eop P X c op S m K Kp) (hS : SSat S t) : Good P X op m t K Kp := by
  cases op <;> simp only [eop] at h
  case move x =>
    obtain ⟨v, hv, hk⟩ := evK_ok hS h
    exact good_val (cop_un (f := fMove) rfl hv rfl) hk
  case assign x =>
    obtain ⟨v, hv, hk⟩ := evK_ok hS h
    exact good_val (cop_un (f := fMove) rfl hv rfl) hk
  case pick b x y =>
    obtain ⟨v, hv, hk⟩ := evK_ok hS h
    split at hk
    · rename_i bb
      cases bb with
      | true =>
        obtain ⟨u, hu, hk⟩ := evK_ok hS hk
        refine good_val ?_ hk
        show opPick b x y m t = _
        unfold opPick; simp only [hv]; exact un1_val hu
      | false =>
        obtain ⟨u, hu, hk⟩ := evK_ok hS hk
        refine good_val ?_ hk
        show opPick b x y m t = _
        unfold opPick; simp only [hv]; exact un1_val hu
    · exact hk.elim
  case alloc e =>
    split at h
    · rename_i z hz
      split at h
      · rename_i cs hc
        obtain ⟨v, m', hv, hk⟩ := eNew_ok hc h
        refine good_mem ?_ hk
        show opAlloc P m.nxt e m t = _
        unfold opAlloc; simp only [hz]; exact hv
      · exact h.elim
    · exact h.elim
  case box e x =>
    obtain ⟨v, hv, hk⟩ := evK_ok hS h
    split at hk
    · rename_i cs hc
      obtain ⟨u, m', hu, hk⟩ := eNew_ok hc hk
      exact good_mem (cop_un (f := fun m' v => cBox m.nxt m' e v) rfl hv hu) hk
    · exact hk.elim
  case build ty ps =>
    obtain ⟨vs, hvs, hk⟩ := evPK_ok hS h
    obtain ⟨v, hv, hk⟩ := outK_ok hk
    refine good_val ?_ hk
    show opBuild P ty ps m t = _
    unfold opBuild; simp only [hvs]; exact hv
  case buildSlice ty n ps =>
    obtain ⟨vs, hvs, hk⟩ := evPK_ok hS h
    obtain ⟨v, m', hv, hk⟩ := eBuildSlice_ok hk
    refine good_mem ?_ hk
    show opBuildSlice P m.nxt ty n ps m t = _
    unfold opBuildSlice; simp only [hvs]; exact hv
  case load ty a =>
    obtain ⟨p, hp, v, hv, hk⟩ := evK_ok hS h
    exact good_val (cop_un (f := fun m' v => cLoad P m' ty v) rfl hp hv.eq) hk
  case store ty a x =>
    obtain ⟨p, hp, hk⟩ := evK_ok hS h
    obtain ⟨v, hv, hk⟩ := evK_ok hS hk
    obtain ⟨m', h1, h2⟩ := hk.ex
    exact good_mem (cop_bin (f := fun m' a x => cStore P m' ty a x) rfl hp hv h1) h2
  case nilCheck x =>
    obtain ⟨v, hv, hn, hk⟩ := evK_ok hS h
    exact good_val (cop_un (f := fNil) rfl hv hn) hk
  case binOp op ty x y yt =>
    obtain ⟨a, ha, hk⟩ := evK_ok hS h
    obtain ⟨b, hb, hk⟩ := evK_ok hS hk
    obtain ⟨v, hv, hk⟩ := eBin_ok hk
    exact good_val (cop_bin (f := fun _ => cBin P (litO x || litO y) op ty) rfl ha hb hv) hk
  case unOp op ty x =>
    obtain ⟨a, ha, hk⟩ := evK_ok hS h
    obtain ⟨v, hv, hk⟩ := eUn_ok hk
    exact good_val (cop_un (f := fun _ => cUn op) rfl ha hv) hk
  case convert s d x =>
    obtain ⟨a, ha, hk⟩ := evK_ok hS h
    rcases eConv_ok hk with ⟨v, hv, hk⟩ | ⟨v, m', hv, hk⟩
    · exact good_val (cop_un (f := fun m' v => cConv P m.nxt m' s d v) rfl ha hv) hk
    · exact good_mem (cop_un (f := fun m' v => cConv P m.nxt m' s d v) rfl ha hv) hk
  case makeInterface ty x =>
    obtain ⟨a, ha, hk⟩ := evK_ok hS h
    obtain ⟨v, hv, hk⟩ := outK_ok hk
    exact good_val (cop_un (f := fIface P ty) rfl ha hv) hk
  case makeFunc fn a b =>
    split at h
    · rename_i f
      obtain ⟨x, hx, hk⟩ := evLK_ok hS h
      obtain ⟨y, hy, hk⟩ := evLK_ok hS hk
      refine good_val ?_ hk
      show opFunc (.func f) a b m t = _
      unfold opFunc; simp only [hx, hy]
    · exact h.elim
  case makeMap ty r =>
    cases r with
    | none => exact good_mem rfl (h m.nxt _ (New.at m _))
    | some r => exact h.elim
  case makeSlice ty l c =>
    obtain ⟨a, ha, hk⟩ := evK_ok hS h
    obtain ⟨b, hb, hk⟩ := evK_ok hS hk
    obtain ⟨v, m', h1, h2⟩ := hk.ex
    exact good_mem (cop_bin (f := fun m' l c => cMakeSlice P m.nxt m' ty l c) rfl ha hb h1) h2
  case slice ty x lo hi mx =>
    obtain ⟨a, ha, hk⟩ := evK_ok hS h
    obtain ⟨l, hl, hk⟩ := evOK_ok hS hk
    obtain ⟨u, hu, hk⟩ := evOK_ok hS hk
    obtain ⟨w, hw, hk⟩ := evOK_ok hS hk
    obtain ⟨v, hv, hk⟩ := eSlice_ok hk
    refine good_val ?_ hk
    show opSlice P ty x lo hi mx m t = _
    unfold opSlice; simp only [ha, hl, hu, hw]; exact hv
  case fieldAddr ty x f =>
    obtain ⟨a, ha, hk⟩ := evK_ok hS h
    obtain ⟨v, hv, hk⟩ := eFieldAddr_ok hk
    exact good_val (cop_un (f := fun _ v => cFieldAddr P ty v f) rfl ha hv) hk
  case field ty x f =>
    obtain ⟨a, ha, hk⟩ := evK_ok hS h
    obtain ⟨v, hv, hk⟩ := outK_ok hk
    exact good_val (cop_un (f := fun _ v => cField P ty v f) rfl ha hv) hk
  case indexAddr ty x i =>
    obtain ⟨a, ha, hk⟩ := evK_ok hS h
    obtain ⟨b, hb, p, hp, hk⟩ := evK_ok hS hk
    exact good_val (cop_bin (f := fun m' x i => cIndexAddr P m' ty x i) rfl ha hb hp.eq) hk
  case index ty x i =>
    obtain ⟨a, ha, hk⟩ := evK_ok hS h
    obtain ⟨b, hb, hk⟩ := evK_ok hS hk
    obtain ⟨v, hv, hk⟩ := eIndex_ok hk
    exact good_val (cop_bin (f := fun _ x i => cIndex P ty x i) rfl ha hb hv) hk
  case lookup ty x k ok =>
    obtain ⟨a, ha, hk⟩ := evK_ok hS h
    obtain ⟨b, hb, v, hv, hk⟩ := evK_ok hS hk
    exact good_val (cop_bin (f := fun m' x k => cLookup P m' ty x k ok) rfl ha hb hv.eq) hk
  case mapUpdate ty x k v =>
    obtain ⟨a, ha, hk⟩ := evK_ok hS h
    obtain ⟨b, hb, hk⟩ := evK_ok hS hk
    obtain ⟨d, hd, hk⟩ := evK_ok hS hk
    obtain ⟨m', h1, h2⟩ := hk.ex
    exact good_mem (cop_tri (f := fun m' x k v => cMapUpdate P m' ty x k v) rfl ha hb hd h1) h2
  case insert ty x k v =>
    obtain ⟨a, ha, hk⟩ := evK_ok hS h
    obtain ⟨b, hb, hk⟩ := evK_ok hS hk
    obtain ⟨d, hd, hk⟩ := evK_ok hS hk
    obtain ⟨m', h1, h2⟩ := hk.ex
    exact good_mem (cop_tri (f := fun m' x k v => cMapUpdate P m' ty x k v) rfl ha hb hd h1) h2
  case typeAssert x ty a ok =>
    obtain ⟨u, hu, hk⟩ := evK_ok hS h
    obtain ⟨v, hv, hk⟩ := outK_ok hk
    exact good_val (cop_un (f := fun _ v => cTypeAssert P v a ok) rfl hu hv) hk
  case extract x i =>
    obtain ⟨u, hu, hk⟩ := evK_ok hS h
    obtain ⟨v, hv, hk⟩ := outK_ok hk
    exact good_val (cop_un (f := fExtract i) rfl hu hv) hk
  case panic x =>
    obtain ⟨u, hu, hk⟩ := evK_ok hS h
    split at hk
    · exact good_pan (cop_un (f := fPanic) rfl hu rfl) hk
    · exact hk.elim
  case call cl =>
    obtain ⟨args, hargs, hk⟩ := evLK_ok hS h
    have hcop : cop P (.call cl) m t = cCallee P m.nxt cl.argTypes.toList cl.callee m t args := by
      show opCall P m.nxt cl m t = _
      unfold opCall; simp only [hargs]
    split at hk
    · rename_i f hf
      obtain ⟨u, hu, hk⟩ := evK_ok hS hk
      rw [hf] at hcop
      have hc2 : cop P (.call cl) m t = callV u args := by rw [hcop]; show callF f m t args = _; unfold callF; simp only [hu]
      split at hk
      · exact good_call hc2 hk
      · exact good_yield hc2 hk
      · unfold EVal at hk
        split at hk
        · rename_i hv; exact good_call (hc2.trans hv) hk
        · rename_i hv; exact good_yield (hc2.trans hv) hk
        · exact hk.elim
    · rename_i b hf
      rw [hf] at hcop
      split at hk
      · split at hk
        · rename_i x ty ht
          obtain ⟨v, hv, hk⟩ := eLen_ok hk
          refine good_val (hcop.trans ?_) hk
          rw [ht]; exact hv
        · exact hk.elim
      · split at hk
        · rename_i x y t1 t2 ht
          split at hk
          · rename_i hq
            obtain rfl := Nat.eq_of_beq_eq_true hq
            obtain ⟨v, m', h1, h2⟩ := hk.ex
            rw [ht] at hcop
            rcases h1 with h1 | ⟨h1, rfl⟩
            · exact good_mem (hcop.trans h1) h2
            · exact good_val (hcop.trans h1) h2
          · exact hk.elim
        · exact hk.elim
      · split at hk
        · rename_i x y t1 t2 ht
          obtain ⟨v, m', h1, h2⟩ := hk.ex
          rw [ht] at hcop
          rcases h1 with h1 | ⟨h1, rfl⟩
          · exact good_mem (hcop.trans h1) h2
          · exact good_val (hcop.trans h1) h2
        · exact hk.elim
      · obtain ⟨v, hv, hk⟩ := eMinMax_ok hk
        exact good_val (hcop.trans hv) hk
      · obtain ⟨v, hv, hk⟩ := eMinMax_ok hk
        exact good_val (hcop.trans hv) hk
      · split at hk
        · rename_i x y t1 t2 ht
          obtain ⟨v, m', h1, h2⟩ := hk.ex
          rw [ht] at hcop
          exact good_mem (hcop.trans h1) h2
        · exact hk.elim
      · exact hk.elim
    · exact hk.elim
end
end Go.Cx

/-
  Reasoning about runs of the concrete evaluator. Part d: the executor, code.
-/
set_option linter.unusedSimpArgs false
set_option linter.unusedVariables false
namespace Go.Cx
open Go

abbrev EK := CEx → ST → List CDef → Mem → Prop
abbrev EW := ST → List CDef → Mem → EK → Prop

/-- A value into its temporary; where the temporary is a guard, the two ways part here. -/
noncomputable def putG (gs : List Nat) (dst : Option Tmp) (v : CV) (S : ST) (K : ST → Prop) : Prop :=
  match dst with
  | none => K S
  | some d => match gs.contains d with
    | false => setK S d (some v) False K
    | true => match v with
      | .bool b => splitB b (setK S d (some (.bool true)) False K) (setK S d (some (.bool false)) False K)
      | v => setK S d (some v) False K
noncomputable def guardS (ops : List Oper) (S : ST) (j : Nat) : Option CV :=
  match nth ops j with
  | some o => match o.dst with
    | some d => sget S d
    | none => none
  | none => none
/-- The temporaries that some operation's guard asks. -/
def gsOf (ops : List Oper) : List Oper → List Nat
  | [] => []
  | o :: r => match o.guard with
    | some (j, _) => match ops[j]? with
      | some p => match p.dst with
        | some d => d :: gsOf ops r
        | none => gsOf ops r
      | none => gsOf ops r
    | none => gsOf ops r
/-- Whether an operation is carried out: yes, no. -/
noncomputable def guardK (ops : List Oper) (S : ST) (g : Option (Nat × Bool)) (yes no : Prop) : Prop :=
  match g with
  | none => yes
  | some (j, want) => match guardS ops S j with
    | some (.bool b) => match b with
      | true => match want with
        | true => yes
        | false => no
      | false => match want with
        | true => no
        | false => yes
    | some (.tup l) => match l with
      | [] => no
      | _ => False
    | _ => False
noncomputable def eDefer (r : Option Nat) (cl : Call) (gs : List Nat) (dst : Option Tmp) (S : ST) (ds : List CDef) (K : ST → List CDef → Prop) : Prop :=
  match r with
  | some _ => False
  | none => evLK S cl.args.toList fun args => match cl.callee with
    | .value f => evK S f fun f => match f with
      | .fn g a b => putG gs dst undefC S fun S => K S (.fn g (a ++ args ++ b) :: ds)
      | _ => False
    | _ => False
noncomputable def eone (P : Program) (X : Ext) (c : ECfg) (gs : List Nat) (r : Option Nat) (op : Op) (dst : Option Tmp) (S : ST) (ds : List CDef) (m : Mem) (K : ST → List CDef → Mem → Prop) (Kp : KV) : Prop :=
  match op with
  | .defer cl => eDefer r cl gs dst S ds fun S ds => K S ds m
  | op => eop P X c op S m (fun v m => putG gs dst v S fun S => K S ds m) Kp
noncomputable def eops (P : Program) (X : Ext) (c : ECfg) (gs : List Nat) (ops : List Oper) (r : Option Nat) : List Oper → EW
  | [], S, ds, m, K => K .normal S ds m
  | o :: l, S, ds, m, K => guardK ops S o.guard
      (eone P X c gs r o.op o.dst S ds m (fun S ds m => eops P X c gs ops r l S ds m K) fun v m => K (.panic v) S ds m)
      (putG gs o.dst undefC S fun S => eops P X c gs ops r l S ds m K)

/-! ### regions that draw their order -/
def forceB {R : Sort _} (b : Bool) (k : Bool → R) : R := match b with
  | true => k true
  | false => k false
theorem forceB_eq {R : Sort _} (b : Bool) (k : Bool → R) : forceB b k = k b := by cases b <;> rfl
def forceBL {R : Sort _} : List Bool → (List Bool → R) → R
  | [], k => k []
  | b :: r, k => forceB b fun b => forceBL r fun r => k (b :: r)
theorem forceBL_eq {R : Sort _} : ∀ (l : List Bool) (k : List Bool → R), forceBL l k = k l
  | [], _ => rfl
  | b :: r, k => by rw [forceBL, forceB_eq, forceBL_eq r]
def bget : List Bool → Nat → Bool
  | [], _ => false
  | b :: _, 0 => b
  | _ :: r, n + 1 => bget r n
def orB : List Bool → List Bool → List Bool
  | [], l => l
  | l, [] => l
  | a :: x, b :: y => (a || b) :: orB x y
def oneB : Nat → List Bool
  | 0 => [true]
  | n + 1 => false :: oneB n
noncomputable def edgeB (bs : List (List Bool)) : List Edge → Option (List Bool)
  | [] => some []
  | e :: es => match edgeB bs es with
    | none => none
    | some r => match bindC e.ground with
      | false => some r
      | true => match nth bs e.on with
        | some b => some (orB (orB (oneB e.on) b) r)
        | none => none
noncomputable def masksK : List Oper → List (List Bool) → (List (List Bool) → Prop) → Prop
  | [], bs, k => k bs
  | o :: os, bs, k => match edgeB bs o.after.toList with
    | some b => forceBL b fun b => masksK os (bs ++ [b]) k
    | none => False

/-- A new object under a tag that was kept free. -/
structure Lay (m : Mem) (a : Nat) (o : CO) (m' : Mem) : Prop where
  nxt : m'.nxt = m.nxt
  get : ∀ t, m'.get t = if t = a then some o else m.get t
/-- New objects, laid over memory. -/
def layK (m : Mem) : List (Nat × CO) → (Mem → Prop) → Prop
  | [], k => k m
  | (T, o) :: r, k => layK m r fun m1 => ∀ m2, Lay m1 T o m2 → k m2
/-- Those that lie before, and not yet. -/
def pickB (B cl : List Bool) (T0 : Nat) : List (Nat × CO) → List (Nat × CO)
  | [] => []
  | (j, o) :: r => match bget B j with
    | true => match bget cl j with
      | true => pickB B cl T0 r
      | false => (T0 + j, o) :: pickB B cl T0 r
    | false => pickB B cl T0 r
structure ED where
  S : ST
  cur : Mem
  cl : List Bool
  hist : List (Nat × List Bool × Mem)
  as : List (Nat × CO)
  ns : List (Nat × Op × List Bool × CV)

def noRes : CV → Bool
  | .res _ _ _ _ => false
  | .agg cs => noResL cs
  | .tup cs => noResL cs
  | .fn _ a b => noResL a && noResL b
  | .ifc _ v => noRes v
  | _ => true
where noResL : List CV → Bool
  | [] => true
  | x :: xs => noRes x && noResL xs
/-- An operation reads the same. -/
noncomputable def sameE (P : Program) (X : Ext) (c : ECfg) (op : Op) (S : ST) (v : CV) (m : Mem) : Prop :=
  eop P X c op S m (fun v' _ => v' = v) (fun _ _ => False)
noncomputable def histE (P : Program) (X : Ext) (c : ECfg) (op : Op) (B : List Bool) (S : ST) (v : CV) (T0 : Nat) (as : List (Nat × CO)) : List (Nat × List Bool × Mem) → Prop → Prop
  | [], k => k
  | (w, cl, m) :: r, k => match bget B w with
    | true => histE P X c op B S v T0 as r k
    | false => (layK m (pickB B cl T0 as) (sameE P X c op S v)) ∧ histE P X c op B S v T0 as r k
noncomputable def againE (P : Program) (X : Ext) (c : ECfg) (S : ST) (B : List Bool) (m : Mem) (T0 : Nat) (as : List (Nat × CO)) : List (Nat × Op × List Bool × CV) → Prop → Prop
  | [], k => k
  | (i, o, B', v) :: r, k => match bget B i with
    | true => againE P X c S B m T0 as r k
    | false => (layK m (pickB B' B T0 as) (sameE P X c o S v)) ∧ againE P X c S B m T0 as r k
/-- A new object, and the value that names it. -/
noncomputable def enew (P : Program) (op : Op) (S : ST) (T : Nat) (K : CV → CO → Prop) : Prop :=
  match op with
  | .alloc e => match zeroV P e with
    | some z => match cvCells z with
      | some cs => match cs.all one with
        | true => forceL cs fun cs => K (.ptr T 0) (.cells e cs)
        | false => False
      | none => False
    | none => False
  | .box e x => evK S x fun v => match cvCells v with
    | some cs => match cs.all one with
      | true => forceL cs fun cs => K (.ptr T 0) (.cells e cs)
      | false => False
    | none => False
  | .buildSlice ty n ps => evPK S ps.toList fun ps => match P.underlying ty with
    | some (.slice elem) => match P.info? elem, zeroC P elem with
      | some i, some z => match Nat.blt 0 i.size && (Nat.ble (n * i.size) 100000 && Nat.beq z.length i.size) with
        | true => match fillC (fun k => some (k * i.size, i.size)) (rep z n) ps with
          | some cs => forceL cs fun cs => match cs.all one with
            | true => K (.slc T 0 n n) (.cells elem cs)
            | false => False
          | none => False
        | false => False
      | _, _ => False
    | _ => False
  | .makeMap _ r => match r with
    | none => K (.map T) (.map [] 0)
    | some _ => False
  | _ => False
structure ApM (P : Program) (m : Mem) (ty : TypeId) (s x : CV) (Q : CV → Mem → Prop) : Prop where
  ex : ∃ v m', cAppend P m.nxt m ty ty s x = .mem v m' ∧ Q v m'
/-- An operation that changes memory. -/
noncomputable def eopW (P : Program) (X : Ext) (op : Op) (S : ST) (m : Mem) (K : KV) : Prop :=
  match op with
  | .store ty a x => evK S a fun p => evK S x fun v => StW P m ty p v fun m' => K undefC m'
  | .mapUpdate ty x k v => evK S x fun x => evK S k fun k => evK S v fun v => MuW P m ty x k v fun m' => K undefC m'
  | .insert ty x k v => evK S x fun x => evK S k fun k => evK S v fun v => MuW P m ty x k v fun m' => K undefC m'
  | .call cl => evLK S cl.args.toList fun args => match cl.callee with
    | .value f => evK S f fun f => match f with
      | .fn g a b => ECall P X g (a ++ args ++ b) m K fun _ _ => False
      | .yld l => EYield P X l args m K
      | f => EVal P X f args m K fun _ _ => False
    | .builtin .append => match args, cl.argTypes.toList with
      | [x, y], [t1, t2] => match Nat.beq t1 t2 with
        | true => ApM P m t1 x y K
        | false => False
      | _, _ => False
    | _ => False
  | _ => False
def isW : Op → Bool
  | .store _ _ _ => true
  | .mapUpdate _ _ _ _ => true
  | .insert _ _ _ _ => true
  | .call cl => match cl.callee with
    | .value _ => true
    | .builtin .append => true
    | _ => false
  | _ => false
/-- Operations of which the run knows that they yield a value. -/
def isN : Op → Bool
  | .load _ _ => true
  | .slice _ _ _ _ _ => true
  | .indexAddr _ _ _ => true
  | .lookup _ _ _ _ => true
  | .convert _ _ _ => true
  | .call cl => match cl.callee with
    | .builtin .len => true
    | .builtin .min => true
    | .builtin .max => true
    | _ => false
  | _ => false
def lastIn (B : List Bool) : List (Nat × List Bool × Mem) → Bool
  | [] => true
  | (w, _, _) :: _ => bget B w
noncomputable def freeE (T0 : Nat) (m : Mem) (cl : List Bool) : List (Nat × CO) → Prop → Prop
  | [], k => k
  | (j, _) :: r, k => match bget cl j with
    | true => freeE T0 m cl r k
    | false => m.get (T0 + j) = none ∧ freeE T0 m cl r k
noncomputable def freesE (T0 : Nat) (as : List (Nat × CO)) : List (Nat × List Bool × Mem) → Prop → Prop
  | [], k => k
  | (_, cl, m) :: r, k => freeE T0 m cl as (freesE T0 as r k)
/-- One operation of a region that draws its order. -/
noncomputable def dOne (P : Program) (X : Ext) (c : ECfg) (gs : List Nat) (T0 : Nat) (op : Op) (dst : Option Tmp) (i : Nat) (B : List Bool) (s : ED) (K : ED → Prop) : Prop :=
  match newOp P op with
  | true => enew P op s.S (T0 + i) fun v o => putG gs dst v s.S fun S => K ⟨S, s.cur, s.cl, s.hist, (i, o) :: s.as, s.ns⟩
  | false => layK s.cur (pickB B s.cl T0 s.as) fun m => match pureOp op with
    | true => eop P X c op s.S m (fun v _ => putG gs dst v s.S fun S => K ⟨S, s.cur, s.cl, s.hist, s.as, s.ns⟩) fun _ _ => False
    | false => match isN op with
      | true => eop P X c op s.S m (fun v _ => noRes v = true ∧ histE P X c op B s.S v T0 s.as s.hist
          (putG gs dst v s.S fun S => K ⟨S, s.cur, s.cl, s.hist, s.as, (i, op, B, v) :: s.ns⟩)) fun _ _ => False
      | false => match isW op with
        | true => match lastIn B s.hist with
          | true => eopW P X op s.S m fun v m' => s.cur.nxt ≤ m'.nxt ∧ againE P X c s.S B m' T0 s.as s.ns
              (putG gs dst v s.S fun S => K ⟨S, m', B, (i, s.cl, s.cur) :: s.hist, s.as, s.ns⟩)
          | false => False
        | false => False
noncomputable def dAll (P : Program) (X : Ext) (c : ECfg) (gs : List Nat) (ops : List Oper) (T0 : Nat) : List Oper → List (List Bool) → Nat → ED → (ED → Prop) → Prop
  | [], _, _, s, K => K s
  | o :: l, B :: bs, i, s, K => guardK ops s.S o.guard
      (dOne P X c gs T0 o.op o.dst i B s fun s => dAll P X c gs ops T0 l bs (i + 1) s K)
      (putG gs o.dst undefC s.S fun S => dAll P X c gs ops T0 l bs (i + 1) ⟨S, s.cur, s.cl, s.hist, s.as, s.ns⟩ K)
  | _ :: _, [], _, _, _ => False
/-- Tags are kept free for the new objects of a region. -/
structure Rsv (m : Mem) (n : Nat) (m' : Mem) : Prop where
  nxt : m'.nxt = m.nxt + n
  get : ∀ t, m'.get t = m.get t
def restB (cl : List Bool) (T0 : Nat) : List (Nat × CO) → List (Nat × CO)
  | [] => []
  | (j, o) :: r => match bget cl j with
    | true => restB cl T0 r
    | false => (T0 + j, o) :: restB cl T0 r
noncomputable def edraw (P : Program) (X : Ext) (c : ECfg) (ops : List Oper) (S : ST) (ds : List CDef) (m : Mem) (K : EK) : Prop :=
  ClosedB (planC ops).isSome ∧ masksK ops [] fun bs => ∀ m0, Rsv m ops.length m0 →
    dAll P X c (gsOf ops ops) ops m.nxt ops bs 0 ⟨S, m0, [], [], [], []⟩ fun s =>
      freesE m.nxt s.as ((0, s.cl, s.cur) :: s.hist) (layK s.cur (restB s.cl m.nxt s.as) fun m' => K .normal s.S ds m')

/-! ### code -/
def modsO : List Oper → List Nat → List Nat
  | [], acc => acc
  | p :: r, acc => match p.dst with
    | some d => d :: modsO r acc
    | none => modsO r acc
def modsA : Code → List Nat → List Nat
  | .region _ ops _, acc => modsO ops.toList acc
  | .seq a b, acc => modsA a (modsA b acc)
  | .cond x a b, acc => match x with
    | .tmp d => d :: modsA a (modsA b acc)
    | _ => modsA a (modsA b acc)
  | .block _ b, acc => modsA b acc
  | .loop b, acc => modsA b acc
  | .scope b, acc => modsA b acc
  | _, acc => acc
def firstRegion : Code → Option Nat
  | .region id _ _ => some id
  | .seq a b => match firstRegion a with
    | some r => some r
    | none => firstRegion b
  | .block _ b => firstRegion b
  | .loop b => firstRegion b
  | .scope b => firstRegion b
  | _ => none
def annOf (l : List (Nat × List Nat)) (x : Option Nat) : Option (List Nat) :=
  match l with
  | [] => none
  | p :: l => match x with
    | some r => List.lookup r (p :: l)
    | none => none

def seqK (f : EW) (K : EK) : EK := fun x S ds m => match x with
  | .normal => f S ds m K
  | x => K x S ds m
def blockK (id : Nat) (K : EK) : EK := fun x S ds m => match x with
  | .exit i => match Nat.beq i id with
    | true => K .normal S ds m
    | false => K (.exit i) S ds m
  | x => K x S ds m
def scopeK (K : EK) : EK := fun x S ds m => match x with
  | .goto _ => False
  | x => K x S ds m
/-- Ways meet: what is known of some temporaries is handed on. -/
def meetK (ss : List Nat) (ms : List Nat) (S0 : ST) (J : List CV → List CDef → Mem → Prop) (K : EK) : EK := fun x S ds m => match x with
  | .normal => (havocK S ms fun S1 => S1 = S0) ∧ pickK S ss fun vs => J vs ds m
  | x => K x S ds m
def seqC (c : ECfg) (a b : Code) (fa fb : EW) : EW := fun S ds m K => match annOf c.cut (firstRegion b) with
  | none => fa S ds m (seqK fb K)
  | some ss => havocK S (modsA a []) fun S0 => ∃ J : List CV → List CDef → Mem → Prop,
      fa S ds m (meetK ss (modsA a []) S0 J K) ∧ ∀ vs ds' m', J vs ds' m' → refillK S0 ss vs False fun S => fb S ds' m' K
def putC (x : Operand) (b : Bool) (S : ST) (K : ST → Prop) : Prop := match x with
  | .tmp d => setK S d (some (.bool b)) False K
  | _ => K S
noncomputable def condC' (x : Operand) (fa fb : EW) : EW := fun S ds m K => evK S x fun v => match v with
  | .bool b => splitB b (putC x true S fun S => fa S ds m K) (putC x false S fun S => fb S ds m K)
  | _ => False
def loopK (ss : List Nat) (ms : List Nat) (S0 : ST) (J : List CV → List CDef → Mem → Prop) (lt : List CV → List CDef → Mem → Prop) (K : EK) : EK := fun x S ds m => match x with
  | .normal => (havocK S ms fun S1 => S1 = S0) ∧ pickK S ss fun vs => J vs ds m ∧ lt vs ds m
  | x => K x S ds m
def loopC (c : ECfg) (b : Code) (fb : EW) : EW := fun S ds m K => match annOf c.ann (firstRegion b) with
  | none => False
  | some ss => havocK S (modsA b []) fun S0 => ∃ (J : List CV → List CDef → Mem → Prop) (μ : List CV → List CDef → Mem → Nat),
      (pickK S ss fun vs => J vs ds m) ∧ ∀ vs ds' m', J vs ds' m' →
        refillK S0 ss vs False fun S => fb S ds' m' (loopK ss (modsA b []) S0 J (fun vs2 ds2 m2 => μ vs2 ds2 m2 < μ vs ds' m') K)

/-! ### ranges over functions -/
/-- An iterator: it yields xs, one by one, until it is told to stop. I: what holds before each yield; E: what holds when it has been told to stop. -/
structure EIter (P : Program) (X : Ext) (f : FuncId) (first cap : List CV) (R : RO) (xs : List (List CV)) (m : Mem) : Prop where
  run : ∀ (l : Nat) (I : Nat → Mem → Prop) (E : Mem → Prop), l < m.nxt →
    (∀ i m1 m2, I i m1 → Still m.nxt m1 m2 → I i m2) → (∀ m1 m2, E m1 → Still m.nxt m1 m2 → E m2) →
    (∀ i a m1, xs[i]? = some a → Mk R m1 → I i m1 → EYield P X l a m1 fun v m2 => YFr R l m1 m2 ∧ ((v = .bool true ∧ I (i + 1) m2) ∨ (v = .bool false ∧ E m2))) →
    Mk R m → I 0 m → ECall P X f (first ++ [.yld l] ++ cap) m (fun _ m' => YFr R l m m' ∧ (I xs.length m' ∨ E m')) fun _ _ => False

/-- A loop's record lies there. -/
def IsLoop (m : Mem) (l : Nat) : Prop := ∃ st pe tm ps asg body d, m.get l = some (.loop st pe tm ps asg body d)
/-- What a round of a loop's body asks. -/
def roundK (R : RO) (m : Mem) (I : Mem → Prop) (E : CEx → Mem → Prop) : EK := fun x S ds m' => match x with
  | .normal => RFr R m m' ∧ I m'
  | .ret => RFr R m m' ∧ E .ret m'
  | .exit id => RFr R m m' ∧ E (.exit id) m'
  | _ => False
def asgK (m : Mem) (K : ST → Prop) : EK := fun x S ds m' => match x with
  | .normal => match ds with
    | [] => m' = m ∧ K S
    | _ => False
  | _ => False
noncomputable def markK (r : Option Nat) (d : Nat) (ds : List CDef) : List CDef := match r with
  | none => .mark d :: ds
  | some _ => ds
noncomputable def rangeE (P : Program) (X : Ext) (g : Operand) (ps : List Tmp) (fa fb : Nat → EW) (r : Option Nat) : EW := fun S ds m K =>
  evK S g fun gv => ∃ f first cap, gv = .fn f first cap ∧ (match r with | none => True | some l0 => IsLoop m l0) ∧
    ∃ (R : RO) (xs : List (List CV)) (I : Nat → Mem → Prop) (E : CEx → Mem → Prop), Mk R m ∧ (∀ t o, R t = some o → isRec o = false) ∧
      (∀ m1, Still m.nxt m m1 → Mk R m1 → EIter P X f first cap R xs m1) ∧ I 0 m ∧
      (∀ i m1 m2, I i m1 → Still m.nxt m1 m2 → I i m2) ∧ (∀ x m1 m2, E x m1 → Still m.nxt m1 m2 → E x m2) ∧
      (∀ l i a m2, xs[i]? = some a → refillK S ps a False fun S2 => fa l S2 [] m2 (asgK m2 fun S3 => ∀ m3, m.nxt ≤ m3.nxt → Mk R m3 → I i m3 → IsLoop m3 l → fb l S3 [] m3 (roundK R m3 (I (i + 1)) E))) ∧
      (∀ d m2, m.nxt ≤ m2.nxt → Mk R m2 → m2.get d = some (.dfr true) ∨ r ≠ none → I xs.length m2 → K .normal S (markK r d ds) m2) ∧
      (∀ x d m2, m.nxt ≤ m2.nxt → Mk R m2 → m2.get d = some (.dfr true) ∨ r ≠ none → E x m2 → K x S (markK r d ds) m2)

noncomputable def ewp (P : Program) (X : Ext) (c : ECfg) : Code → Option Nat → EW
  | .skip, _, S, ds, m, K => K .normal S ds m
  | .label _, _, S, ds, m, K => K .normal S ds m
  | .ret, _, S, ds, m, K => K .ret S ds m
  | .exit id, _, S, ds, m, K => K (.exit id) S ds m
  | .region _ ops draw, r, S, ds, m, K => match draw with
    | false => eops P X c (gsOf ops.toList ops.toList) ops.toList r ops.toList S ds m K
    | true => edraw P X c ops.toList S ds m K
  | .seq a b, r, S, ds, m, K => seqC c a b (ewp P X c a r) (ewp P X c b r) S ds m K
  | .cond x a b, r, S, ds, m, K => condC' x (ewp P X c a r) (ewp P X c b r) S ds m K
  | .block id b, r, S, ds, m, K => ewp P X c b r S ds m (blockK id K)
  | .loop b, r, S, ds, m, K => loopC c b (ewp P X c b r) S ds m K
  | .scope b, r, S, ds, m, K => ewp P X c b r S ds m (scopeK K)
  | .rangeFunc g ps asg body, r, S, ds, m, K => rangeE P X g ps.toList (fun l => ewp P X c asg (some l)) (fun l => ewp P X c body (some l)) r S ds m K
  | _, _, _, _, _, _ => False
end Go.Cx
