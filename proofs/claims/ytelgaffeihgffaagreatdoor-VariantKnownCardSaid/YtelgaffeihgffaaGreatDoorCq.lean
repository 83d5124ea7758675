/-
  A concrete evaluator for Go's IR. Part q: regions that draw their order: what a run through one has shown.
-/
import Derived.Test.YtelgaffeihgffaaGreatDoorCo
set_option linter.unusedSimpArgs false
set_option linter.unusedVariables false
namespace Go.Cx
open Go Go.RowKit
variable {P : Program} {W0 : Bas}

structure AsOk (T0 : Nat) (as : List (Nat × Nat × CO)) : Prop where
  tag : ∀ j T o, (j, T, o) ∈ as → T = T0 + j ∧ isRo o = false
  one : ∀ j T o T' o', (j, T, o) ∈ as → (j, T', o') ∈ as → o = o'

/-- Memory m is M, with the new objects that S picks laid over it. -/
structure Ovr (S : Nat → Prop) (as : List (Nat × Nat × CO)) (M m : Mem) : Prop where
  nxt : m.nxt = M.nxt
  get1 : ∀ j T o, (j, T, o) ∈ as → S j → m.get T = some o
  get0 : ∀ T, (∀ j o, (j, T, o) ∈ as → ¬ S j) → m.get T = M.get T

theorem AsOk.tail {T0 : Nat} {a : Nat × Nat × CO} {r : List (Nat × Nat × CO)} (h : AsOk T0 (a :: r)) : AsOk T0 r :=
  ⟨fun j T o hj => h.tag j T o (List.mem_cons_of_mem _ hj), fun j T o T' o' h1 h2 => h.one j T o T' o' (List.mem_cons_of_mem _ h1) (List.mem_cons_of_mem _ h2)⟩

theorem addP_ovr {T0 : Nat} (S : Nat → Bool) {M : Mem} : ∀ {as : List (Nat × Nat × CO)}, AsOk T0 as → (∀ j T o, (j, T, o) ∈ as → T < M.nxt) → Ovr (fun j => S j = true) as M (addP S as M)
  | [], _, _ => ⟨rfl, (fun j T o h => by cases h), (fun T _ => rfl)⟩
  | (j0, T', o') :: r, hA, hlt => by
    have ih := addP_ovr S hA.tail (fun j T o h => hlt j T o (List.mem_cons_of_mem _ h))
    obtain ⟨ht0, hr0⟩ := hA.tag j0 T' o' (List.mem_cons_self ..)
    unfold addP
    cases hS : S j0 with
    | false =>
      simp only
      refine ⟨ih.nxt, fun j T o h hj => ?_, fun T h => ih.get0 T fun j o hm => h j o (List.mem_cons_of_mem _ hm)⟩
      rcases List.mem_cons.1 h with h | h
      · cases h
        rw [hS] at hj; cases hj
      · exact ih.get1 j T o h hj
    | true =>
      simp only
      refine ⟨?_, fun j T o h hj => ?_, fun T h => ?_⟩
      · rw [Mem.nxtAt, ih.nxt, if_pos (hlt j0 T' o' (List.mem_cons_self ..))]
      · rw [Mem.get_newAt]
        obtain ⟨ht, hr⟩ := hA.tag j T o h
        by_cases hq : T = T'
        · rw [if_pos hq]
          have hj0 : j = j0 := by omega
          subst hj0
          exact congrArg some (hA.one j T' o' T o (List.mem_cons_self ..) h)
        · rw [if_neg hq]
          rcases List.mem_cons.1 h with h | h
          · cases h; exact absurd rfl hq
          · exact ih.get1 j T o h hj
      · rw [Mem.get_newAt]
        by_cases hq : T = T'
        · subst hq
          exact absurd hS (h j0 o' (List.mem_cons_self ..))
        · rw [if_neg hq]
          exact ih.get0 T fun j o hm => h j o (List.mem_cons_of_mem _ hm)

structure CD where
  val : Nat → CV
  kn : Nat → Nat
  wi : Nat → Nat
  st : Nat → Mem × Nat
  K : Nat

def histOf (d : CD) : Nat → List (Nat × Nat × Mem)
  | 0 => []
  | k + 1 => (d.wi k, (d.st k).2, (d.st k).1) :: histOf d k

theorem histOf_congr {d d' : CD} : ∀ {k : Nat}, (∀ i, i < k → d.wi i = d'.wi i ∧ d.st i = d'.st i) → histOf d k = histOf d' k
  | 0, _ => rfl
  | k + 1, h => by
    unfold histOf
    obtain ⟨h1, h2⟩ := h k (by omega)
    rw [h1, h2, histOf_congr fun i hi => h i (by omega)]

noncomputable def memAt (d : CD) (as : List (Nat × Nat × CO)) (B c : Nat) : Mem := addP (pickA B (d.st c).2) as (d.st c).1

section
variable (ops : Array Oper) (l : List (Oper × Nat)) (t0 : Tmps)

def Uses (o : Oper) (u : Nat) : Prop := .tmp u ∈ useOp o.op ∨ ∃ (j : Nat) (b : Bool) (q : Oper), o.guard = some (j, b) ∧ ops[j]? = some q ∧ q.dst = some u

/-- The temporaries that the operation reads are as the run has them. -/
def Agr (val : Nat → CV) (B : Nat) (o : Oper) (t : Tmps) : Prop := ∀ u, Uses ops o u → (∀ (j : Nat) (q : Oper), ops[j]? = some q → q.dst = some u → bitC B j = true → t.get u = some (val j)) ∧ ((∀ (j : Nat) (q : Oper), ops[j]? = some q → q.dst = some u → bitC B j = false) → t.get u = t0.get u)
end

theorem guardC_congr {ops : Array Oper} {o : Oper} {t t' : Tmps} (h : ∀ u, Uses ops o u → t.get u = t'.get u) : guardC ops.toList t o.guard = guardC ops.toList t' o.guard := by
  unfold guardC
  cases hg : o.guard with
  | none => rfl
  | some p =>
    obtain ⟨j, b⟩ := p
    simp only
    rw [nth_eq]
    cases hq : ops.toList[j]? with
    | none => rfl
    | some q =>
      simp only
      cases hd : q.dst with
      | none => rfl
      | some d =>
        simp only
        rw [h d (.inr ⟨j, b, q, hg, by simpa using hq, hd⟩)]

theorem Agr.eq {ops : Array Oper} {t0 : Tmps} {val : Nat → CV} {B : Nat} {o : Oper} {t t' : Tmps} (h : Agr ops t0 val B o t) (h' : Agr ops t0 val B o t') : ∀ u, Uses ops o u → t.get u = t'.get u := fun u hu => by
  by_cases hx : ∃ (j : Nat) (q : Oper), ops[j]? = some q ∧ q.dst = some u ∧ bitC B j = true
  · obtain ⟨j, q, h1, h2, h3⟩ := hx
    rw [(h u hu).1 j q h1 h2 h3, (h' u hu).1 j q h1 h2 h3]
  · have hn : ∀ (j : Nat) (q : Oper), ops[j]? = some q → q.dst = some u → bitC B j = false := fun j q h1 h2 => by
      cases hb : bitC B j with
      | false => rfl
      | true => exact absurd ⟨j, q, h1, h2, hb⟩ hx
    rw [(h u hu).2 hn, (h' u hu).2 hn]

/-- What has been shown, up to the operation p. -/
structure Cert (P : Program) (ih : Task → Res) (ops : Array Oper) (l : List (Oper × Nat)) (t0 : Tmps) (M0 : Mem) (T0 : Nat) (d : CD) (p : Nat) (s : DS) : Prop where
  cur : s.cur = (d.st d.K).1
  cl : s.cl = (d.st d.K).2
  hist : s.hist = histOf d d.K
  wlt : ∀ k, k < d.K → d.wi k < p ∧ d.kn (d.wi k) = 2
  win : ∀ i, i < p → d.kn i = 2 → ∃ k, k < d.K ∧ d.wi k = i
  chain : ∀ k, k + 1 < d.K → ∀ o B, l[d.wi (k + 1)]? = some (o, B) → bitC B (d.wi k) = true
  st0 : d.st 0 = (M0, 0)
  cls : ∀ k, k < d.K → ∀ o B, l[d.wi k]? = some (o, B) → (d.st (k + 1)).2 = B
  asok : AsOk T0 s.as
  asin : ∀ j T o, (j, T, o) ∈ s.as → j < p ∧ d.kn j = 1
  tv1 : ∀ (i : Nat) (o : Oper) (u : Nat), i < p → d.kn i ≠ 3 → ops[i]? = some o → o.dst = some u → s.t.get u = some (d.val i) ∧ u < t0.sz
  tv0 : ∀ u, (∀ (i : Nat) (o : Oper), i < p → d.kn i ≠ 3 → ops[i]? = some o → o.dst ≠ some u) → s.t.get u = t0.get u
  tsz : s.t.sz = t0.sz
  vA : ∀ i o B, i < p → l[i]? = some (o, B) → d.kn i = 1 → ∀ t, Agr ops t0 d.val B o t → guardC ops.toList t o.guard = some true ∧ ∃ ob, (i, T0 + i, ob) ∈ s.as ∧ ∀ m, copT P (T0 + i) o.op m t = .mem (d.val i) (m.newAt (T0 + i) ob)
  vN : ∀ i o B, i < p → l[i]? = some (o, B) → d.kn i = 0 → ∀ t, Agr ops t0 d.val B o t → (guardC ops.toList t o.guard = some false ∧ d.val i = undefC) ∨
    (guardC ops.toList t o.guard = some true ∧ ∀ c, c ≤ d.K → (∀ k, k < d.K → bitC B (d.wi k) = true → k < c) → (∀ k o' B', k < c → l[d.wi k]? = some (o', B') → bitC B' i = false) → cop P o.op (memAt d s.as B c) t = .val (d.val i))
  vW : ∀ k o B, k < d.K → l[d.wi k]? = some (o, B) → ∀ t, Agr ops t0 d.val B o t → guardC ops.toList t o.guard = some true ∧ outV ih (memAt d s.as B k) (cop P o.op (memAt d s.as B k) t) = some (d.val (d.wi k), (d.st (k + 1)).1)
  nall : ∀ i o B, i < p → l[i]? = some (o, B) → d.kn i = 0 → (∀ t, Agr ops t0 d.val B o t → guardC ops.toList t o.guard = some false) ∨ pureOp o.op = true ∨ (i, o, B, d.val i) ∈ s.ns
  k012 : ∀ i, i < p → d.kn i = 0 ∨ d.kn i = 1 ∨ d.kn i = 2 ∨ d.kn i = 3
  cl3 : ∀ i o B, i < p → l[i]? = some (o, B) → d.kn i ≠ 3 → ∀ j, bitC B j = true → d.kn j ≠ 3

theorem addP_skip {S : Nat → Bool} {p : Nat} {T : Nat} {o : CO} {as : List (Nat × Nat × CO)} {m : Mem} (h : S p = false) : addP S ((p, T, o) :: as) m = addP S as m := by
  rw [addP, h]

theorem sameN_spec {op : Op} {t : Tmps} {v : CV} {m : Mem} (h : sameN P op t v m = true) : cop P op m t = .val v := by
  unfold sameN at h
  show copT P m.nxt op m t = _
  generalize copT P m.nxt op m t = out at h
  cases out <;> first | (simp only [sameOut] at h; rw [cvEq_eq h]) | (simp [sameOut] at h)

theorem histN_spec {op : Op} {B : Nat} {t : Tmps} {v : CV} {as : List (Nat × Nat × CO)} {d : CD} : ∀ {k : Nat}, histN P op B t v as (histOf d k) = true → ∀ c, c < k → (∀ k', c ≤ k' → k' < k → bitC B (d.wi k') = false) → cop P op (memAt d as B c) t = .val v
  | 0, _, c, hc, _ => by omega
  | k + 1, h, c, hc, hb => by
    unfold histOf histN at h
    rw [hb k (by omega) (by omega)] at h
    simp only at h
    split at h
    · rename_i hs
      by_cases hck : c = k
      · subst hck
        exact sameN_spec hs
      · exact histN_spec h c (by omega) fun k' h1 h2 => hb k' h1 (by omega)
    · cases h

theorem againN_spec {t : Tmps} {B cl : Nat} {m : Mem} {as : List (Nat × Nat × CO)} : ∀ {ns : List (Nat × Oper × Nat × CV)}, againN P t B cl m as ns = true → ∀ i o B' v, (i, o, B', v) ∈ ns → bitC B i = false → cop P o.op (addP (pickA B' cl) as m) t = .val v
  | [], _, i, o, B', v, h, _ => by cases h
  | (i0, o0, B0, v0) :: r, h, i, o, B', v, hm, hb => by
    unfold againN at h
    rcases List.mem_cons.1 hm with hm | hm
    · cases hm
      rw [hb] at h
      simp only at h
      split at h
      · rename_i hs; exact sameN_spec hs
      · cases h
    · split at h
      · exact againN_spec h i o B' v hm hb
      · split at h
        · exact againN_spec h i o B' v hm hb
        · cases h

def isNo : DRes → Prop
  | .no _ => True
  | _ => False
theorem drawSet_ok {d : Option Tmp} {v : CV} {t : Tmps} {k : Tmps → DRes} {f : DRes} (hno : ¬ isNo f) (h : drawSet d v t k = f) : ∃ t', k t' = f ∧ t'.sz = t.sz ∧ (∀ u, d = some u → u < t.sz ∧ t'.get u = some v) ∧ (∀ u, d ≠ some u → t'.get u = t.get u) := by
  unfold drawSet at h
  cases d with
  | none => exact ⟨t, h, rfl, fun u hu => (by cases hu), fun u _ => rfl⟩
  | some d =>
    simp only at h
    split at h
    · rename_i hb
      have hlt : d < t.sz := Nat.le_of_ble_eq_true hb
      refine ⟨t.set d v, h, Tmps.set_sz .., fun u hu => ?_, fun u hu => ?_⟩
      · cases hu
        refine ⟨hlt, ?_⟩
        obtain ⟨sz, tr⟩ := t
        show Bool.rec (motive := fun _ => Option CV) none ((Tr.set (Nat.succ d) tr d (some v)).get d) (Nat.ble (Nat.succ d) sz) = some v
        rw [hb, Tr.get_set _ _ _ _ _ (by omega), if_pos rfl]
      · obtain ⟨sz, tr⟩ := t
        show Bool.rec (motive := fun _ => Option CV) none ((Tr.set (Nat.succ d) tr d (some v)).get u) (Nat.ble (Nat.succ u) sz) = Bool.rec (motive := fun _ => Option CV) none (tr.get u) (Nat.ble (Nat.succ u) sz)
        rw [Tr.get_set _ _ _ _ _ (by omega), if_neg (fun hq => hu (by rw [hq]))]
    · subst h; exact absurd trivial hno

section step
variable {ih : Task → Res} {ops : Array Oper} {l : List (Oper × Nat)} {t0 : Tmps} {M0 : Mem} {T0 : Nat}

theorem Cert.agr (hp : PlanOk ops l) {d : CD} {p : Nat} {s : DS} (h : Cert P ih ops l t0 M0 T0 d p s) (hps : p < ops.size) {i : Nat} {o : Oper} {B : Nat} (hi : i ≤ p) (hl : l[i]? = some (o, B)) (h3 : ∀ j, bitC B j = true → d.kn j ≠ 3) : Agr ops t0 d.val B o s.t := fun u hu => by
  refine ⟨fun j q hj hq hb => (h.tv1 j q u (by have := (hp.mask i o B hl).lt j hb; omega) (h3 j hb) hj hq).1, fun hn => h.tv0 u fun j q hjp _ hj hq => ?_⟩
  have hf := hn j q hj hq
  rcases hu with hu | ⟨j', b, q', h1, h2, h3⟩
  · rcases hp.uses i o B hl u hu j q hj hq with hb | ⟨hb, _⟩
    · rw [hf] at hb; cases hb
    · omega
  · have : j = j' := hp.dst j j' q q' u hj h2 hq h3
    subst this
    have hb := hp.grd i o B hl j b h1
    rw [hf] at hb; cases hb

/-- What the operation p has brought, laid beside what was there. -/
def CD.ext (d : CD) (p kn : Nat) (v : CV) : CD := { d with val := fun i => if i = p then v else d.val i, kn := fun i => if i = p then kn else d.kn i }

theorem Agr.ext (hp : PlanOk ops l) {d : CD} {p kn : Nat} {v : CV} {i : Nat} {o : Oper} {B : Nat} (hi : i ≤ p) (hl : l[i]? = some (o, B)) {t : Tmps} : Agr ops t0 (d.ext p kn v).val B o t ↔ Agr ops t0 d.val B o t := by
  have hv : ∀ (j : Nat), bitC B j = true → (d.ext p kn v).val j = d.val j := fun j hb => by
    have hlow := (hp.mask i o B hl).lt j hb
    show (if j = p then v else d.val j) = d.val j
    rw [if_neg (by omega)]
  constructor
  · intro h u hu
    exact ⟨fun j q hj hq hb => by rw [(h u hu).1 j q hj hq hb, hv j hb], (h u hu).2⟩
  · intro h u hu
    exact ⟨fun j q hj hq hb => by rw [(h u hu).1 j q hj hq hb, hv j hb], (h u hu).2⟩

theorem memAt_skip (hp : PlanOk ops l) {d : CD} {as : List (Nat × Nat × CO)} {i p : Nat} {o : Oper} {B c T : Nat} {ob : CO} (hi : i ≤ p) (hl : l[i]? = some (o, B)) : memAt d ((p, T, ob) :: as) B c = memAt d as B c := by
  refine addP_skip ?_
  unfold pickA
  cases hb : bitC B p with
  | false => rfl
  | true => have := (hp.mask i o B hl).lt p hb; omega

/-- Temporaries behind the operation p. -/
structure TStep (t t' : Tmps) (o : Oper) (v : CV) : Prop where
  sz : t'.sz = t.sz
  new : ∀ u, o.dst = some u → u < t.sz ∧ t'.get u = some v
  old : ∀ u, o.dst ≠ some u → t'.get u = t.get u

theorem Cert.tmps (hp : PlanOk ops l) {d : CD} {p kn : Nat} (hkn : kn ≠ 3) {s : DS} (h : Cert P ih ops l t0 M0 T0 d p s) {o : Oper} {B : Nat} (hl : l[p]? = some (o, B)) {v : CV} {t' : Tmps} (ht : TStep s.t t' o v) :
    (∀ (i : Nat) (q : Oper) (u : Nat), i < p + 1 → (d.ext p kn v).kn i ≠ 3 → ops[i]? = some q → q.dst = some u → t'.get u = some ((d.ext p kn v).val i) ∧ u < t0.sz) ∧ (∀ u, (∀ (i : Nat) (q : Oper), i < p + 1 → (d.ext p kn v).kn i ≠ 3 → ops[i]? = some q → q.dst ≠ some u) → t'.get u = t0.get u) ∧ t'.sz = t0.sz := by
  have hop := hp.op p o B hl
  refine ⟨fun i q u hi h3 hq hd => ?_, fun u hu => ?_, ht.sz.trans h.tsz⟩
  · by_cases hip : i = p
    · subst hip
      rw [hop] at hq; cases hq
      obtain ⟨h1, h2⟩ := ht.new u hd
      exact ⟨by rw [h2]; show _ = some (if i = i then v else d.val i); rw [if_pos rfl], by rw [← h.tsz]; exact h1⟩
    · have h3' : d.kn i ≠ 3 := fun hq3 => h3 (by show (if i = p then kn else d.kn i) = 3; rw [if_neg hip]; exact hq3)
      obtain ⟨h1, h2⟩ := h.tv1 i q u (by omega) h3' hq hd
      have hne : o.dst ≠ some u := fun hq2 => hip (hp.dst i p q o u hq hop hd hq2)
      exact ⟨by rw [ht.old u hne, h1]; show _ = some (if i = p then v else d.val i); rw [if_neg hip], h2⟩
  · rw [ht.old u (hu p o (by omega) (by show (if p = p then kn else d.kn p) ≠ 3; rw [if_pos rfl]; exact hkn) hop)]
    exact h.tv0 u fun i q hi h3 hq => hu i q (by omega) (by show (if i = p then kn else d.kn i) ≠ 3; rw [if_neg (by omega)]; exact h3) hq

/-- The closure of what is left out. -/
theorem Cert.cl3' (hp : PlanOk ops l) {d : CD} {p kn : Nat} {v : CV} {s : DS} (h : Cert P ih ops l t0 M0 T0 d p s) {o : Oper} {B : Nat} (hl : l[p]? = some (o, B)) (h3 : kn ≠ 3 → ∀ j, bitC B j = true → d.kn j ≠ 3) :
    ∀ i q B', i < p + 1 → l[i]? = some (q, B') → (d.ext p kn v).kn i ≠ 3 → ∀ j, bitC B' j = true → (d.ext p kn v).kn j ≠ 3 := fun i q B' hi hq hk j hj => by
  have hlow := (hp.mask i q B' hq).lt j hj
  show (if j = p then kn else d.kn j) ≠ 3
  rw [if_neg (by omega)]
  by_cases hip : i = p
  · subst hip
    rw [hl] at hq; cases hq
    exact h3 (fun hq3 => hk (by show (if i = i then kn else d.kn i) = 3; rw [if_pos rfl]; exact hq3)) j hj
  · exact h.cl3 i q B' (by omega) hq (fun hq3 => hk (by show (if i = p then kn else d.kn i) = 3; rw [if_neg hip]; exact hq3)) j hj

/-- A value: an operation whose guard is not met, or one that memory does not turn. -/
theorem Cert.stepN (hp : PlanOk ops l) {d : CD} {p : Nat} {s : DS} (h : Cert P ih ops l t0 M0 T0 d p s) {o : Oper} {B : Nat} (hl : l[p]? = some (o, B)) (h3p : ∀ j, bitC B j = true → d.kn j ≠ 3) {v : CV} {t' : Tmps} (ht : TStep s.t t' o v) {ns : List (Nat × Oper × Nat × CV)}
    (hns : ns = s.ns ∨ ns = (p, o, B, v) :: s.ns)
    (hall : (guardC ops.toList s.t o.guard = some false) ∨ pureOp o.op = true ∨ (p, o, B, v) ∈ ns)
    (hv : (guardC ops.toList s.t o.guard = some false ∧ v = undefC) ∨ (guardC ops.toList s.t o.guard = some true ∧ ∀ c, c ≤ d.K → (∀ k, k < d.K → bitC B (d.wi k) = true → k < c) → cop P o.op (memAt d s.as B c) s.t = .val v)) :
    Cert P ih ops l t0 M0 T0 (d.ext p 0 v) (p + 1) ⟨t', s.cur, s.cl, s.hist, s.as, ns⟩ := by
  obtain ⟨h1, h2, h3⟩ := h.tmps (kn := 0) hp (by decide) hl ht
  have kn0 : ∀ i, i < p → (d.ext p 0 v).kn i = d.kn i := fun i hi => if_neg (by omega)
  have val0 : ∀ i, i < p → (d.ext p 0 v).val i = d.val i := fun i hi => if_neg (by omega)
  have knp : (d.ext p 0 v).kn p = 0 := if_pos rfl
  have valp : (d.ext p 0 v).val p = v := if_pos rfl
  have hagr := h.agr hp (hp.lt hl) (Nat.le_refl p) hl h3p
  have gcong : ∀ t, Agr ops t0 d.val B o t → guardC ops.toList t o.guard = guardC ops.toList s.t o.guard := fun t ha => guardC_congr (ha.eq hagr)
  have ccong : ∀ t m, Agr ops t0 d.val B o t → cop P o.op m t = cop P o.op m s.t := fun t m ha => copT_congr fun u hu => ha.eq hagr u (.inl hu)
  refine ⟨h.cur, h.cl, h.hist.trans (histOf_congr fun i hi => ⟨rfl, rfl⟩), fun k hk => ?_, fun i hi hk => ?_, h.chain, h.st0, h.cls, h.asok, fun j T ob hj => ?_, h1, h2, h3, fun i q B' hi hq hk t ha => ?_, fun i q B' hi hq hk t ha => ?_, fun k q B' hk hq t ha => ?_, fun i q B' hi hq hk => ?_, fun i hi => ?_, h.cl3' hp hl (fun _ => h3p)⟩
  · obtain ⟨a1, a2⟩ := h.wlt k hk
    exact ⟨Nat.lt_succ_of_lt a1, by show (d.ext p 0 v).kn (d.wi k) = 2; rw [kn0 _ a1]; exact a2⟩
  · by_cases hip : i = p
    · subst hip; rw [knp] at hk; cases hk
    · rw [kn0 i (by omega)] at hk
      exact h.win i (by omega) hk
  · obtain ⟨a1, a2⟩ := h.asin j T ob hj
    exact ⟨by omega, by rw [kn0 j a1]; exact a2⟩
  · by_cases hip : i = p
    · subst hip; rw [knp] at hk; cases hk
    · rw [kn0 i (by omega)] at hk
      rw [val0 i (by omega)]
      exact h.vA i q B' (by omega) hq hk t ((Agr.ext hp (by omega) hq).1 ha)
  · by_cases hip : i = p
    · subst hip
      rw [hl] at hq; cases hq
      have ha' := (Agr.ext hp (Nat.le_refl _) hl).1 ha
      rw [valp, gcong t ha']
      rcases hv with hv | ⟨hv1, hv2⟩
      · exact .inl hv
      · refine .inr ⟨hv1, fun c hc h4 h5 => ?_⟩
        rw [ccong t _ ha']
        exact hv2 c hc h4
    · rw [kn0 i (by omega)] at hk
      rw [val0 i (by omega)]
      exact h.vN i q B' (by omega) hq hk t ((Agr.ext hp (by omega) hq).1 ha)
  · have hk' : k < d.K := hk
    obtain ⟨a1, a2⟩ := h.wlt k hk'
    show _ ∧ outV ih (memAt d s.as B' k) _ = some ((d.ext p 0 v).val (d.wi k), _)
    rw [val0 _ a1]
    exact h.vW k q B' hk' hq t ((Agr.ext hp (Nat.le_of_lt a1) hq).1 ha)
  · by_cases hip : i = p
    · subst hip
      rw [hl] at hq; cases hq
      rw [valp]
      rcases hall with hall | hall | hall
      · exact .inl fun t ha => by rw [gcong t ((Agr.ext hp (Nat.le_refl _) hl).1 ha)]; exact hall
      · exact .inr (.inl hall)
      · exact .inr (.inr hall)
    · rw [kn0 i (by omega)] at hk
      rw [val0 i (by omega)]
      rcases h.nall i q B' (by omega) hq hk with h4 | h4 | h4
      · exact .inl fun t ha => h4 t ((Agr.ext hp (by omega) hq).1 ha)
      · exact .inr (.inl h4)
      · exact .inr (.inr (by
        rcases hns with rfl | rfl
        · exact h4
        · exact List.mem_cons_of_mem _ h4))
  · by_cases hip : i = p
    · subst hip; exact .inl knp
    · rw [kn0 i (by omega)]; exact h.k012 i (by omega)

/-- A new object. -/
theorem Cert.stepA (hp : PlanOk ops l) {d : CD} {p : Nat} {s : DS} (h : Cert P ih ops l t0 M0 T0 d p s) {o : Oper} {B : Nat} (hl : l[p]? = some (o, B)) (h3p : ∀ j, bitC B j = true → d.kn j ≠ 3) {v : CV} {t' : Tmps} (ht : TStep s.t t' o v) {ob : CO}
    (hro : isRo ob = false) (hg : guardC ops.toList s.t o.guard = some true) (hv : ∀ m, copT P (T0 + p) o.op m s.t = .mem v (m.newAt (T0 + p) ob)) :
    Cert P ih ops l t0 M0 T0 (d.ext p 1 v) (p + 1) ⟨t', s.cur, s.cl, s.hist, (p, T0 + p, ob) :: s.as, s.ns⟩ := by
  obtain ⟨h1, h2, h3⟩ := h.tmps (kn := 1) hp (by decide) hl ht
  have kn0 : ∀ i, i < p → (d.ext p 1 v).kn i = d.kn i := fun i hi => if_neg (by omega)
  have val0 : ∀ i, i < p → (d.ext p 1 v).val i = d.val i := fun i hi => if_neg (by omega)
  have knp : (d.ext p 1 v).kn p = 1 := if_pos rfl
  have valp : (d.ext p 1 v).val p = v := if_pos rfl
  have hagr := h.agr hp (hp.lt hl) (Nat.le_refl p) hl h3p
  have gcong : ∀ t, Agr ops t0 d.val B o t → guardC ops.toList t o.guard = guardC ops.toList s.t o.guard := fun t ha => guardC_congr (ha.eq hagr)
  have notin : ∀ T o', (p, T, o') ∉ s.as := fun T o' hm => Nat.lt_irrefl _ (h.asin p T o' hm).1
  refine ⟨h.cur, h.cl, h.hist.trans (histOf_congr fun i hi => ⟨rfl, rfl⟩), fun k hk => ?_, fun i hi hk => ?_, h.chain, h.st0, h.cls, ⟨fun j T o' hj => ?_, fun j T o1 T' o2 hj1 hj2 => ?_⟩, fun j T ob' hj => ?_, h1, h2, h3, fun i q B' hi hq hk t ha => ?_, fun i q B' hi hq hk t ha => ?_, fun k q B' hk hq t ha => ?_, fun i q B' hi hq hk => ?_, fun i hi => ?_, h.cl3' hp hl (fun _ => h3p)⟩
  · obtain ⟨a1, a2⟩ := h.wlt k hk
    exact ⟨Nat.lt_succ_of_lt a1, by show (d.ext p 1 v).kn (d.wi k) = 2; rw [kn0 _ a1]; exact a2⟩
  · by_cases hip : i = p
    · subst hip; rw [knp] at hk; cases hk
    · rw [kn0 i (by omega)] at hk
      exact h.win i (by omega) hk
  · rcases List.mem_cons.1 hj with hj | hj
    · cases hj; exact ⟨rfl, hro⟩
    · exact h.asok.tag j T o' hj
  · rcases List.mem_cons.1 hj1 with hj1 | hj1 <;> rcases List.mem_cons.1 hj2 with hj2 | hj2
    · cases hj1; cases hj2; rfl
    · cases hj1; exact absurd hj2 (notin _ _)
    · cases hj2; exact absurd hj1 (notin _ _)
    · exact h.asok.one j T o1 T' o2 hj1 hj2
  · rcases List.mem_cons.1 hj with hj | hj
    · cases hj; exact ⟨by omega, knp⟩
    · obtain ⟨a1, a2⟩ := h.asin j T ob' hj
      exact ⟨by omega, by rw [kn0 j a1]; exact a2⟩
  · by_cases hip : i = p
    · subst hip
      rw [hl] at hq; cases hq
      have ha' := (Agr.ext hp (Nat.le_refl _) hl).1 ha
      rw [valp, gcong t ha']
      refine ⟨hg, ob, List.mem_cons_self .., fun m => ?_⟩
      rw [copT_congr fun u hu => ha'.eq hagr u (.inl hu)]
      exact hv m
    · rw [kn0 i (by omega)] at hk
      rw [val0 i (by omega)]
      obtain ⟨b1, ob', b2, b3⟩ := h.vA i q B' (by omega) hq hk t ((Agr.ext hp (by omega) hq).1 ha)
      exact ⟨b1, ob', List.mem_cons_of_mem _ b2, b3⟩
  · by_cases hip : i = p
    · subst hip; rw [knp] at hk; cases hk
    · rw [kn0 i (by omega)] at hk
      rw [val0 i (by omega)]
      rcases h.vN i q B' (by omega) hq hk t ((Agr.ext hp (by omega) hq).1 ha) with h4 | ⟨h4, h5⟩
      · exact .inl h4
      · refine .inr ⟨h4, fun c hc h6 h7 => ?_⟩
        have := h5 c hc h6 h7
        show cop P q.op (memAt d ((p, T0 + p, ob) :: s.as) B' c) t = _
        rw [memAt_skip hp (by omega) hq]; exact this
  · have hk' : k < d.K := hk
    obtain ⟨a1, a2⟩ := h.wlt k hk'
    show _ ∧ outV ih (memAt d ((p, T0 + p, ob) :: s.as) B' k) (cop P q.op (memAt d ((p, T0 + p, ob) :: s.as) B' k) t) = some ((d.ext p 1 v).val (d.wi k), _)
    rw [val0 _ a1, memAt_skip hp (Nat.le_of_lt a1) hq]
    exact h.vW k q B' hk' hq t ((Agr.ext hp (Nat.le_of_lt a1) hq).1 ha)
  · by_cases hip : i = p
    · subst hip; rw [knp] at hk; cases hk
    · rw [kn0 i (by omega)] at hk
      rw [val0 i (by omega)]
      rcases h.nall i q B' (by omega) hq hk with h4 | h4 | h4
      · exact .inl fun t ha => h4 t ((Agr.ext hp (by omega) hq).1 ha)
      · exact .inr (.inl h4)
      · exact .inr (.inr h4)
  · by_cases hip : i = p
    · subst hip; exact .inr (.inl knp)
    · rw [kn0 i (by omega)]; exact h.k012 i (by omega)

def CD.extW (d : CD) (p : Nat) (v : CV) (m' : Mem) (B : Nat) : CD := { d.ext p 2 v with wi := fun k => if k = d.K then p else d.wi k, st := fun k => if k = d.K + 1 then (m', B) else d.st k, K := d.K + 1 }

/-- An operation that turns memory. -/
theorem Cert.stepW (hp : PlanOk ops l) {d : CD} {p : Nat} {s : DS} (h : Cert P ih ops l t0 M0 T0 d p s) {o : Oper} {B : Nat} (hl : l[p]? = some (o, B)) (h3p : ∀ j, bitC B j = true → d.kn j ≠ 3) {v : CV} {t' : Tmps} (ht : TStep s.t t' o v) {m' : Mem}
    (hg : guardC ops.toList s.t o.guard = some true) (hv : outV ih (memAt d s.as B d.K) (cop P o.op (memAt d s.as B d.K) s.t) = some (v, m'))
    (hch : chainC B s.hist = true) (hag : againN P s.t B B m' s.as s.ns = true) :
    Cert P ih ops l t0 M0 T0 (d.extW p v m' B) (p + 1) ⟨t', m', B, (p, s.cl, s.cur) :: s.hist, s.as, s.ns⟩ := by
  obtain ⟨h1, h2, h3⟩ := h.tmps (kn := 2) hp (by decide) hl ht
  have kn0 : ∀ i, i < p → (d.ext p 2 v).kn i = d.kn i := fun i hi => if_neg (by omega)
  have val0 : ∀ i, i < p → (d.ext p 2 v).val i = d.val i := fun i hi => if_neg (by omega)
  have knp : (d.ext p 2 v).kn p = 2 := if_pos rfl
  have valp : (d.ext p 2 v).val p = v := if_pos rfl
  have wi0 : ∀ k, k < d.K → (d.extW p v m' B).wi k = d.wi k := fun k hk => if_neg (by omega)
  have wiK : (d.extW p v m' B).wi d.K = p := if_pos rfl
  have stc : ∀ c, c ≤ d.K → (d.extW p v m' B).st c = d.st c := fun c hc => if_neg (by omega)
  have stK : (d.extW p v m' B).st (d.K + 1) = (m', B) := if_pos rfl
  have mem0 : ∀ B' c, c ≤ d.K → memAt (d.extW p v m' B) s.as B' c = memAt d s.as B' c := fun B' c hc => by unfold memAt; rw [stc c hc]
  have hagr := h.agr hp (hp.lt hl) (Nat.le_refl p) hl h3p
  have gcong : ∀ t, Agr ops t0 d.val B o t → guardC ops.toList t o.guard = guardC ops.toList s.t o.guard := fun t ha => guardC_congr (ha.eq hagr)
  refine ⟨by show m' = ((d.extW p v m' B).st (d.K + 1)).1; rw [stK], by show B = ((d.extW p v m' B).st (d.K + 1)).2; rw [stK], ?_, fun k hk => ?_, fun i hi hk => ?_, fun k hk q B' hq => ?_, by rw [stc 0 (Nat.zero_le _)]; exact h.st0, fun k hk q B' hq => ?_, h.asok, fun j T ob hj => ?_, h1, h2, h3, fun i q B' hi hq hk t ha => ?_, fun i q B' hi hq hk t ha => ?_, fun k q B' hk hq t ha => ?_, fun i q B' hi hq hk => ?_, fun i hi => ?_, h.cl3' (v := v) hp hl (fun _ => h3p)⟩
  · show (p, s.cl, s.cur) :: s.hist = ((d.extW p v m' B).wi d.K, ((d.extW p v m' B).st d.K).2, ((d.extW p v m' B).st d.K).1) :: histOf (d.extW p v m' B) d.K
    rw [wiK, stc d.K (Nat.le_refl _), h.cl, h.cur, h.hist]
    rw [histOf_congr (d := d.extW p v m' B) (d' := d) fun i hi => ⟨wi0 i hi, stc i (by omega)⟩]
  · have hk : k < d.K + 1 := hk
    by_cases hkK : k = d.K
    · subst hkK
      rw [wiK]; exact ⟨by omega, knp⟩
    · rw [wi0 k (by omega)]
      obtain ⟨a1, a2⟩ := h.wlt k (by omega)
      exact ⟨by omega, by show (d.ext p 2 v).kn (d.wi k) = 2; rw [kn0 _ a1]; exact a2⟩
  · by_cases hip : i = p
    · subst hip; exact ⟨d.K, Nat.lt_succ_self _, wiK⟩
    · have hk : (d.ext p 2 v).kn i = 2 := hk
      rw [kn0 i (by omega)] at hk
      obtain ⟨k, a1, a2⟩ := h.win i (by omega) hk
      exact ⟨k, Nat.lt_succ_of_lt a1, by rw [wi0 k a1]; exact a2⟩
  · have hk : k + 1 < d.K + 1 := hk
    by_cases hkK : k + 1 = d.K
    · rw [hkK, wiK, hl] at hq; cases hq
      rw [wi0 k (by omega)]
      rw [h.hist, ← hkK] at hch
      exact hch
    · rw [wi0 (k + 1) (by omega)] at hq
      rw [wi0 k (by omega)]
      exact h.chain k (by omega) q B' hq
  · have hk : k < d.K + 1 := hk
    by_cases hkK : k = d.K
    · subst hkK
      rw [wiK, hl] at hq; cases hq
      rw [stK]
    · rw [wi0 k (by omega)] at hq
      rw [stc (k + 1) (by omega)]
      exact h.cls k (by omega) q B' hq
  · obtain ⟨a1, a2⟩ := h.asin j T ob hj
    exact ⟨by omega, by show (d.ext p 2 v).kn j = 1; rw [kn0 j a1]; exact a2⟩
  · have hk : (d.ext p 2 v).kn i = 1 := hk
    by_cases hip : i = p
    · subst hip; rw [knp] at hk; cases hk
    · rw [kn0 i (by omega)] at hk
      show _ ∧ ∃ ob, _ ∧ ∀ m, copT P (T0 + i) q.op m t = .mem ((d.ext p 2 v).val i) _
      rw [val0 i (by omega)]
      exact h.vA i q B' (by omega) hq hk t ((Agr.ext (kn := 2) hp (by omega) hq).1 ha)
  · have hk : (d.ext p 2 v).kn i = 0 := hk
    by_cases hip : i = p
    · subst hip; rw [knp] at hk; cases hk
    · rw [kn0 i (by omega)] at hk
      have ha' := (Agr.ext (kn := 2) hp (by omega) hq).1 ha
      show (_ ∧ (d.ext p 2 v).val i = undefC) ∨ (_ ∧ ∀ c, _ → _ → _ → cop P q.op _ t = .val ((d.ext p 2 v).val i))
      rw [val0 i (by omega)]
      rcases h.vN i q B' (by omega) hq hk t ha' with h4 | ⟨h4, h5⟩
      · exact .inl h4
      · refine .inr ⟨h4, fun c hc h6 h7 => ?_⟩
        have hc : c ≤ d.K + 1 := hc
        by_cases hcK : c = d.K + 1
        · subst hcK
          have hb : bitC B i = false := h7 d.K o B (by omega) (by rw [wiK]; exact hl)
          have hm1 : memAt (d.extW p v m' B) s.as B' (d.K + 1) = addP (pickA B' B) s.as m' := by unfold memAt; rw [stK]
          rw [hm1]
          rcases h.nall i q B' (by omega) hq hk with h8 | h8 | h8
          · rw [h8 t ha'] at h4; cases h4
          · have := h5 d.K (Nat.le_refl _) (fun k hk _ => hk) (fun k o' B'' hk ho' => h7 k o' B'' (by omega) (by rw [wi0 k hk]; exact ho'))
            rw [← this]
            exact copT_pure h8
          · have := againN_spec hag i q B' _ h8 hb
            rw [← this]
            exact copT_congr fun u hu => ha'.eq (h.agr hp (hp.lt hl) (by omega) hq (h.cl3 i q B' (by omega) hq (by rw [hk]; simp))) u (.inl hu)
        · rw [mem0 B' c (by omega)]
          refine h5 c (by omega) (fun k hk hb => ?_) (fun k o' B'' hk ho' => h7 k o' B'' hk (by rw [wi0 k (by omega)]; exact ho'))
          exact h6 k (Nat.lt_succ_of_lt hk) (by rw [wi0 k hk]; exact hb)
  · have hk : k < d.K + 1 := hk
    by_cases hkK : k = d.K
    · subst hkK
      rw [wiK, hl] at hq; cases hq
      have ha' := (Agr.ext (kn := 2) hp (Nat.le_refl _) hl).1 ha
      rw [gcong t ha', mem0 B _ (Nat.le_refl _), wiK, stK]
      refine ⟨hg, ?_⟩
      show _ = some ((d.ext p 2 v).val p, m')
      rw [valp, ← hv]
      exact congrArg _ (copT_congr fun u hu => ha'.eq hagr u (.inl hu))
    · rw [wi0 k (by omega)] at hq
      obtain ⟨a1, a2⟩ := h.wlt k (by omega)
      rw [mem0 B' k (by omega), wi0 k (by omega), stc (k + 1) (by omega)]
      show _ ∧ _ = some ((d.ext p 2 v).val (d.wi k), _)
      rw [val0 _ a1]
      exact h.vW k q B' (by omega) hq t ((Agr.ext (kn := 2) hp (Nat.le_of_lt a1) hq).1 ha)
  · have hk : (d.ext p 2 v).kn i = 0 := hk
    by_cases hip : i = p
    · subst hip; rw [knp] at hk; cases hk
    · rw [kn0 i (by omega)] at hk
      show _ ∨ _ ∨ (i, q, B', (d.ext p 2 v).val i) ∈ s.ns
      rw [val0 i (by omega)]
      rcases h.nall i q B' (by omega) hq hk with h4 | h4 | h4
      · exact .inl fun t ha => h4 t ((Agr.ext (kn := 2) hp (by omega) hq).1 ha)
      · exact .inr (.inl h4)
      · exact .inr (.inr h4)
  · show (d.ext p 2 v).kn i = 0 ∨ (d.ext p 2 v).kn i = 1 ∨ (d.ext p 2 v).kn i = 2 ∨ (d.ext p 2 v).kn i = 3
    by_cases hip : i = p
    · subst hip; exact .inr (.inr (.inl knp))
    · rw [kn0 i (by omega)]; exact h.k012 i (by omega)

theorem newObjC_get {T : Nat} {m : Mem} {ob : CO} (h : newObjC T m = some ob) : m.get T = some ob ∧ isRo ob = false := by
  unfold newObjC at h
  split at h <;> first | (rename_i hq; simp only [Option.some.injEq] at h; subst h; exact ⟨hq, rfl⟩) | cases h

/-- An operation that is left out: it comes behind the call that panics. -/
theorem Cert.skip (hp : PlanOk ops l) {d : CD} {p : Nat} {s : DS} (h : Cert P ih ops l t0 M0 T0 d p s) {o : Oper} {B : Nat} (hl : l[p]? = some (o, B)) : Cert P ih ops l t0 M0 T0 (d.ext p 3 undefC) (p + 1) s := by
  have kn0 : ∀ i, i < p → (d.ext p 3 undefC).kn i = d.kn i := fun i hi => if_neg (by omega)
  have val0 : ∀ i, i < p → (d.ext p 3 undefC).val i = d.val i := fun i hi => if_neg (by omega)
  have knp : (d.ext p 3 undefC).kn p = 3 := if_pos rfl
  have ne : ∀ {i n}, i < p + 1 → (d.ext p 3 undefC).kn i = n → n ≠ 3 → i < p := fun {i n} hi hk hn => by
    by_cases hip : i = p
    · subst hip; rw [knp] at hk; exact absurd hk.symm hn
    · omega
  refine ⟨h.cur, h.cl, h.hist.trans (histOf_congr fun i hi => ⟨rfl, rfl⟩), fun k hk => ?_, fun i hi hk => ?_, h.chain, h.st0, h.cls, h.asok, fun j T ob hj => ?_, fun i q u hi h3 hq hd => ?_, fun u hu => ?_, h.tsz, fun i q B' hi hq hk t ha => ?_, fun i q B' hi hq hk t ha => ?_, fun k q B' hk hq t ha => ?_, fun i q B' hi hq hk => ?_, fun i hi => ?_, h.cl3' hp hl (fun hq => absurd rfl hq)⟩
  · obtain ⟨a1, a2⟩ := h.wlt k hk
    exact ⟨Nat.lt_succ_of_lt a1, by show (d.ext p 3 undefC).kn (d.wi k) = 2; rw [kn0 _ a1]; exact a2⟩
  · have hip := ne hi hk (by decide)
    rw [kn0 i hip] at hk
    exact h.win i hip hk
  · obtain ⟨a1, a2⟩ := h.asin j T ob hj
    exact ⟨by omega, by rw [kn0 j a1]; exact a2⟩
  · have hip := ne hi rfl h3
    rw [kn0 i hip] at h3
    rw [val0 i hip]
    exact h.tv1 i q u hip h3 hq hd
  · exact h.tv0 u fun i q hi h3 hq => hu i q (by omega) (by rw [kn0 i hi]; exact h3) hq
  · have hip := ne hi hk (by decide)
    rw [kn0 i hip] at hk
    rw [val0 i hip]
    exact h.vA i q B' hip hq hk t ((Agr.ext hp (by omega) hq).1 ha)
  · have hip := ne hi hk (by decide)
    rw [kn0 i hip] at hk
    rw [val0 i hip]
    exact h.vN i q B' hip hq hk t ((Agr.ext hp (by omega) hq).1 ha)
  · have hk' : k < d.K := hk
    obtain ⟨a1, a2⟩ := h.wlt k hk'
    show _ ∧ outV ih (memAt d s.as B' k) _ = some ((d.ext p 3 undefC).val (d.wi k), _)
    rw [val0 _ a1]
    exact h.vW k q B' hk' hq t ((Agr.ext hp (Nat.le_of_lt a1) hq).1 ha)
  · have hip := ne hi hk (by decide)
    rw [kn0 i hip] at hk
    rw [val0 i hip]
    rcases h.nall i q B' hip hq hk with h4 | h4 | h4
    · exact .inl fun t ha => h4 t ((Agr.ext hp (by omega) hq).1 ha)
    · exact .inr (.inl h4)
    · exact .inr (.inr h4)
  · by_cases hip : i = p
    · subst hip; exact .inr (.inr (.inr knp))
    · rw [kn0 i (by omega)]; exact h.k012 i (by omega)

/-- The call z panics, once what it waits for is done; what is left out waits for it. -/
structure PanOk (P : Program) (ih : Task → Res) (ops : Array Oper) (l : List (Oper × Nat)) (t0 : Tmps) (d : CD) (as : List (Nat × Nat × CO)) (p z : Nat) (v : CV) (mp : Mem) : Prop where
  lt : z < p
  kn : d.kn z = 3
  go : ∀ o B, l[z]? = some (o, B) → (∀ k, k + 1 = d.K → bitC B (d.wi k) = true) ∧ ∀ t, Agr ops t0 d.val B o t → guardC ops.toList t o.guard = some true ∧ ∃ f args, cop P o.op (memAt d as B d.K) t = .call f args ∧ ih (.call f args (memAt d as B d.K)) = .pan v mp
  rest : ∀ j o B, j < p → l[j]? = some (o, B) → d.kn j = 3 → j = z ∨ bitC B z = true

theorem PanOk.step (hp : PlanOk ops l) {d : CD} {as as' : List (Nat × Nat × CO)} {p z : Nat} {v u : CV} {mp : Mem} (h : PanOk P ih ops l t0 d as p z v mp) {o : Oper} {B kn : Nat} (hl : l[p]? = some (o, B)) (hk : kn = 3 → bitC B z = true) (has : as' = as ∨ ∃ T ob, as' = (p, T, ob) :: as) :
    PanOk P ih ops l t0 (d.ext p kn u) as' (p + 1) z v mp := by
  have hzp := h.lt
  refine ⟨by omega, by show (if z = p then kn else d.kn z) = 3; rw [if_neg (by omega)]; exact h.kn, fun q B' hq => ?_, fun j q B' hj hq h3 => ?_⟩
  · obtain ⟨h1, h2⟩ := h.go q B' hq
    refine ⟨h1, fun t ha => ?_⟩
    obtain ⟨h4, f, args, h5, h6⟩ := h2 t ((Agr.ext hp (by omega) hq).1 ha)
    have hm : memAt (d.ext p kn u) as' B' (d.ext p kn u).K = memAt d as B' d.K := by
      rcases has with rfl | ⟨T, ob, rfl⟩
      · rfl
      · show memAt d ((p, T, ob) :: as) B' d.K = _
        exact memAt_skip hp (by omega) hq
    rw [hm]
    exact ⟨h4, f, args, h5, h6⟩
  · by_cases hjp : j = p
    · subst hjp
      rw [hl] at hq; cases hq
      have : (if j = j then kn else d.kn j) = 3 := h3
      rw [if_pos rfl] at this
      exact .inr (hk this)
    · have : (if j = p then kn else d.kn j) = 3 := h3
      rw [if_neg hjp] at this
      exact h.rest j q B' (by omega) hq this

/-- What a run through a region has shown. -/
def DOut (P : Program) (ih : Task → Res) (ops : Array Oper) (l : List (Oper × Nat)) (t0 : Tmps) (M0 : Mem) (T0 n : Nat) : DRes → Prop
  | .no _ => True
  | .ok f => ∃ d, Cert P ih ops l t0 M0 T0 d n f ∧ ∀ j, j < n → d.kn j ≠ 3
  | .pan v mp f => ∃ d z, Cert P ih ops l t0 M0 T0 d n f ∧ PanOk P ih ops l t0 d f.as n z v mp
  | .fin tF oF f => ∃ d k o B, n = k + 1 ∧ Cert P ih ops l t0 M0 T0 d k f ∧ (∀ j, j < k → d.kn j ≠ 3) ∧ l[k]? = some (o, B) ∧ noneG o.guard = true ∧ noneD o.dst = true ∧ drawFin P ops.toList T0 o B f = .fin tF oF f

theorem dout_no {n : Nat} {f : DRes} (h : isNo f) : DOut P ih ops l t0 M0 T0 n f := by
  cases f <;> first | trivial | exact h.elim

theorem drawRest_cert (hp : PlanOk ops l) {z : Nat} {v : CV} {mp : Mem} {f : DRes} (hno : ¬ isNo f) : ∀ (r : List (Oper × Nat)) (p : Nat) (d : CD) (s : DS), (∀ j, r[j]? = l[p + j]?) → Cert P ih ops l t0 M0 T0 d p s → PanOk P ih ops l t0 d s.as p z v mp → drawRest P ops.toList T0 z v mp r p s = f → ∃ d' s', f = .pan v mp s' ∧ Cert P ih ops l t0 M0 T0 d' (p + r.length) s' ∧ PanOk P ih ops l t0 d' s'.as (p + r.length) z v mp
  | [], p, d, s, _, h, hz, hr => by
    change DRes.pan v mp s = f at hr
    exact ⟨d, s, hr.symm, h, hz⟩
  | (o, B) :: r, p, d, s, hl, h, hz, hr => by
    have hlp : l[p]? = some (o, B) := by have := hl 0; simpa using this.symm
    have hl' : ∀ j, r[j]? = l[p + 1 + j]? := fun j => by
      have := hl (j + 1)
      rw [List.getElem?_cons_succ] at this
      rw [this, show p + (j + 1) = p + 1 + j by omega]
    have hlen : p + ((o, B) :: r).length = p + 1 + r.length := by rw [List.length_cons]; omega
    rw [hlen]
    have hr' : (match bitC B z with | true => drawRest P ops.toList T0 z v mp r (p + 1) | false => drawQ P ops.toList T0 o p B (drawRest P ops.toList T0 z v mp r (p + 1))) s = f := hr
    cases hb : bitC B z with
    | true =>
      rw [hb] at hr'
      exact drawRest_cert hp hno r (p + 1) _ s hl' (h.skip hp hlp) (hz.step (u := undefC) hp hlp (fun _ => hb) (.inl rfl)) hr'
    | false =>
      rw [hb] at hr'
      have hr : drawQ P ops.toList T0 o p B (drawRest P ops.toList T0 z v mp r (p + 1)) s = f := hr'
      have h3p : ∀ j, bitC B j = true → d.kn j ≠ 3 := fun j hj h3 => by
        have hlow := (hp.mask p o B hlp).lt j hj
        obtain ⟨⟨q, B'⟩, hq⟩ : ∃ x, l[j]? = some x := ⟨_, List.getElem?_eq_getElem (by have := (List.getElem?_eq_some_iff.1 hlp).1; omega)⟩
        rcases hz.rest j q B' hlow hq h3 with rfl | hb2
        · rw [hj] at hb; cases hb
        · have := (hp.mask j q B' hq).anc _ (hp.mask p o B hlp).clo (fun q' hq' e he hbd => (hp.mask p o B hlp).clo _ q' hq' hj e he hbd) z hb2
          rw [this] at hb; cases hb
      unfold drawQ at hr
      split at hr
      · rename_i hg
        obtain ⟨t', hk, h1, h2, h3⟩ := drawSet_ok hno hr
        exact drawRest_cert hp hno r (p + 1) _ _ hl' (h.stepN hp hlp h3p ⟨h1, h2, h3⟩ (.inl rfl) (.inl hg) (.inl ⟨hg, rfl⟩)) (hz.step hp hlp (fun hq => by cases hq) (.inl rfl)) hk
      · rename_i hg
        split at hr
        · rename_i hnew
          unfold drawNew at hr
          split at hr
          · rename_i v' m' hout
            split at hr
            · rename_i ob hob
              obtain ⟨t', hk, h1, h2, h3⟩ := drawSet_ok hno hr
              have hout : copT P (T0 + p) o.op ⟨0, .nil⟩ s.t = .mem v' m' := hout
              rcases copT_new (T := T0 + p) hnew s.t with hn | ⟨u, ob2, hro, hall⟩
              · obtain ⟨w, hw⟩ := hn ⟨0, .nil⟩
                rw [hw] at hout; cases hout
              · rw [hall] at hout
                injection hout with e1 e2
                subst e1; subst e2
                obtain ⟨g1, g2⟩ := newObjC_get hob
                have g1 : ((⟨0, .nil⟩ : Mem).newAt (T0 + p) ob2).get (T0 + p) = some ob := g1
                rw [Mem.get_newAt, if_pos rfl] at g1
                cases g1
                exact drawRest_cert hp hno r (p + 1) _ _ hl' (h.stepA hp hlp h3p ⟨h1, h2, h3⟩ hro hg hall) (hz.step hp hlp (fun hq => by cases hq) (.inr ⟨_, _, rfl⟩)) hk
            · subst hr; exact absurd trivial hno
          · subst hr; exact absurd trivial hno
          · subst hr; exact absurd trivial hno
        · unfold drawBes at hr
          have hmem : addP (pickA B s.cl) s.as s.cur = memAt d s.as B d.K := by unfold memAt; rw [h.cur, h.cl]
          rw [hmem] at hr
          have hcop : copT P (memAt d s.as B d.K).nxt o.op (memAt d s.as B d.K) s.t = cop P o.op (memAt d s.as B d.K) s.t := rfl
          rw [hcop] at hr
          unfold drawBeside at hr
          split at hr
          · rename_i v' hout
            unfold drawVal at hr
            split at hr
            · rename_i hpure
              obtain ⟨t', hk, h1, h2, h3⟩ := drawSet_ok hno hr
              exact drawRest_cert hp hno r (p + 1) _ _ hl' (h.stepN hp hlp h3p ⟨h1, h2, h3⟩ (.inl rfl) (.inr (.inl hpure)) (.inr ⟨hg, fun c _ _ => by rw [← hout]; exact copT_pure hpure⟩)) (hz.step hp hlp (fun hq => by cases hq) (.inl rfl)) hk
            · split at hr
              · rename_i hh
                obtain ⟨t', hk, h1, h2, h3⟩ := drawSet_ok hno hr
                refine drawRest_cert hp hno r (p + 1) _ _ hl' (h.stepN hp hlp h3p ⟨h1, h2, h3⟩ (.inr rfl) (.inr (.inr (List.mem_cons_self ..))) (.inr ⟨hg, fun c hc hb2 => ?_⟩)) (hz.step hp hlp (fun hq => by cases hq) (.inl rfl)) hk
                by_cases hcK : c = d.K
                · subst hcK; exact hout
                · rw [h.hist] at hh
                  refine histN_spec hh c (by omega) fun k' h4 h5 => ?_
                  cases hq : bitC B (d.wi k') with
                  | false => rfl
                  | true => have := hb2 k' h5 hq; omega
              · subst hr; exact absurd trivial hno
          · subst hr; exact absurd trivial hno
          · subst hr; exact absurd trivial hno
      · subst hr; exact absurd trivial hno

theorem drawAll_cert (hp : PlanOk ops l) {f : DRes} (hno : ¬ isNo f) : ∀ (r : List (Oper × Nat)) (p : Nat) (d : CD) (s : DS), (∀ j, r[j]? = l[p + j]?) → Cert P ih ops l t0 M0 T0 d p s → (∀ j, j < p → d.kn j ≠ 3) → drawAll P ih ops.toList T0 r p s = f → DOut P ih ops l t0 M0 T0 (p + r.length) f
  | [], p, d, s, _, h, h0, hr => by
    change DRes.ok s = f at hr
    subst hr
    exact ⟨d, h, h0⟩
  | (o, B) :: r, p, d, s, hl, h, h0, hr => by
    have hlp : l[p]? = some (o, B) := by have := hl 0; simpa using this.symm
    have hl' : ∀ j, r[j]? = l[p + 1 + j]? := fun j => by
      have := hl (j + 1)
      rw [List.getElem?_cons_succ] at this
      rw [this, show p + (j + 1) = p + 1 + j by omega]
    have hlen : p + ((o, B) :: r).length = p + 1 + r.length := by rw [List.length_cons]; omega
    have h3p : ∀ j, bitC B j = true → d.kn j ≠ 3 := fun j hj => h0 j ((hp.mask p o B hlp).lt j hj)
    have h0' : ∀ kn v, kn ≠ 3 → ∀ j, j < p + 1 → (d.ext p kn v).kn j ≠ 3 := fun kn v hk j hj => by
      show (if j = p then kn else d.kn j) ≠ 3
      by_cases hjp : j = p
      · rw [if_pos hjp]; exact hk
      · rw [if_neg hjp]; exact h0 j (by omega)
    rw [hlen]
    change drawStep P ih ops.toList T0 r o p B (drawAll P ih ops.toList T0 r (p + 1)) (fun v m => drawRest P ops.toList T0 p v m r (p + 1)) s = f at hr
    unfold drawStep at hr
    split at hr
    · -- the last operation beside other writes
      rename_i hlast
      unfold lastF at hlast
      split at hlast
      · simp only [Bool.and_eq_true] at hlast
        have hf : ∃ tF oF, f = .fin tF oF s := by
          have hr2 := hr
          unfold drawFin at hr2
          split at hr2 <;> first | (subst hr2; exact absurd trivial hno) | skip
          split at hr2 <;> first | (subst hr2; exact absurd trivial hno) | skip
          split at hr2 <;> first | (subst hr2; exact absurd trivial hno) | skip
          unfold finObj at hr2
          split at hr2 <;> first | (subst hr2; exact absurd trivial hno) | skip
          split at hr2 <;> first | (subst hr2; exact absurd trivial hno) | skip
          exact ⟨_, _, hr2.symm⟩
        obtain ⟨tF, oF, rfl⟩ := hf
        exact ⟨d, p, o, B, rfl, h, h0, hlp, hlast.1.2.1, hlast.1.2.2, hr⟩
      · cases hlast
    · unfold drawOne at hr
      split at hr
      · rename_i hg
        obtain ⟨t', hk, h1, h2, h3⟩ := drawSet_ok hno hr
        exact drawAll_cert hp hno r (p + 1) _ _ hl' (h.stepN hp hlp h3p ⟨h1, h2, h3⟩ (.inl rfl) (.inl hg) (.inl ⟨hg, rfl⟩)) (h0' 0 _ (by decide)) hk
      · rename_i hg
        split at hr
        · rename_i hnew
          unfold drawNew at hr
          split at hr
          · rename_i v m' hout
            split at hr
            · rename_i ob hob
              obtain ⟨t', hk, h1, h2, h3⟩ := drawSet_ok hno hr
              have hout : copT P (T0 + p) o.op ⟨0, .nil⟩ s.t = .mem v m' := hout
              rcases copT_new (T := T0 + p) hnew s.t with hn | ⟨u, ob2, hro, hall⟩
              · obtain ⟨w, hw⟩ := hn ⟨0, .nil⟩
                rw [hw] at hout; cases hout
              · rw [hall] at hout
                injection hout with e1 e2
                subst e1; subst e2
                obtain ⟨g1, g2⟩ := newObjC_get hob
                have g1 : ((⟨0, .nil⟩ : Mem).newAt (T0 + p) ob2).get (T0 + p) = some ob := g1
                rw [Mem.get_newAt, if_pos rfl] at g1
                cases g1
                exact drawAll_cert hp hno r (p + 1) _ _ hl' (h.stepA hp hlp h3p ⟨h1, h2, h3⟩ hro hg hall) (h0' 1 _ (by decide)) hk
            · subst hr; exact absurd trivial hno
          · subst hr; exact absurd trivial hno
          · subst hr; exact absurd trivial hno
        · unfold drawAt at hr
          have hmem : addP (pickA B s.cl) s.as s.cur = memAt d s.as B d.K := by unfold memAt; rw [h.cur, h.cl]
          rw [hmem] at hr
          have hcop : copT P (memAt d s.as B d.K).nxt o.op (memAt d s.as B d.K) s.t = cop P o.op (memAt d s.as B d.K) s.t := rfl
          rw [hcop] at hr
          -- an operation that turns memory
          have hW : ∀ out, cop P o.op (memAt d s.as B d.K) s.t = out → drawW P p B o.dst s (drawAll P ih ops.toList T0 r (p + 1)) (outV ih (memAt d s.as B d.K) out) = f → DOut P ih ops l t0 M0 T0 (p + 1 + r.length) f := fun out hout hr => by
            unfold drawW at hr
            split at hr
            · rename_i v m' hov
              split at hr
              · rename_i hch
                split at hr
                · rename_i hag
                  obtain ⟨t', hk, h1, h2, h3⟩ := drawSet_ok hno hr
                  exact drawAll_cert hp hno r (p + 1) _ _ hl' (h.stepW hp hlp h3p ⟨h1, h2, h3⟩ hg (by rw [hout]; exact hov) hch hag) (h0' 2 v (by decide)) hk
                · subst hr; exact absurd trivial hno
              · subst hr; exact absurd trivial hno
            · subst hr; exact absurd trivial hno
          unfold drawOut at hr
          split at hr
          · rename_i v hout
            unfold drawVal at hr
            split at hr
            · rename_i hpure
              obtain ⟨t', hk, h1, h2, h3⟩ := drawSet_ok hno hr
              exact drawAll_cert hp hno r (p + 1) _ _ hl' (h.stepN hp hlp h3p ⟨h1, h2, h3⟩ (.inl rfl) (.inr (.inl hpure)) (.inr ⟨hg, fun c _ _ => by rw [← hout]; exact copT_pure hpure⟩)) (h0' 0 _ (by decide)) hk
            · split at hr
              · rename_i hh
                obtain ⟨t', hk, h1, h2, h3⟩ := drawSet_ok hno hr
                refine drawAll_cert hp hno r (p + 1) _ _ hl' (h.stepN hp hlp h3p ⟨h1, h2, h3⟩ (.inr rfl) (.inr (.inr (List.mem_cons_self ..))) (.inr ⟨hg, fun c hc hb => ?_⟩)) (h0' 0 _ (by decide)) hk
                by_cases hcK : c = d.K
                · subst hcK; exact hout
                · rw [h.hist] at hh
                  refine histN_spec hh c (by omega) fun k' h4 h5 => ?_
                  cases hq : bitC B (d.wi k') with
                  | false => rfl
                  | true => have := hb k' h5 hq; omega
              · subst hr; exact absurd trivial hno
          · subst hr; exact absurd trivial hno
          · rename_i g args hout
            unfold drawCall at hr
            split at hr
            · -- the call panics
              rename_i v mp hpan
              unfold drawPan at hr
              split at hr
              · rename_i hch
                have hz : PanOk P ih ops l t0 (d.ext p 3 undefC) s.as (p + 1) p v mp := by
                  refine ⟨by omega, if_pos rfl, fun q B' hq => ?_, fun j q B' hj hq h3 => ?_⟩
                  · rw [hlp] at hq; cases hq
                    refine ⟨fun k hk => ?_, fun t ha => ?_⟩
                    · have hk : k + 1 = d.K := hk
                      rw [h.hist, ← hk] at hch
                      exact hch
                    · have ha' := (Agr.ext hp (Nat.le_refl p) hlp).1 ha
                      have hagr := h.agr hp (hp.lt hlp) (Nat.le_refl p) hlp h3p
                      have e1 : cop P o.op (memAt d s.as B d.K) t = cop P o.op (memAt d s.as B d.K) s.t := copT_congr fun u hu => ha'.eq hagr u (.inl hu)
                      refine ⟨by rw [guardC_congr (ha'.eq hagr)]; exact hg, g, args, ?_, hpan⟩
                      show cop P o.op (memAt d s.as B d.K) t = _
                      rw [e1]; exact hout
                  · by_cases hjp : j = p
                    · exact .inl hjp
                    · have : (if j = p then 3 else d.kn j) = 3 := h3
                      rw [if_neg hjp] at this
                      exact absurd this (h0 j (by omega))
                obtain ⟨d', s', rfl, h4, h5⟩ := drawRest_cert hp hno r (p + 1) _ s hl' (h.skip hp hlp) hz hr
                exact ⟨d', p, h4, h5⟩
              · subst hr; exact absurd trivial hno
            · exact hW (.call g args) hout hr
          · rename_i out hn1 hn2 hn3
            exact hW _ rfl hr
      · subst hr; exact absurd trivial hno
end step
end Go.Cx
