/-
  A concrete evaluator for Go's IR. Part r: regions that draw their order: every order does what the run did.
-/
import Derived.Test.YtelgaffeihgffaaGreatDoorCq
import Derived.OrdersIn
set_option linter.unusedSimpArgs false
set_option linter.unusedVariables false
namespace Go.Cx
open Go Go.RowKit
variable {P : Program}

def Bas.withZ (B : Bas) (Z : Nat → Prop) : Bas := ⟨B.w0, B.F, B.R, Z, B.hF, B.hR⟩
theorem Rel.reZ {B : Bas} {Z Z' : Nat → Prop} {e : Env} {m : Mem} {w : World} (h : Rel (B.withZ Z) e m w) (hz : ∀ t, Z' t → Z t) : Rel (B.withZ Z') e m w :=
  ⟨h.ok, h.inj0, h.own, h.rof, h.glb, h.dom, h.frm, fun t ht => h.zlt t (hz t ht), fun t ht => h.bar t (hz t ht)⟩
/-- Memory that holds less. -/
theorem Rel.sub {B : Bas} {e : Env} {m m1 : Mem} {w : World} (h : Rel B e m w) (hn : m1.nxt = m.nxt) (hm : ∀ t o, m1.get t = some o → m.get t = some o) : Rel B e m1 w :=
  ⟨fun t o ho => h.ok t o (hm t o ho), fun t t' o o' b b' h1 h2 => h.inj0 t t' o o' b b' (hm _ _ h1) (hm _ _ h2), fun t o b h1 => h.own t o b (hm _ _ h1), fun t o b h1 => h.rof t o b (hm _ _ h1), h.glb,
    fun t ht => h.dom t (by rw [← hn]; exact ht), h.frm, fun t ht => by rw [hn]; exact h.zlt t ht, h.bar⟩

theorem outV_ok {ih : Task → Res} {B : Bas} (hih : ∀ k, TaskOk P B k (ih k)) {e : Env} {m m' : Mem} {w : World} {t : Tmps} {a : Act} {o : Oper} {v : CV} {rr : Option Nat} {n : Nat} {K : Act → World → Prop} {Q : Exit → Act → World → Prop}
    (hr : Rel B e m w) (hT : TOk e t a.tmps) (h : outV ih m (cop P o.op m t) = some (v, m'))
    (hK : ∀ e1 V w1, Env.le e e1 → den e1 v = some V → Rel B e1 m' w1 → K (a.put o.dst V) w1) : o.wpIn (FW rr) n P a w K Q := by
  have hout := cop_ok (P := P) (o := o) hr hT
  have hnd : (∀ w, cop P o.op m t ≠ .no w) → (∀ f args, cop P o.op m t ≠ .defer f args) → ∀ c, o.op ≠ .defer c := fun h1 h2 c hc => by
    rcases cop_defer (P := P) (m := m) (t := t) hc with ⟨w, hw⟩ | ⟨f, args, hf⟩
    · exact h1 w hw
    · exact h2 f args hf
  generalize hq : cop P o.op m t = out at *
  cases out with
  | mem u m1 =>
    simp only [outV, Option.some.injEq, Prod.mk.injEq] at h
    obtain ⟨rfl, rfl⟩ := h
    obtain ⟨e1, V, w1, le1, hV, hr1, hrun⟩ := hout
    rcases hrun with hrun | ⟨hrun, rfl⟩
    · exact upon_of_run (hnd (by simp) (by simp)) hrun (hK e1 V w1 le1 hV hr1)
    · exact upon_of_run (hnd (by simp) (by simp)) hrun (hK e1 undef w1 le1 hV hr1)
  | call f args =>
    obtain ⟨as, has, hrun⟩ := hout
    have hcall := hih (.call f args m)
    simp only [outV] at h
    generalize ih (.call f args m) = res at h hcall
    cases res with
    | ret u m1 =>
      simp only [retV, Option.some.injEq, Prod.mk.injEq] at h
      obtain ⟨rfl, rfl⟩ := h
      rcases hcall with ⟨henter, hc⟩ | ⟨t0, off, rfl, rfl, rfl, hv⟩
      · refine upon_of_run (hnd (by simp) (by simp)) (hrun.trans (henter _ _)) ?_
        refine ⟨fun hd => by simp [FW, Fence.wide] at hd, callsIn_FW ((hc e as w has hr).mono ?_)⟩
        rintro en w1 ⟨e1, V, le1, hV, rfl, hr1⟩
        exact hK e1 V w1 le1 hV hr1
      · obtain ⟨V, l, hV, h5, rfl⟩ := denL_cons has
        simp only [denL, Option.some.injEq] at h5; subst h5
        exact upon_of_run (hnd (by simp) (by simp)) (hrun.trans (hv V w)) (hK e V w (Env.le.refl e) hV hr)
    | no => cases h
    | pan => cases h
    | ex => cases h
  | yield lo args =>
    obtain ⟨as, b, has, hb, hrun⟩ := hout
    have hy := yieldC_ok hih lo args m
    simp only [outV] at h
    generalize yieldC ih lo args m = res at h hy
    cases res with
    | ret u m1 =>
      simp only [retV, Option.some.injEq, Prod.mk.injEq] at h
      obtain ⟨rfl, rfl⟩ := h
      obtain ⟨f, tmps, asg, body, k1, k2⟩ := hy e as b w rr (n - 1) hb has hr
      refine upon_of_run (hnd (by simp) (by simp)) (hrun.trans k1) ?_
      refine ⟨fun hd => by simp [FW, Fence.wide] at hd, k2.mono ?_⟩
      rintro en w1 ⟨e1, V, le1, hV, rfl, hr1⟩
      exact hK e1 V w1 le1 hV hr1
    | no => cases h
    | pan => cases h
    | ex => cases h
  | no w => cases h
  | val u => cases h
  | recover => cases h
  | defer f args => cases h
  | panic u => cases h

def Lst (listed : Array Bool) (j : Nat) : Prop := listed.getD j false = true

theorem lst_set {listed : Array Bool} {i j : Nat} (hi : i < listed.size) : Lst (listed.setIfInBounds i true) j ↔ Lst listed j ∨ j = i := by
  unfold Lst
  rw [Array.getD_eq_getD_getElem?, Array.getD_eq_getD_getElem?, Array.getElem?_setIfInBounds]
  by_cases h : i = j
  · subst h; simp [hi]
  · rw [if_neg h]
    constructor
    · exact .inl
    · rintro (h' | rfl)
      · exact h'
      · exact absurd rfl h

section
variable (P) (ops : Array Oper) (t0 : Tmps) (T0 : Nat) (d : CD) (as : List (Nat × Nat × CO)) (B : Bas) (e0 : Env) (ds : List CDef)
/-- Tags of new objects that are still to come. -/
def Zof (listed : Array Bool) (t : Nat) : Prop := B.Z t ∨ ∃ j, j < ops.size ∧ d.kn j = 1 ∧ ¬ Lst listed j ∧ t = T0 + j

structure SimAt (listed : Array Bool) (a : Act) (w : World) (e : Env) (t : Tmps) (m : Mem) (c : Nat) : Prop where
  size : listed.size = ops.size
  le : Env.le e0 e
  clos : Clos ops (Lst listed)
  cK : c ≤ d.K
  cw : ∀ k, k < d.K → (Lst listed (d.wi k) ↔ k < c)
  dok : DOk e ds a.defers
  tok : TOk e t a.tmps
  tsz : t.sz = t0.sz
  t1 : ∀ (j : Nat) (q : Oper) (u : Nat), Lst listed j → ops[j]? = some q → q.dst = some u → t.get u = some (d.val j)
  t2 : ∀ (u : Nat), (∀ (j : Nat) (q : Oper), Lst listed j → ops[j]? = some q → q.dst ≠ some u) → t.get u = t0.get u
  rel : Rel (B.withZ (Zof ops T0 d B listed)) e m w
  ovr : Ovr (fun j => Lst listed j ∧ bitC (d.st c).2 j = false) as (d.st c).1 m
def Sim (c0 : Nat) (listed : Array Bool) (a : Act) (w : World) : Prop := ∃ e t m c, c0 ≤ c ∧ SimAt ops t0 T0 d as B e0 ds listed a w e t m c
end

/-- What is known of the operations that G holds, once the first c0 writes are done. -/
structure FC (P : Program) (ih : Task → Res) (ops : Array Oper) (l : List (Oper × Nat)) (t0 : Tmps) (T0 : Nat) (d : CD) (as : List (Nat × Nat × CO)) (G : Nat → Prop) (c0 : Nat) : Prop where
  dsz : ∀ (i : Nat) (o : Oper) (u : Nat), G i → ops[i]? = some o → o.dst = some u → u < t0.sz
  k012 : ∀ i, G i → d.kn i = 0 ∨ d.kn i = 1 ∨ d.kn i = 2
  win : ∀ i, G i → d.kn i = 2 → ∃ k, k < d.K ∧ d.wi k = i
  wlt : ∀ k, k < d.K → d.wi k < ops.size ∧ d.kn (d.wi k) = 2
  chain : ∀ k, k + 1 < d.K → ∀ o B, l[d.wi (k + 1)]? = some (o, B) → bitC B (d.wi k) = true
  st0 : (d.st 0).2 = 0
  cls : ∀ k, k < d.K → ∀ o B, l[d.wi k]? = some (o, B) → (d.st (k + 1)).2 = B
  asok : AsOk T0 as
  asin : ∀ j T o, (j, T, o) ∈ as → j < ops.size ∧ d.kn j = 1
  vA : ∀ i o B, G i → l[i]? = some (o, B) → d.kn i = 1 → ∀ t, Agr ops t0 d.val B o t → guardC ops.toList t o.guard = some true ∧ ∃ ob, (i, T0 + i, ob) ∈ as ∧ ∀ m, copT P (T0 + i) o.op m t = .mem (d.val i) (m.newAt (T0 + i) ob)
  vN : ∀ i o B, G i → l[i]? = some (o, B) → d.kn i = 0 → ∀ t, Agr ops t0 d.val B o t → (guardC ops.toList t o.guard = some false ∧ d.val i = undefC) ∨
    (guardC ops.toList t o.guard = some true ∧ ∀ c, c0 ≤ c → c ≤ d.K → (∀ k, k < d.K → bitC B (d.wi k) = true → k < c) → (∀ k o' B', k < c → l[d.wi k]? = some (o', B') → bitC B' i = false) → cop P o.op (memAt d as B c) t = .val (d.val i))
  vW : ∀ k o B, G (d.wi k) → c0 ≤ k → k < d.K → l[d.wi k]? = some (o, B) → ∀ t, Agr ops t0 d.val B o t → guardC ops.toList t o.guard = some true ∧ ∃ m', outV ih (memAt d as B k) (cop P o.op (memAt d as B k) t) = some (d.val (d.wi k), m') ∧ m'.nxt = (d.st (k + 1)).1.nxt ∧ ∀ T, m'.get T = (d.st (k + 1)).1.get T

theorem Cert.fc {ih : Task → Res} {ops : Array Oper} {l : List (Oper × Nat)} {t0 : Tmps} {M0 : Mem} {T0 : Nat} {d : CD} {s : DS} {n : Nat} (h : Cert P ih ops l t0 M0 T0 d n s) (hn : n ≤ ops.size) : FC P ih ops l t0 T0 d s.as (fun i => i < n ∧ d.kn i ≠ 3) 0 := by
  refine ⟨fun i o u hg ho hu => (h.tv1 i o u hg.1 hg.2 ho hu).2, fun i hg => ?_, fun i hg hk => h.win i hg.1 hk, fun k hk => ?_, h.chain, by rw [h.st0], h.cls, h.asok, fun j T o hj => ?_, fun i o B hg => h.vA i o B hg.1, fun i o B hg hl hk t ha => ?_, fun k o B _ _ hk hl t ha => ?_⟩
  · rcases h.k012 i hg.1 with h1 | h1 | h1 | h1
    · exact .inl h1
    · exact .inr (.inl h1)
    · exact .inr (.inr h1)
    · exact absurd h1 hg.2
  · obtain ⟨h1, h2⟩ := h.wlt k hk
    exact ⟨by omega, h2⟩
  · obtain ⟨h1, h2⟩ := h.asin j T o hj
    exact ⟨by omega, h2⟩
  · rcases h.vN i o B hg.1 hl hk t ha with h1 | ⟨h1, h2⟩
    · exact .inl h1
    · exact .inr ⟨h1, fun c _ => h2 c⟩
  · obtain ⟨h1, h2⟩ := h.vW k o B hk hl t ha
    exact ⟨h1, _, h2, rfl, fun T => rfl⟩

theorem tstep {o : Oper} {v : CV} {t : Tmps} (hd : ∀ u, o.dst = some u → u < t.sz) : ∃ t', TStep t t' o v ∧ ∀ {e : Env} {a : Act} {V : Value}, TOk e t a.tmps → den e v = some V → TOk e t' (a.put o.dst V).tmps := by
  cases h : o.dst with
  | none => exact ⟨t, ⟨rfl, (fun u hu => by rw [h] at hu; cases hu), fun u _ => rfl⟩, fun ht _ => ht⟩
  | some dd =>
    have hlt := hd dd h
    have hg : ∀ u, (t.set dd v).get u = if u = dd then some v else t.get u := fun u => by
      obtain ⟨sz, tr⟩ := t
      show Bool.rec (motive := fun _ => Option CV) none ((Tr.set (Nat.succ dd) tr dd (some v)).get u) (Nat.ble (Nat.succ u) sz) = if u = dd then some v else Bool.rec (motive := fun _ => Option CV) none (tr.get u) (Nat.ble (Nat.succ u) sz)
      rw [Tr.get_set _ _ _ _ _ (by omega)]
      by_cases hu : u = dd
      · subst hu
        rw [if_pos rfl, if_pos rfl, show Nat.ble (Nat.succ u) sz = true from Nat.ble_eq_true_of_le hlt]
      · rw [if_neg hu, if_neg hu]
    refine ⟨t.set dd v, ⟨Tmps.set_sz .., fun u hu => ?_, fun u hu => ?_⟩, fun ht hv => ht.put hv hlt⟩
    · rw [h] at hu; cases hu
      exact ⟨hlt, by rw [hg, if_pos rfl]⟩
    · rw [hg, if_neg (fun hq => hu (by rw [h, hq]))]

section sim
variable {ih : Task → Res} {ops : Array Oper} {l : List (Oper × Nat)} {t0 : Tmps} {M0 : Mem} {T0 : Nat} {d : CD} {s : DS} {B : Bas} {e0 : Env} {ds : List CDef}
  {listed : Array Bool} {a : Act} {w : World} {e : Env} {t : Tmps} {m : Mem} {c : Nat}

/-- One operation more. -/
theorem SimAt.next (hp : PlanOk ops l) (h : SimAt ops t0 T0 d s.as B e0 ds listed a w e t m c) {i : Nat} {o : Oper} (ho : ops[i]? = some o) (hi : ¬ Lst listed i)
    (hed : ∀ e ∈ o.after, Region.binds .any e = true → Lst listed e.on) (hdst : ∀ u, o.dst = some u → u < t0.sz)
    {e1 : Env} (hle : Env.le e e1) {V : Value} (hV : den e1 (d.val i) = some V) {w1 : World} {m1 : Mem} {c0 c1 : Nat} (hc01 : c0 ≤ c1) (hc1 : c1 ≤ d.K)
    (hcw : ∀ k, k < d.K → (Lst listed (d.wi k) ∨ d.wi k = i ↔ k < c1))
    (hrel : Rel (B.withZ (Zof ops T0 d B (listed.setIfInBounds i true))) e1 m1 w1)
    (hovr : Ovr (fun j => (Lst listed j ∨ j = i) ∧ bitC (d.st c1).2 j = false) s.as (d.st c1).1 m1) :
    Sim ops t0 T0 d s.as B e0 ds c0 (listed.setIfInBounds i true) (a.put o.dst V) w1 := by
  have hlt : i < listed.size := by rw [h.size]; exact (Array.getElem?_eq_some_iff.1 ho).1
  have hL : ∀ j, Lst (listed.setIfInBounds i true) j ↔ Lst listed j ∨ j = i := fun j => lst_set hlt
  obtain ⟨t', ts, htok⟩ := tstep (o := o) (v := d.val i) (t := t) (fun u hu => by rw [h.tsz]; exact hdst u hu)
  refine ⟨e1, t', m1, c1, hc01, by simp [h.size], h.le.trans hle, fun j q hj hlj e he hb => ?_, hc1, fun k hk => by rw [hL]; exact hcw k hk, by rw [put_defers]; exact h.dok.mono hle, htok (h.tok.mono hle) hV, ts.sz.trans h.tsz,
    fun j q u hj hq hd => ?_, fun u hu => ?_, hrel, ⟨hovr.nxt, fun j T ob hm hj => hovr.get1 j T ob hm ⟨(hL j).1 hj.1, hj.2⟩, fun T hT => hovr.get0 T fun j ob hm hj => hT j ob hm ⟨(hL j).2 hj.1, hj.2⟩⟩⟩
  · rw [hL]
    rcases (hL j).1 hlj with h1 | rfl
    · exact .inl (h.clos j q hj h1 e he hb)
    · rw [ho] at hj; cases hj
      exact .inl (hed e he hb)
  · rcases (hL j).1 hj with h1 | rfl
    · have hne : o.dst ≠ some u := fun hq2 => hi (by have := hp.dst i j o q u ho hq hq2 hd; subst this; exact h1)
      rw [ts.old u hne]
      exact h.t1 j q u h1 hq hd
    · rw [ho] at hq; cases hq
      exact (ts.new u hd).2
  · have hne : o.dst ≠ some u := hu i o ((hL i).2 (.inr rfl)) ho
    rw [ts.old u hne]
    exact h.t2 u fun j q hj hq => hu j q ((hL j).2 (.inl hj)) hq

/-- What the operation waits for, the run has seen. -/
theorem SimAt.agr (hp : PlanOk ops l) (h : SimAt ops t0 T0 d s.as B e0 ds listed a w e t m c) {i : Nat} {o : Oper} {M : Nat} (hl : l[i]? = some (o, M)) (hni : ¬ Lst listed i) (hanc : ∀ j, bitC M j = true → Lst listed j) : Agr ops t0 d.val M o t := fun u hu => by
  refine ⟨fun j q hj hq hb => h.t1 j q u (hanc j hb) hj hq, fun hn => h.t2 u fun j q hlj hj hq => ?_⟩
  have hf := hn j q hj hq
  rcases hu with hu | ⟨j', b, q', h1, h2, h3⟩
  · rcases hp.uses i o M hl u hu j q hj hq with hb | ⟨_, q', B', hl', hb⟩
    · rw [hf] at hb; cases hb
    · exact hni ((hp.mask j q' B' hl').anc _ h.clos (fun q2 hq2 e he hbd => h.clos j q2 hq2 hlj e he hbd) i hb)
  · have : j = j' := hp.dst j j' q q' u hj h2 hq h3
    subst this
    have hb := hp.grd i o M hl j b h1
    rw [hf] at hb; cases hb

/-- Tags of new objects hold nothing but them. -/
def Free (d : CD) (as : List (Nat × Nat × CO)) : Prop := ∀ c, c ≤ d.K → ∀ j T o, (j, T, o) ∈ as → bitC (d.st c).2 j = false → (d.st c).1.get T = none

theorem SimAt.subMem {G : Nat → Prop} {c0 : Nat} (hc : FC P ih ops l t0 T0 d s.as G c0) (hn : ∀ c, c ≤ d.K → M0.nxt ≤ (d.st c).1.nxt) (hM0 : M0.nxt = T0 + ops.size) (hfree : Free d s.as) (h : SimAt ops t0 T0 d s.as B e0 ds listed a w e t m c) {M : Nat} (hanc : ∀ j, bitC M j = true → Lst listed j) :
    Ovr (fun j => pickA M (d.st c).2 j = true) s.as (d.st c).1 (memAt d s.as M c) ∧ (memAt d s.as M c).nxt = m.nxt ∧ ∀ T o, (memAt d s.as M c).get T = some o → m.get T = some o := by
  have hov := addP_ovr (pickA M (d.st c).2) (M := (d.st c).1) hc.asok (fun j T o hj => by
    have h1 := (hc.asok.tag j T o hj).1
    have h2 := (hc.asin j T o hj).1
    have h3 := hn c h.cK
    omega)
  have hpick : ∀ j, pickA M (d.st c).2 j = true → Lst listed j ∧ bitC (d.st c).2 j = false := fun j hj => by
    simp only [pickA, Bool.and_eq_true, Bool.not_eq_true'] at hj
    exact ⟨hanc j hj.1, hj.2⟩
  refine ⟨hov, hov.nxt.trans h.ovr.nxt.symm, fun T o hT => ?_⟩
  by_cases hx : ∃ j o', (j, T, o') ∈ s.as ∧ pickA M (d.st c).2 j = true
  · obtain ⟨j, o', h1, h2⟩ := hx
    have hT : (addP (pickA M (d.st c).2) s.as (d.st c).1).get T = some o := hT
    rw [hov.get1 j T o' h1 h2] at hT; cases hT
    exact h.ovr.get1 j T o h1 (hpick j h2)
  · have hT : (addP (pickA M (d.st c).2) s.as (d.st c).1).get T = some o := hT
    rw [hov.get0 T fun j o' h1 h2 => hx ⟨j, o', h1, h2⟩] at hT
    rw [h.ovr.get0 T fun j o' h1 h2 => by rw [hfree c h.cK j T o' h1 h2.2] at hT; cases hT]
    exact hT

theorem ready_not {i : Nat} {md : Region.Mode} (h : i ∈ Region.ready md ops listed) (hs : listed.size = ops.size) : ¬ Lst listed i ∧ i < ops.size ∧ ∃ o, ops[i]? = some o ∧ ∀ e ∈ o.after, Region.binds md e = true → Lst listed e.on := by
  obtain ⟨h1, o, h2, h3⟩ := mem_ready.1 h
  have hlt := (Array.getElem?_eq_some_iff.1 h2).1
  refine ⟨fun hl => ?_, hlt, o, h2, h3⟩
  unfold Lst at hl
  rw [Array.getD_eq_getD_getElem?] at h1 hl
  have : listed[i]? = some listed[i] := Array.getElem?_eq_getElem (by omega)
  rw [this] at h1 hl
  simp only [Option.getD_some] at h1 hl
  rw [h1] at hl; cases hl

theorem Zof_set {i : Nat} (hlt : i < listed.size) {t : Nat} (h : Zof ops T0 d B (listed.setIfInBounds i true) t) : Zof ops T0 d B listed t := by
  rcases h with h | ⟨j, h1, h2, h3, h4⟩
  · exact .inl h
  · exact .inr ⟨j, h1, h2, fun hl => h3 ((lst_set hlt).2 (.inl hl)), h4⟩

theorem FC.wi_inj {as : List (Nat × Nat × CO)} {G : Nat → Prop} {c0 : Nat} (hc : FC P ih ops l t0 T0 d as G c0) (hp : PlanOk ops l) : ∀ k' k, k' < d.K → k < d.K → d.wi k' = d.wi k → k' = k := by
  have up : ∀ n k, k + (n + 1) < d.K → d.wi k < d.wi (k + (n + 1)) := fun n => by
    induction n with
    | zero =>
      intro k hk
      obtain ⟨⟨q, B'⟩, hq⟩ : ∃ p, l[d.wi (k + 1)]? = some p := ⟨_, List.getElem?_eq_getElem (by rw [hp.len]; exact (hc.wlt (k + 1) hk).1)⟩
      exact (hp.mask _ q B' hq).lt _ (hc.chain k hk q B' hq)
    | succ n ih =>
      intro k hk
      have h1 := ih k (by omega)
      obtain ⟨⟨q, B'⟩, hq⟩ : ∃ p, l[d.wi (k + (n + 1) + 1)]? = some p := ⟨_, List.getElem?_eq_getElem (by rw [hp.len]; exact (hc.wlt (k + (n + 1) + 1) hk).1)⟩
      have h2 := (hp.mask _ q B' hq).lt _ (hc.chain (k + (n + 1)) hk q B' hq)
      exact Nat.lt_trans h1 h2
  intro k' k h1 h2 hq
  rcases Nat.lt_trichotomy k' k with h | h | h
  · have := up (k - k' - 1) k' (by omega)
    rw [show k' + (k - k' - 1 + 1) = k by omega] at this
    omega
  · exact h
  · have := up (k' - k - 1) k (by omega)
    rw [show k + (k' - k - 1 + 1) = k' by omega] at this
    omega

/-- The next operation, whichever it is. -/
theorem SimAt.step (hp : PlanOk ops l) (hih : ∀ B k, TaskOk P B k (ih k)) {G : Nat → Prop} {c0 : Nat} (hc : FC P ih ops l t0 T0 d s.as G c0) (hn : ∀ c, c ≤ d.K → M0.nxt ≤ (d.st c).1.nxt) (hM0 : M0.nxt = T0 + ops.size) (hfree : Free d s.as) (hBZ : ∀ t, B.Z t → t < T0)
    (h : SimAt ops t0 T0 d s.as B e0 ds listed a w e t m c) {rr : Option Nat} {n : Nat} {Q : Exit → Act → World → Prop} {i : Nat} (hG : G i) (hc0 : c0 ≤ c) (hi : i ∈ Region.ready .any ops listed) {K : Act → World → Prop}
    (hK : ∀ a w, Sim ops t0 T0 d s.as B e0 ds c0 (listed.setIfInBounds i true) a w → K a w) : wpOpIn (FW rr) n P ops Q i K a w := by
  obtain ⟨hni, hlt, o, ho, hed⟩ := ready_not hi h.size
  have hsz : i < listed.size := by rw [h.size]; exact hlt
  obtain ⟨⟨o', M⟩, hl⟩ : ∃ p, l[i]? = some p := ⟨_, List.getElem?_eq_getElem (by rw [hp.len]; exact hlt)⟩
  have hoo : o' = o := by have := hp.op i o' M hl; rw [ho] at this; cases this; rfl
  subst hoo
  have hanc : ∀ j, bitC M j = true → Lst listed j := (hp.mask i o' M hl).anc _ h.clos (fun q hq e he hb => by rw [ho] at hq; cases hq; exact hed e he hb)
  have hagr := h.agr (s := s) hp hl hni hanc
  have hdst : ∀ u, o'.dst = some u → u < t0.sz := fun u hu => hc.dsz i o' u hG ho hu
  have hwant : ∀ b, guardC ops.toList t o'.guard = some b → Region.wanted o' (yielded ops a.tmps) = b := fun b hb => guardC_ok h.tok hb
  obtain ⟨hov1, hnx1, hsub⟩ := h.subMem hc hn hM0 hfree hanc
  have hrel1 : Rel (B.withZ (Zof ops T0 d B listed)) e (memAt d s.as M c) w := h.rel.sub hnx1 hsub
  have hZ : ∀ t, Zof ops T0 d B (listed.setIfInBounds i true) t → Zof ops T0 d B listed t := fun t => Zof_set hsz
  unfold wpOpIn
  rw [ho]
  simp only
  -- an operation that is no new object leaves the overlay as it is
  have ovr0 : d.kn i ≠ 1 → Ovr (fun j => (Lst listed j ∨ j = i) ∧ bitC (d.st c).2 j = false) s.as (d.st c).1 m := fun hk =>
    ⟨h.ovr.nxt, fun j T ob hm hj => h.ovr.get1 j T ob hm ⟨hj.1.resolve_right fun hq => hk (by rw [← hq]; exact (hc.asin j T ob hm).2), hj.2⟩, fun T hT => h.ovr.get0 T fun j ob hm hj => hT j ob hm ⟨.inl hj.1, hj.2⟩⟩
  have cw0 : d.kn i ≠ 2 → ∀ k, k < d.K → (Lst listed (d.wi k) ∨ d.wi k = i ↔ k < c) := fun hk k hkK => by
    rw [← h.cw k hkK]
    exact ⟨fun hq => hq.resolve_right fun hq2 => hk (by rw [← hq2]; exact (hc.wlt k hkK).2), .inl⟩
  rcases hc.k012 i hG with hk | hk | hk
  · -- a value
    have fin : ∀ V, den e (d.val i) = some V → K (a.put o'.dst V) w := fun V hV =>
      hK _ _ (h.next hp ho hni hed hdst (Env.le.refl e) hV hc0 h.cK (cw0 (by rw [hk]; simp)) (h.rel.reZ hZ) (ovr0 (by rw [hk]; simp)))
    rcases hc.vN i o' M hG hl hk t hagr with ⟨hg, hv⟩ | ⟨hg, hv⟩
    · rw [if_neg (by rw [hwant _ hg]; simp)]
      exact ⟨fun _ _ => trivial, fin undef (by rw [hv]; rfl)⟩
    · rw [if_pos (hwant _ hg)]
      have hcop := hv c hc0 h.cK (fun k hkK hb => (h.cw k hkK).1 (hanc _ hb)) (fun k q B' hkc hq => by
        cases hb : bitC B' i with
        | false => rfl
        | true =>
          have hkK : k < d.K := by have := h.cK; omega
          exact absurd ((hp.mask _ q B' hq).anc _ h.clos (fun q' hq' e he hbd => h.clos _ q' hq' ((h.cw k hkK).2 hkc) e he hbd) i hb) hni)
      have hout := cop_ok (P := P) (o := o') (a := a) hrel1 h.tok
      rw [hcop] at hout
      obtain ⟨V, hV, hrun⟩ := hout
      have hnd : ∀ c, o'.op ≠ .defer c := fun c' hc' => by
        rcases cop_defer (P := P) (m := memAt d s.as M c) (t := t) hc' with ⟨w, hw⟩ | ⟨f, args, hf⟩
        · rw [hcop] at hw; cases hw
        · rw [hcop] at hf; cases hf
      exact upon_of_run hnd hrun (fin V hV)
  · -- a new object
    obtain ⟨hg, ob, hob, hv⟩ := hc.vA i o' M hG hl hk t hagr
    rw [if_pos (hwant _ hg)]
    have hrel2 := h.rel.reZ hZ
    have hT : e (T0 + i) = none ∧ ¬ (B.withZ (Zof ops T0 d B (listed.setIfInBounds i true))).Z (T0 + i) := by
      refine ⟨h.rel.bar _ (.inr ⟨i, hlt, hk, hni, rfl⟩), ?_⟩
      rintro (hz | ⟨j, h1, h2, h3, h4⟩)
      · have := hBZ _ hz
        omega
      · have : j = i := by omega
        subst this
        exact h3 ((lst_set hsz).2 (.inr rfl))
    have hout := copT_ok (P := P) (o := o') (a := a) hT hrel2 h.tok
    rw [hv m] at hout
    obtain ⟨e1, V, w1, le1, hV, hr1, hrun⟩ := hout
    have hcl : bitC (d.st c).2 i = false := by
      cases hb : bitC (d.st c).2 i with
      | false => rfl
      | true =>
        cases c with
        | zero => rw [hc.st0] at hb; rw [bitC_zero] at hb; cases hb
        | succ k =>
          have hkK : k < d.K := by have := h.cK; omega
          obtain ⟨⟨q, B'⟩, hq⟩ : ∃ p, l[d.wi k]? = some p := ⟨_, List.getElem?_eq_getElem (by rw [hp.len]; exact (hc.wlt k hkK).1)⟩
          rw [hc.cls k hkK q B' hq] at hb
          exact absurd ((hp.mask _ q B' hq).anc _ h.clos (fun q' hq' e he hbd => h.clos _ q' hq' ((h.cw k hkK).2 (by omega)) e he hbd) i hb) hni
    have hovr : Ovr (fun j => (Lst listed j ∨ j = i) ∧ bitC (d.st c).2 j = false) s.as (d.st c).1 (m.newAt (T0 + i) ob) := by
      refine ⟨?_, fun j T o2 hm hj => ?_, fun T hTT => ?_⟩
      · rw [Mem.nxtAt, h.ovr.nxt, if_pos]
        have := hn c h.cK
        omega
      · rw [Mem.get_newAt]
        have htag := (hc.asok.tag j T o2 hm).1
        by_cases hq : T = T0 + i
        · have hji : j = i := by omega
          subst hji
          rw [if_pos hq, hc.asok.one j T o2 _ ob hm hob]
        · rw [if_neg hq]
          exact h.ovr.get1 j T o2 hm ⟨hj.1.resolve_right fun hq2 => hq (by rw [htag, hq2]), hj.2⟩
      · rw [Mem.get_newAt, if_neg (fun hq => hTT i ob (by rw [hq]; exact hob) ⟨.inr rfl, hcl⟩)]
        exact h.ovr.get0 T fun j o2 hm hj => hTT j o2 hm ⟨.inl hj.1, hj.2⟩
    have fin : K (a.put o'.dst V) w1 := hK _ _ (h.next hp ho hni hed hdst le1 hV hc0 h.cK (cw0 (by rw [hk]; simp)) hr1 hovr)
    have hnd : ∀ c, o'.op ≠ .defer c := fun c' hc' => by
      have := hv ⟨T0 + i, .nil⟩
      rcases cop_defer (P := P) (m := ⟨T0 + i, .nil⟩) (t := t) hc' with ⟨w, hw⟩ | ⟨f, args, hf⟩
      · rw [show cop P o'.op ⟨T0 + i, .nil⟩ t = copT P (T0 + i) o'.op ⟨T0 + i, .nil⟩ t from rfl, this] at hw; cases hw
      · rw [show cop P o'.op ⟨T0 + i, .nil⟩ t = copT P (T0 + i) o'.op ⟨T0 + i, .nil⟩ t from rfl, this] at hf; cases hf
    rcases hrun with hrun | ⟨hrun, rfl⟩
    · exact upon_of_run hnd hrun fin
    · exact upon_of_run hnd hrun fin
  · -- an operation that turns memory
    obtain ⟨k, hkK, rfl⟩ := hc.win i hG hk
    have hkc : k = c := by
      have h1 : ¬ k < c := fun hq => hni ((h.cw k hkK).2 hq)
      cases k with
      | zero => omega
      | succ k =>
        have h2 := (h.cw k (by omega)).1 (hanc _ (hc.chain k hkK o' M hl))
        omega
    subst hkc
    obtain ⟨hg, mW, hv, hnW, hgW⟩ := hc.vW k o' M hG hc0 hkK hl t hagr
    rw [if_pos (hwant _ hg)]
    have hX : ∀ j T o2, (j, T, o2) ∈ s.as → Lst listed j → bitC (d.st k).2 j = false → ∃ bk x, e T = some bk ∧ w.heap[bk.blk]? = some x ∧ ¬ B.F bk.blk := fun j T o2 hm h1 h2 => by
      have hget := h.ovr.get1 j T o2 hm ⟨h1, h2⟩
      obtain ⟨bk, x, h3, h4⟩ := objOk_env (h.rel.ok T o2 hget)
      exact ⟨bk, x, h3, h4, h.rel.own T o2 bk hget (hc.asok.tag j T o2 hm).2 h3⟩
    let X : Nat → Prop := fun j => Lst listed j ∧ bitC (d.st k).2 j = false ∧ bitC M j = false
    let Xb : Nat → Prop := fun b => ∃ j T o2 bk, (j, T, o2) ∈ s.as ∧ X j ∧ e T = some bk ∧ bk.blk = b
    let B3 : Bas := ⟨w, fun b => B.F b ∨ Xb b, B.R, Zof ops T0 d B (listed.setIfInBounds (d.wi k) true), fun b hb => by
        rcases hb with hb | ⟨j, T, o2, bk, h1, h2, h3, rfl⟩
        · exact h.rel.frF hb
        · obtain ⟨bk', x, h4, h5, _⟩ := hX j T o2 h1 h2.1 h2.2.1
          rw [h3] at h4; cases h4
          exact heap_lt h5, fun b hb => .inl (B.hR b hb)⟩
    have hrel3 : Rel B3 e (memAt d s.as M k) w := by
      refine ⟨hrel1.ok, hrel1.inj0, fun T o2 b hT hro hb hq => ?_, fun T o2 b hT hro hb => hrel1.rof T o2 b hT hro hb, hrel1.glb, hrel1.dom, Keep.refl _ _, fun t ht => hrel1.zlt t (hZ t ht), fun t ht => hrel1.bar t (hZ t ht)⟩
      rcases hq with hq | ⟨j, T', o3, bk, h1, h2, h3, h4⟩
      · exact hrel1.own T o2 b hT hro hb hq
      · have hTT := h.rel.inj T T' o2 o3 b bk (hsub T o2 hT) (h.ovr.get1 j T' o3 h1 ⟨h2.1, h2.2.1⟩) (hc.asok.tag j T' o3 h1).2 hb h3 h4.symm
        subst hTT
        have hnp : ∀ j' o4, (j', T, o4) ∈ s.as → ¬ pickA M (d.st k).2 j' = true := fun j' o4 hm hpk => by
          have e1 := (hc.asok.tag j T o3 h1).1
          have e2 := (hc.asok.tag j' T o4 hm).1
          have : j' = j := by omega
          subst this
          simp only [pickA, h2.2.2, Bool.false_and] at hpk
          cases hpk
        rw [hov1.get0 T hnp, hfree k h.cK j T o3 h1 h2.2.1] at hT
        cases hT
    refine outV_ok (hih B3) hrel3 h.tok hv fun e1 V w1 le1 hV hr0 => ?_
    have hr1 : Rel B3 e1 (d.st (k + 1)).1 w1 := hr0.sub hnW.symm fun T o hT => by rw [hgW]; exact hT
    have hcls : (d.st (k + 1)).2 = M := hc.cls k hkK o' M hl
    have hov2 := addP_ovr (fun j => @decide (X j) (Classical.propDecidable _)) (M := (d.st (k + 1)).1) hc.asok (fun j T o hj => by
      have h1 := (hc.asok.tag j T o hj).1
      have h2 := (hc.asin j T o hj).1
      have h3 := hn (k + 1) hkK
      omega)
    generalize hm2 : addP (fun j => @decide (X j) (Classical.propDecidable _)) s.as (d.st (k + 1)).1 = m2 at hov2
    have hov3 : ∀ j, (@decide (X j) (Classical.propDecidable _) = true) ↔ X j := fun j => @decide_eq_true_iff _ (Classical.propDecidable _)
    have anc2 : ∀ j, bitC (d.st k).2 j = true → bitC M j = true := fun j hj => by
      cases k with
      | zero => rw [hc.st0, bitC_zero] at hj; cases hj
      | succ k =>
        obtain ⟨⟨q, B'⟩, hq⟩ : ∃ p, l[d.wi k]? = some p := ⟨_, List.getElem?_eq_getElem (by rw [hp.len]; exact (hc.wlt k (by omega)).1)⟩
        rw [hc.cls k (by omega) q B' hq] at hj
        have hch := hc.chain k hkK o' M hl
        exact (hp.mask _ q B' hq).anc _ (hp.mask _ o' M hl).clo (fun q' hq' e he hbd => (hp.mask _ o' M hl).clo _ q' hq' hch e he hbd) j hj
    have hovr : Ovr (fun j => (Lst listed j ∨ j = d.wi k) ∧ bitC (d.st (k + 1)).2 j = false) s.as (d.st (k + 1)).1 m2 := by
      rw [hcls]
      refine ⟨hov2.nxt, fun j T o2 hm hj => hov2.get1 j T o2 hm ((hov3 j).2 ⟨hj.1.resolve_right fun hq => ?_, ?_, hj.2⟩), fun T hT => hov2.get0 T fun j o2 hm hj => ?_⟩
      · have := (hc.asin j T o2 hm).2
        rw [hq, hk] at this; cases this
      · cases hb : bitC (d.st k).2 j with
        | false => rfl
        | true => rw [anc2 j hb] at hj; cases hj.2
      · have := (hov3 j).1 hj
        exact hT j o2 hm ⟨.inl this.1, this.2.2⟩
    have hcase : ∀ T o2, m2.get T = some o2 → (∃ j, (j, T, o2) ∈ s.as ∧ X j) ∨ (d.st (k + 1)).1.get T = some o2 := fun T o2 hT => by
      by_cases hx : ∃ j o3, (j, T, o3) ∈ s.as ∧ X j
      · obtain ⟨j, o3, h1, h2⟩ := hx
        rw [hov2.get1 j T o3 h1 ((hov3 j).2 h2)] at hT; cases hT
        exact .inl ⟨j, h1, h2⟩
      · rw [hov2.get0 T fun j o3 h1 h2 => hx ⟨j, o3, h1, (hov3 j).1 h2⟩] at hT
        exact .inr hT
    have hext : ∀ j T o2, (j, T, o2) ∈ s.as → X j → ∃ bk, e T = some bk ∧ e1 T = some bk ∧ ¬ B.F bk.blk ∧ Xb bk.blk := fun j T o2 hm hx => by
      obtain ⟨bk, x, h1, h2, h3⟩ := hX j T o2 hm hx.1 hx.2.1
      exact ⟨bk, h1, le1 _ _ h1, h3, j, T, o2, bk, hm, hx, h1, rfl⟩
    have hoth : ∀ T o2 bk, (d.st (k + 1)).1.get T = some o2 → e1 T = some bk → ¬ Xb bk.blk := fun T o2 bk hT hb hq => by
      cases hro : isRo o2 with
      | false => exact hr1.own T o2 bk hT hro hb (.inr hq)
      | true =>
        have h1 := hr1.rof T o2 bk hT hro hb
        obtain ⟨j, T', o3, bk', h2, h3, h4, h5⟩ := hq
        obtain ⟨bk2, x, h6, h7, h8⟩ := hX j T' o3 h2 h3.1 h3.2.1
        rw [h4] at h6; cases h6
        exact h8 (h5 ▸ B.hR _ h1)
    refine hK _ _ (h.next hp ho hni hed hdst le1 hV (c1 := k + 1) (by omega) hkK (fun k' hk' => ?_) (m1 := m2) ?_ hovr)
    · constructor
      · rintro (h1 | h1)
        · have := (h.cw k' hk').1 h1; omega
        · -- the same operation
          by_cases hq : k' = k
          · omega
          · exfalso
            have inj := hc.wi_inj hp k' k hk' hkK h1
            exact hq inj
      · intro h1
        by_cases hq : k' = k
        · subst hq; exact .inr rfl
        · exact .inl ((h.cw k' hk').2 (by omega))
    · refine ⟨fun T o2 hT => ?_, fun T T' o2 o3 b b' hT hT' hr2 hr3 hb hb' hq => ?_, fun T o2 b hT hro hb => ?_, fun T o2 b hT hro hb => ?_, hr1.glb, fun T hT => ?_, h.rel.frm.trans ⟨hr1.frm.os, hr1.frm.tape, hr1.frm.output, hr1.frm.size, fun k hk => hr1.frm.block k (.inl hk)⟩, fun T hT => ?_, hr1.bar⟩
      · rcases hcase T o2 hT with ⟨j, h1, h2⟩ | h1
        · refine objOk_mono le1 (fun b hb => ?_) (h.rel.ok T o2 (h.ovr.get1 j T o2 h1 ⟨h2.1, h2.2.1⟩))
          exact hr1.frm.block b.blk (.inr ⟨j, T, o2, b, h1, h2, hb, rfl⟩)
        · exact hr1.ok T o2 h1
      · rcases hcase T o2 hT with ⟨j, h1, h2⟩ | h1 <;> rcases hcase T' o3 hT' with ⟨j', h3, h4⟩ | h3
        · obtain ⟨bk, g1, g2, _, _⟩ := hext j T o2 h1 h2
          obtain ⟨bk', g3, g4, _, _⟩ := hext j' T' o3 h3 h4
          rw [g2] at hb; cases hb
          rw [g4] at hb'; cases hb'
          exact h.rel.inj T T' o2 o3 _ _ (h.ovr.get1 j T o2 h1 ⟨h2.1, h2.2.1⟩) (h.ovr.get1 j' T' o3 h3 ⟨h4.1, h4.2.1⟩) hr3 g1 g3 hq
        · obtain ⟨bk, g1, g2, _, g5⟩ := hext j T o2 h1 h2
          rw [g2] at hb; cases hb
          exact absurd (hq ▸ g5) (hoth T' o3 b' h3 hb')
        · obtain ⟨bk', g3, g4, _, g5⟩ := hext j' T' o3 h3 h4
          rw [g4] at hb'; cases hb'
          exact absurd (hq ▸ g5) (hoth T o2 b h1 hb)
        · exact hr1.inj T T' o2 o3 b b' h1 h3 hr3 hb hb' hq
      · rcases hcase T o2 hT with ⟨j, h1, h2⟩ | h1
        · obtain ⟨bk, g1, g2, g3, _⟩ := hext j T o2 h1 h2
          rw [g2] at hb; cases hb
          exact g3
        · exact fun hq => hr1.own T o2 b h1 hro hb (.inl hq)
      · rcases hcase T o2 hT with ⟨j, h1, h2⟩ | h1
        · rw [(hc.asok.tag j T o2 h1).2] at hro; cases hro
        · exact hr1.rof T o2 b h1 hro hb
      · exact hr1.dom T (by rw [← hov2.nxt]; exact hT)
      · rw [hov2.nxt]; exact hr1.zlt T hT
end sim
end Go.Cx
