/-
  A concrete evaluator for Go's IR. Part s: drawn regions, code, functions: all of it.
-/
import Derived.Test.YtpgbihleidcdkaaDoorCr
set_option linter.unusedSimpArgs false
set_option linter.unusedVariables false
namespace Go.Cx
open Go Go.RowKit
variable {P : Program}

theorem Rel.drew {B : Bas} {e : Env} {m : Mem} {w : World} (h : Rel B e m w) : Rel B e m { w with drawn := w.drawn + 1 } :=
  ⟨fun t o ho => objOk_mono (Env.le.refl e) (fun b _ => rfl) (h.ok t o ho), h.inj, h.own, h.rof, h.glb, h.dom, ⟨h.frm.os, h.frm.tape, h.frm.output, h.frm.size, h.frm.block⟩, h.zlt, h.bar⟩

theorem freeM_spec {m : Mem} {cl : Nat} : ∀ {as : List (Nat × Nat × CO)}, freeM m cl as = true → ∀ j T o, (j, T, o) ∈ as → bitC cl j = false → m.get T = none
  | [], _, j, T, o, h, _ => by cases h
  | (j0, T0, o0) :: r, h, j, T, o, hm, hb => by
    simp only [freeM, Bool.and_eq_true, Bool.or_eq_true] at h
    rcases List.mem_cons.1 hm with hm | hm
    · cases hm
      have := h.1.resolve_left (by rw [hb]; simp)
      split at this
      · assumption
      · cases this
    · exact freeM_spec h.2 j T o hm hb

theorem freeAll_spec {N : Nat} {as : List (Nat × Nat × CO)} {d : CD} : ∀ {k : Nat}, freeAll N as (histOf d k) = true → ∀ c, c < k → N ≤ (d.st c).1.nxt ∧ ∀ j T o, (j, T, o) ∈ as → bitC (d.st c).2 j = false → (d.st c).1.get T = none
  | 0, _, c, hc => by omega
  | k + 1, h, c, hc => by
    simp only [histOf, freeAll, Bool.and_eq_true] at h
    by_cases hck : c = k
    · subst hck
      exact ⟨Nat.le_of_ble_eq_true h.1, freeM_spec h.2.1⟩
    · exact freeAll_spec h.2.2 c (by omega)

section
variable {ih : Task → Res} {ops : Array Oper} {l : List (Oper × Nat)} {t0 : Tmps} {M0 : Mem} {T0 : Nat} {d : CD} {s : DS} {B : Bas} {e0 : Env} {ds : List CDef}

theorem count_set {L : Array Bool} {i : Nat} (h : L[i]? = some false) : (L.setIfInBounds i true).toList.count false + 1 = L.toList.count false := by
  have hlt := (Array.getElem?_eq_some_iff.1 h).1
  have hv := (Array.getElem?_eq_some_iff.1 h).2
  rw [Array.toList_setIfInBounds, List.count_set (by simpa using hlt)]
  have h1 : L.toList[i] = false := by simpa using hv
  have h2 : 0 < L.toList.count false := List.count_pos_iff.2 (by rw [← h1]; exact List.getElem_mem _)
  rw [h1]
  show (L.toList.count false - 1 + 0) + 1 = L.toList.count false
  omega

theorem sim_any (hp : PlanOk ops l) (hih : ∀ B k, TaskOk P B k (ih k)) (hc : Cert P ih ops l t0 M0 T0 d ops.size s) (hn : ∀ c, c ≤ d.K → M0.nxt ≤ (d.st c).1.nxt) (hM0 : M0.nxt = T0 + ops.size) (hfree : Free d s.as) (hBZ : ∀ t, B.Z t → t < T0)
    {rr : Option Nat} {n : Nat} {Q : Exit → Act → World → Prop} (hQ : ∀ listed a w, Sim ops t0 T0 d s.as B e0 ds listed a w → (∀ i, i < ops.size → Lst listed i) → Q .normal a w) :
    ∀ (f : Nat) (listed : Array Bool) (a : Act) (w : World), Sim ops t0 T0 d s.as B e0 ds listed a w → listed.toList.count false ≤ f → wpAnyIn (FW rr) n P .any ops Q f listed a w := by
  have done : ∀ listed a w, Sim ops t0 T0 d s.as B e0 ds listed a w → Region.ready .any ops listed = [] → Q .normal a w := fun listed a w hs hr => by
    refine hQ listed a w hs fun i => ?_
    obtain ⟨e, t, m, c, hat⟩ := hs
    induction i using Nat.strongRecOn with
    | _ i ih2 =>
      intro hi
      cases hl : listed.getD i false with
      | true => exact hl
      | false =>
        exfalso
        obtain ⟨o, ho⟩ : ∃ o, ops[i]? = some o := ⟨_, Array.getElem?_eq_getElem hi⟩
        obtain ⟨⟨o', M⟩, hlp⟩ : ∃ p, l[i]? = some p := ⟨_, List.getElem?_eq_getElem (by rw [hp.len]; exact hi)⟩
        have hmem : i ∈ Region.ready .any ops listed := mem_ready.2 ⟨by
          rw [Array.getD_eq_getD_getElem?] at hl ⊢
          have hlt : i < listed.size := by rw [hat.size]; exact hi
          have : listed[i]? = some listed[i] := Array.getElem?_eq_getElem hlt
          rw [this] at hl ⊢
          exact hl, o, ho, fun e he hb => ih2 e.on ((hp.mask i o' M hlp).low o ho e he hb) (by have := (hp.mask i o' M hlp).low o ho e he hb; omega)⟩
        rw [hr] at hmem; cases hmem
  intro f
  induction f with
  | zero =>
    intro listed a w hs hf
    have hr : Region.ready .any ops listed = [] := by
      rw [List.eq_nil_iff_forall_not_mem]
      intro i hi
      obtain ⟨e, t, m, c, hat⟩ := hs
      obtain ⟨h1, h2, _⟩ := ready_not hi hat.size
      have h3 : listed[i]? = some false := by
        rw [Array.getElem?_eq_getElem (by rw [hat.size]; exact h2)]
        unfold Lst at h1
        rw [Array.getD_eq_getD_getElem?, Array.getElem?_eq_getElem (by rw [hat.size]; exact h2)] at h1
        simpa using h1
      have := count_set h3
      omega
    exact ⟨hr, done listed a w hs hr⟩
  | succ f ih2 =>
    intro listed a w hs hf
    refine ⟨done listed a w hs, fun i hi => ?_⟩
    obtain ⟨e, t, m, c, hat⟩ := hs
    have h3 : listed[i]? = some false := by
      obtain ⟨h1, h2, _⟩ := ready_not hi hat.size
      rw [Array.getElem?_eq_getElem (by rw [hat.size]; exact h2)]
      unfold Lst at h1
      rw [Array.getD_eq_getD_getElem?, Array.getElem?_eq_getElem (by rw [hat.size]; exact h2)] at h1
      simpa using h1
    have hcount := count_set h3
    exact hat.step hp hih hc hn hM0 hfree hBZ hi fun a w hs2 => ih2 _ a w hs2 (by omega)
end

theorem drawC_ok {ih : Task → Res} (hih : ∀ B k, TaskOk P B k (ih k)) (hm : P.follows .mixedOrders = true) (B : Bas) (id : Nat) (ops : Array Oper) (t : Tmps) (ds : List CDef) (r : Option Nat) (m : Mem) : CodeOk P B (.region id ops true) t ds r m (drawC P ih ops.toList t ds m) := by
  unfold drawC
  split
  · rename_i l hl
    have hp := plan_spec hl
    generalize hdr : drawAll P ih ops.toList m.nxt l 0 ⟨t, ⟨Nat.add m.nxt ops.toList.length, m.tr⟩, 0, [], [], []⟩ = dr
    unfold drawEnd
    split
    · rename_i s
      split
      · rename_i hfr
        intro e a w rr n hR hs
        have hlen : Nat.add m.nxt ops.toList.length = m.nxt + ops.size := by simp
        rw [hlen] at hdr hfr
        let M0 : Mem := ⟨m.nxt + ops.size, m.tr⟩
        have hget : ∀ T, M0.get T = m.get T := fun T => rfl
        let d0 : CD := ⟨fun _ => undefC, fun _ => 0, fun _ => 0, fun _ => (M0, 0), 0⟩
        have hc0 : Cert P ih ops l t M0 m.nxt d0 0 ⟨t, M0, 0, [], [], []⟩ := by
          refine ⟨rfl, rfl, rfl, ?_, ?_, ?_, rfl, ?_, ⟨?_, ?_⟩, ?_, ?_, fun u _ => rfl, rfl, ?_, ?_, ?_, ?_, ?_⟩
          · intro k hk; exact absurd hk (Nat.not_lt_zero _)
          · intro i hi; exact absurd hi (Nat.not_lt_zero _)
          · intro k hk; exact absurd hk (Nat.not_lt_zero _)
          · intro k hk; exact absurd hk (Nat.not_lt_zero _)
          · intro j T o h; cases h
          · intro j T o T' o' h; cases h
          · intro j T o h; cases h
          · intro i o u hi; exact absurd hi (Nat.not_lt_zero _)
          · intro i o B hi; exact absurd hi (Nat.not_lt_zero _)
          · intro i o B hi; exact absurd hi (Nat.not_lt_zero _)
          · intro k o B hk; exact absurd hk (Nat.not_lt_zero _)
          · intro i o B hi; exact absurd hi (Nat.not_lt_zero _)
          · intro i hi; exact absurd hi (Nat.not_lt_zero _)
        obtain ⟨d, hc⟩ := drawAll_cert hp l 0 d0 _ (fun j => by rw [Nat.zero_add]) hc0 hdr
        rw [Nat.zero_add, hp.len] at hc
        have hfrK : freeAll (m.nxt + ops.size) s.as (histOf { d with wi := fun k => if k = d.K then 0 else d.wi k } (d.K + 1)) = true := by
          have : histOf { d with wi := fun k => if k = d.K then 0 else d.wi k } (d.K + 1) = (0, s.cl, s.cur) :: s.hist := by
            simp only [histOf, if_pos]
            rw [hc.cl, hc.cur, hc.hist]
            congr 1
            exact histOf_congr fun i hi => ⟨if_neg (by omega), rfl⟩
          rw [this]; exact hfr
        have hall : ∀ c, c ≤ d.K → (m.nxt + ops.size) ≤ (d.st c).1.nxt ∧ ∀ j T o, (j, T, o) ∈ s.as → bitC (d.st c).2 j = false → (d.st c).1.get T = none := fun c hc => freeAll_spec hfrK c (by omega)
        have hZ0 : ∀ tt, Zof ops m.nxt d B (Array.replicate ops.size false) tt → B.Z tt ∨ (m.nxt ≤ tt ∧ tt < m.nxt + ops.size) := fun tt ht => by
          rcases ht with ht | ⟨j, h1, _, _, rfl⟩
          · exact .inl ht
          · exact .inr ⟨by omega, by omega⟩
        have nolst : ∀ j, ¬ Lst (Array.replicate ops.size false) j := fun j hj => by
          unfold Lst at hj
          rw [Array.getD_eq_getD_getElem?, Array.getElem?_replicate] at hj
          split at hj <;> cases hj
        have hsim : Sim ops t m.nxt d s.as B e ds (Array.replicate ops.size false) a { w with drawn := w.drawn + 1 } := by
          have hrw := hs.rel.drew
          refine ⟨e, t, M0, 0, by simp, Env.le.refl e, fun i o _ hi => absurd hi (nolst i), Nat.zero_le _, fun k hk => ⟨fun hq => absurd hq (nolst _), fun hq => absurd hq (Nat.not_lt_zero _)⟩, hs.dok, hs.tok, rfl, fun j q u hj => absurd hj (nolst j), fun u _ => rfl, ?_, ?_⟩
          · refine ⟨fun tt o ho => hrw.ok tt o ho, fun tt t' o o' b b' h1 h2 => hrw.inj tt t' o o' b b' h1 h2, fun tt o b h1 => hrw.own tt o b h1, fun tt o b h1 => hrw.rof tt o b h1, hrw.glb, fun tt ht => hrw.dom tt (by have : m.nxt + ops.size ≤ tt := ht; omega), hrw.frm, fun tt ht => ?_, fun tt ht => ?_⟩
            · show tt < m.nxt + ops.size
              rcases hZ0 tt ht with h | h
              · have := hrw.zlt tt h; omega
              · exact h.2
            · rcases hZ0 tt ht with h | h
              · exact hrw.bar tt h
              · exact hrw.dom tt h.1
          · rw [hc.st0]
            exact ⟨rfl, fun j T o _ hj => absurd hj.1 (nolst j), fun T _ => rfl⟩
        refine wpIn_region_any hm (sim_any (M0 := M0) hp hih hc (fun c hc => (hall c hc).1) rfl (fun c hc => (hall c hc).2) (fun tt ht => hs.rel.zlt tt ht) (fun listed a2 w2 hs2 hdone => ?_) ops.size _ _ _ hsim (by simp))
        obtain ⟨e2, t2, m2, c, hat⟩ := hs2
        have hcK : c = d.K := by
          have h1 := hat.cK
          rcases Nat.lt_or_ge c d.K with h2 | h2
          · have := (hat.cw c h2).1 (hdone _ (hc.wlt c h2).1)
            omega
          · omega
        subst hcK
        refine ⟨e2, hat.le, rfl, ?_, ?_, hat.dok⟩
        · -- memory
          have hov := addP_ovr (fun j => !bitC s.cl j) (M := s.cur) hc.asok (fun j T o hj => by
            have h1 := (hc.asok.tag j T o hj).1
            have h2 := (hc.asin j T o hj).1
            have h3 := (hall d.K (Nat.le_refl _)).1
            rw [hc.cur]; omega)
          have hm2 : Ovr (fun j => Lst listed j ∧ bitC (d.st d.K).2 j = false) s.as s.cur m2 := by rw [hc.cur]; exact hat.ovr
          rw [← hc.cl] at hm2
          have hr2 : Rel (B.withZ B.Z) e2 m2 w2 := hat.rel.reZ fun tt ht => .inl ht
          have hr3 : Rel B e2 m2 w2 := hr2
          refine hr3.sub (hov.nxt.trans hm2.nxt.symm) fun T o hT => ?_
          by_cases hx : ∃ j o', (j, T, o') ∈ s.as ∧ bitC s.cl j = false
          · obtain ⟨j, o', h1, h2⟩ := hx
            rw [hov.get1 j T o' h1 (by rw [h2]; rfl)] at hT; cases hT
            exact hm2.get1 j T o h1 ⟨hdone j (hc.asin j T o h1).1, h2⟩
          · rw [hov.get0 T fun j o' h1 h2 => hx ⟨j, o', h1, by simpa using h2⟩] at hT
            rw [hm2.get0 T fun j o' h1 h2 => hx ⟨j, o', h1, h2.2⟩]
            exact hT
        · -- temporaries
          refine ⟨by rw [hat.tok.1, hat.tsz, hc.tsz], fun u x hx => hat.tok.2 u x ?_⟩
          rw [← hx]
          by_cases hq : ∃ (j : Nat) (q : Oper), ops[j]? = some q ∧ q.dst = some u
          · obtain ⟨j, q, h1, h2⟩ := hq
            have hj := (Array.getElem?_eq_some_iff.1 h1).1
            rw [hat.t1 j q u (hdone j hj) h1 h2, (hc.tv1 j q u hj h1 h2).1]
          · rw [hat.t2 u fun j q _ h1 h2 => hq ⟨j, q, h1, h2⟩, hc.tv0 u fun j q _ h1 h2 => hq ⟨j, q, h1, h2⟩]
      · trivial
    · trivial
  · trivial
end Go.Cx
