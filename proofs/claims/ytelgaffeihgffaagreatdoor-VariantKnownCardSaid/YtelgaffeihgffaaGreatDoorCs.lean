/-
  A concrete evaluator for Go's IR. Part s: drawn regions, code, functions: all of it.
-/
import Derived.Test.YtelgaffeihgffaaGreatDoorCp
set_option linter.unusedSimpArgs false
set_option linter.unusedVariables false
namespace Go.Cx
open Go Go.RowKit
variable {P : Program}

theorem Rel.drew {B : Bas} {e : Env} {m : Mem} {w : World} (h : Rel B e m w) : Rel B e m { w with drawn := w.drawn + 1 } :=
  ⟨fun t o ho => objOk_mono (Env.le.refl e) (fun b _ => rfl) (h.ok t o ho), h.inj0, h.own, h.rof, h.glb, h.dom, ⟨h.frm.os, h.frm.tape, h.frm.output, h.frm.size, h.frm.block⟩, h.zlt, h.bar⟩

theorem freeM_spec {m : Mem} {cl : Nat} : ∀ {as : List (Nat × Nat × CO)}, freeM m cl as = true → ∀ j T o, (j, T, o) ∈ as → bitC cl j = false → m.get T = none
  | [], _, j, T, o, h, _ => by cases h
  | (j0, T0, o0) :: r, h, j, T, o, hm, hb => by
    simp only [freeM, Bool.and_eq_true, Bool.or_eq_true] at h
    rcases List.mem_cons.1 hm with hm | hm
    · cases hm
      have := h.1.resolve_left (by rw [hb]; simp)
      split at this
      · assumption
      · cases this
    · exact freeM_spec h.2 j T o hm hb

theorem freeAll_spec {N : Nat} {as : List (Nat × Nat × CO)} {d : CD} : ∀ {k : Nat}, freeAll N as (histOf d k) = true → ∀ c, c < k → N ≤ (d.st c).1.nxt ∧ ∀ j T o, (j, T, o) ∈ as → bitC (d.st c).2 j = false → (d.st c).1.get T = none
  | 0, _, c, hc => by omega
  | k + 1, h, c, hc => by
    simp only [histOf, freeAll, Bool.and_eq_true] at h
    by_cases hck : c = k
    · subst hck
      exact ⟨Nat.le_of_ble_eq_true h.1, freeM_spec h.2.1⟩
    · exact freeAll_spec h.2.2 c (by omega)

section
variable {ih : Task → Res} {ops : Array Oper} {l : List (Oper × Nat)} {t0 : Tmps} {M0 : Mem} {T0 : Nat} {d : CD} {s : DS} {B : Bas} {e0 : Env} {ds : List CDef}

theorem count_set {L : Array Bool} {i : Nat} (h : L[i]? = some false) : (L.setIfInBounds i true).toList.count false + 1 = L.toList.count false := by
  have hlt := (Array.getElem?_eq_some_iff.1 h).1
  have hv := (Array.getElem?_eq_some_iff.1 h).2
  rw [Array.toList_setIfInBounds, List.count_set (by simpa using hlt)]
  have h1 : L.toList[i] = false := by simpa using hv
  have h2 : 0 < L.toList.count false := List.count_pos_iff.2 (by rw [← h1]; exact List.getElem_mem _)
  rw [h1]
  show (L.toList.count false - 1 + 0) + 1 = L.toList.count false
  omega

theorem all_listed (hp : PlanOk ops l) {L : Array Bool} (hsz : L.size = ops.size) (hr : Region.ready .any ops L = []) : ∀ i, i < ops.size → Lst L i := by
  intro i
  induction i using Nat.strongRecOn with
  | _ i ih2 =>
    intro hi
    cases hl : L.getD i false with
    | true => exact hl
    | false =>
      exfalso
      obtain ⟨o, ho⟩ : ∃ o, ops[i]? = some o := ⟨_, Array.getElem?_eq_getElem hi⟩
      obtain ⟨⟨o', M⟩, hlp⟩ : ∃ p, l[i]? = some p := ⟨_, List.getElem?_eq_getElem (by rw [hp.len]; exact hi)⟩
      have hmem : i ∈ Region.ready .any ops L := mem_ready.2 ⟨by
        rw [Array.getD_eq_getD_getElem?] at hl ⊢
        have hlt : i < L.size := by rw [hsz]; exact hi
        have : L[i]? = some L[i] := Array.getElem?_eq_getElem hlt
        rw [this] at hl ⊢
        exact hl, o, ho, fun e he hb => ih2 e.on ((hp.mask i o' M hlp).low o ho e he hb) (by have := (hp.mask i o' M hlp).low o ho e he hb; omega)⟩
      rw [hr] at hmem; cases hmem

/-- Every order, by an invariant. -/
theorem any_go {rr : Option Nat} {n : Nat} {Q : Exit → Act → World → Prop} {Inv : Array Bool → Act → World → Prop} (hsz : ∀ L a w, Inv L a w → L.size = ops.size)
    (hstep : ∀ L a w i, Inv L a w → i ∈ Region.ready .any ops L → ∀ K : Act → World → Prop, (∀ a w, Inv (L.setIfInBounds i true) a w → K a w) → wpOpIn (FW rr) n P ops Q i K a w)
    (hdone : ∀ L a w, Inv L a w → Region.ready .any ops L = [] → Q .normal a w) :
    ∀ (f : Nat) (L : Array Bool) (a : Act) (w : World), Inv L a w → L.toList.count false ≤ f → wpAnyIn (FW rr) n P .any ops Q f L a w := by
  have hcnt : ∀ L a w i, Inv L a w → i ∈ Region.ready .any ops L → (L.setIfInBounds i true).toList.count false + 1 = L.toList.count false := fun L a w i hs hi => by
    obtain ⟨h1, h2, _⟩ := ready_not hi (hsz L a w hs)
    refine count_set ?_
    rw [Array.getElem?_eq_getElem (by rw [hsz L a w hs]; exact h2)]
    unfold Lst at h1
    rw [Array.getD_eq_getD_getElem?, Array.getElem?_eq_getElem (by rw [hsz L a w hs]; exact h2)] at h1
    simpa using h1
  intro f
  induction f with
  | zero =>
    intro L a w hs hf
    have hr : Region.ready .any ops L = [] := by
      rw [List.eq_nil_iff_forall_not_mem]
      intro i hi
      have := hcnt L a w i hs hi
      omega
    exact ⟨hr, hdone L a w hs hr⟩
  | succ f ih2 =>
    intro L a w hs hf
    refine ⟨hdone L a w hs, fun i hi => ?_⟩
    have hcount := hcnt L a w i hs hi
    exact hstep L a w i hs hi _ fun a w hs2 => ih2 _ a w hs2 (by omega)
end

theorem unset_get (t : Tmps) (i u : Nat) : (t.unset i).get u = if u = i then none else t.get u := by
  obtain ⟨sz, tr⟩ := t
  show Bool.rec (motive := fun _ => Option CV) none ((Tr.set (Nat.succ i) tr i none).get u) (Nat.ble (Nat.succ u) sz) = if u = i then none else Bool.rec (motive := fun _ => Option CV) none (tr.get u) (Nat.ble (Nat.succ u) sz)
  rw [Tr.get_set _ _ _ _ _ (by omega)]
  by_cases hu : u = i
  · rw [if_pos hu, if_pos hu]
    cases Nat.ble (Nat.succ u) sz <;> rfl
  · rw [if_neg hu, if_neg hu]
theorem unset_sz (t : Tmps) (i : Nat) : (t.unset i).sz = t.sz := by obtain ⟨sz, tr⟩ := t; rfl
theorem unsetL_spec : ∀ (r : List (Nat × Nat)) (t : Tmps), (unsetL r t).sz = t.sz ∧ ∀ u x, (unsetL r t).get u = some x → t.get u = some x ∧ ∀ j, (u, j) ∉ r
  | [], t => ⟨rfl, fun u x h => ⟨h, fun j hj => by cases hj⟩⟩
  | (d, i) :: r, t => by
    obtain ⟨h1, h2⟩ := unsetL_spec r (t.unset d)
    refine ⟨h1.trans (unset_sz t d), fun u x h => ?_⟩
    obtain ⟨h3, h4⟩ := h2 u x h
    rw [unset_get] at h3
    split at h3
    · cases h3
    · rename_i hne
      refine ⟨h3, fun j hj => ?_⟩
      rcases List.mem_cons.1 hj with hj | hj
      · cases hj; exact hne rfl
      · exact h4 j hj

theorem drawC_ok {ih : Task → Res} (hih : ∀ B k, TaskOk P B k (ih k)) (hm : P.follows .mixedOrders = true) (B : Bas) (id : Nat) (ops : Array Oper) (t : Tmps) (ds : List CDef) (r : Option Nat) (m : Mem) : CodeOk P B (.region id ops true) t ds r m (drawC P ih ops.toList t ds m) := by
  unfold drawC
  split
  · rename_i l hl
    have hp := plan_spec hl
    generalize hdr : drawAll P ih ops.toList m.nxt l 0 ⟨t, ⟨Nat.add m.nxt ops.toList.length, m.tr⟩, 0, [], [], []⟩ = dr
    have hlen : Nat.add m.nxt ops.toList.length = m.nxt + ops.size := by simp
    rw [hlen] at hdr ⊢
    let M0 : Mem := ⟨m.nxt + ops.size, m.tr⟩
    have hget : ∀ T, M0.get T = m.get T := fun T => rfl
    let d0 : CD := ⟨fun _ => undefC, fun _ => 0, fun _ => 0, fun _ => (M0, 0), 0⟩
    have hc0 : Cert P ih ops l t M0 m.nxt d0 0 ⟨t, M0, 0, [], [], []⟩ := by
      refine ⟨rfl, rfl, rfl, ?_, ?_, ?_, rfl, ?_, ⟨?_, ?_⟩, ?_, ?_, fun u _ => rfl, rfl, ?_, ?_, ?_, ?_, ?_, ?_⟩
      · intro k hk; exact absurd hk (Nat.not_lt_zero _)
      · intro i hi; exact absurd hi (Nat.not_lt_zero _)
      · intro k hk; exact absurd hk (Nat.not_lt_zero _)
      · intro k hk; exact absurd hk (Nat.not_lt_zero _)
      · intro j T o h; cases h
      · intro j T o T' o' h; cases h
      · intro j T o h; cases h
      · intro i o u hi; exact absurd hi (Nat.not_lt_zero _)
      · intro i o B hi; exact absurd hi (Nat.not_lt_zero _)
      · intro i o B hi; exact absurd hi (Nat.not_lt_zero _)
      · intro k o B hk; exact absurd hk (Nat.not_lt_zero _)
      · intro i o B hi; exact absurd hi (Nat.not_lt_zero _)
      · intro i hi; exact absurd hi (Nat.not_lt_zero _)
      · intro i o B hi; exact absurd hi (Nat.not_lt_zero _)
    by_cases hno : isNo dr
    · cases dr <;> first | trivial | exact hno.elim
    have hout := drawAll_cert hp hno l 0 d0 _ (fun j => by rw [Nat.zero_add]) hc0 (fun j hj => absurd hj (Nat.not_lt_zero _)) hdr
    rw [Nat.zero_add, hp.len] at hout
    have nolst : ∀ j, ¬ Lst (Array.replicate ops.size false) j := fun j hj => by
      unfold Lst at hj
      rw [Array.getD_eq_getD_getElem?, Array.getElem?_replicate] at hj
      split at hj <;> cases hj
    -- what the tags say
    have hfree : ∀ {d : CD} {s : DS} {n : Nat}, Cert P ih ops l t M0 m.nxt d n s → freeAll (m.nxt + ops.size) s.as ((0, s.cl, s.cur) :: s.hist) = true → ∀ c, c ≤ d.K → (m.nxt + ops.size) ≤ (d.st c).1.nxt ∧ ∀ j T o, (j, T, o) ∈ s.as → bitC (d.st c).2 j = false → (d.st c).1.get T = none := fun {d s n} hc hfr c hcK => by
      have hfrK : freeAll (m.nxt + ops.size) s.as (histOf { d with wi := fun k => if k = d.K then 0 else d.wi k } (d.K + 1)) = true := by
        have : histOf { d with wi := fun k => if k = d.K then 0 else d.wi k } (d.K + 1) = (0, s.cl, s.cur) :: s.hist := by
          simp only [histOf, if_pos]
          rw [hc.cl, hc.cur, hc.hist]
          congr 1
          exact histOf_congr fun i hi => ⟨if_neg (by omega), rfl⟩
        rw [this]; exact hfr
      exact freeAll_spec hfrK c (by omega)
    -- the start
    have hstart : ∀ {d : CD} {s : DS} {n : Nat}, Cert P ih ops l t M0 m.nxt d n s → ∀ {e a w}, St B e t ds m a w → Sim ops t m.nxt d s.as B e ds 0 (Array.replicate ops.size false) a { w with drawn := w.drawn + 1 } := fun {d s n} hc {e a w} hs => by
      have hZ0 : ∀ tt, Zof ops m.nxt d B (Array.replicate ops.size false) tt → B.Z tt ∨ (m.nxt ≤ tt ∧ tt < m.nxt + ops.size) := fun tt ht => by
        rcases ht with ht | ⟨j, h1, _, _, rfl⟩
        · exact .inl ht
        · exact .inr ⟨by omega, by omega⟩
      have hrw := hs.rel.drew
      refine ⟨e, t, M0, 0, Nat.le_refl _, by simp, Env.le.refl e, fun i o _ hi => absurd hi (nolst i), Nat.zero_le _, fun k hk => ⟨fun hq => absurd hq (nolst _), fun hq => absurd hq (Nat.not_lt_zero _)⟩, hs.dok, hs.tok, rfl, fun j q u hj => absurd hj (nolst j), fun u _ => rfl, ?_, ?_⟩
      · refine ⟨fun tt o ho => hrw.ok tt o ho, fun tt t' o o' b b' h1 h2 => hrw.inj0 tt t' o o' b b' h1 h2, fun tt o b h1 => hrw.own tt o b h1, fun tt o b h1 => hrw.rof tt o b h1, hrw.glb, fun tt ht => hrw.dom tt (by have : m.nxt + ops.size ≤ tt := ht; omega), hrw.frm, fun tt ht => ?_, fun tt ht => ?_⟩
        · show tt < m.nxt + ops.size
          rcases hZ0 tt ht with h | h
          · have := hrw.zlt tt h; omega
          · exact h.2
        · rcases hZ0 tt ht with h | h
          · exact hrw.bar tt h
          · exact hrw.dom tt h.1
      · rw [hc.st0]
        exact ⟨rfl, fun j T o _ hj => absurd hj.1 (nolst j), fun T _ => rfl⟩
    -- temporaries at the end
    have hend : ∀ {d d' : CD} {s : DS} {n : Nat} {L : Array Bool} {a2 : Act} {w2 : World} {e e2 : Env} {t2 : Tmps} {m2 : Mem} {c : Nat}, Cert P ih ops l t M0 m.nxt d n s → (∀ j q u, ops[j]? = some q → q.dst = some u → j < n ∧ d.kn j ≠ 3) → d'.val = d.val →
        SimAt ops t m.nxt d' s.as B e ds L a2 w2 e2 t2 m2 c → (∀ j, j < ops.size → Lst L j) → TOk e2 s.t a2.tmps := fun {d d' s n L a2 w2 e e2 t2 m2 c} hc hd hval hat hdone => by
      refine ⟨by rw [hat.tok.1, hat.tsz, hc.tsz], fun u x hx => hat.tok.2 u x ?_⟩
      rw [← hx]
      by_cases hq : ∃ (j : Nat) (q : Oper), ops[j]? = some q ∧ q.dst = some u
      · obtain ⟨j, q, h1, h2⟩ := hq
        have hj := (Array.getElem?_eq_some_iff.1 h1).1
        obtain ⟨h3, h4⟩ := hd j q u h1 h2
        rw [hat.t1 j q u (hdone j hj) h1 h2, (hc.tv1 j q u h3 h4 h1 h2).1, hval]
      · rw [hat.t2 u fun j q _ h1 h2 => hq ⟨j, q, h1, h2⟩, hc.tv0 u fun j q _ _ h1 h2 => hq ⟨j, q, h1, h2⟩]
    have hcK : ∀ {d d' : CD} {s : DS} {n : Nat} {L : Array Bool} {a2 : Act} {w2 : World} {e e2 : Env} {t2 : Tmps} {m2 : Mem} {c : Nat}, Cert P ih ops l t M0 m.nxt d n s → n ≤ ops.size → d'.K = d.K → d'.wi = d.wi →
        SimAt ops t m.nxt d' s.as B e ds L a2 w2 e2 t2 m2 c → (∀ j, j < ops.size → Lst L j) → c = d.K := fun {d d' s n L a2 w2 e e2 t2 m2 c} hc hn hK hwi hat hdone => by
      have h1 := hat.cK
      rw [hK] at h1
      rcases Nat.lt_or_ge c d.K with h2 | h2
      · have := (hat.cw c (by rw [hK]; exact h2)).1 (hdone _ (by rw [hwi]; have := (hc.wlt c h2).1; omega))
        omega
      · omega
    have hovE : ∀ {d : CD} {s : DS} {n : Nat}, Cert P ih ops l t M0 m.nxt d n s → n ≤ ops.size → (∀ c, c ≤ d.K → (m.nxt + ops.size) ≤ (d.st c).1.nxt) → Ovr (fun j => (!bitC s.cl j) = true) s.as s.cur (addP (fun j => !bitC s.cl j) s.as s.cur) := fun {d s n} hc hn hnx =>
      addP_ovr (fun j => !bitC s.cl j) (M := s.cur) hc.asok (fun j T o hj => by
        have h1 := (hc.asok.tag j T o hj).1
        have h2 := (hc.asin j T o hj).1
        have h3 := hnx d.K (Nat.le_refl _)
        rw [hc.cur]; omega)
    cases dr with
    | no w => exact absurd trivial hno
    | ok s =>
      obtain ⟨d, hc, h3⟩ := hout
      show CodeOk P B (.region id ops true) t ds r m (freeD (m.nxt + ops.size) s _)
      unfold freeD
      split
      · rename_i hfr
        intro e a w rr n hR hs
        have hall := hfree hc hfr
        refine wpIn_region_any hm (any_go (Inv := fun L a w => Sim ops t m.nxt d s.as B e ds 0 L a w) (fun L a w ⟨_, _, _, _, _, hat⟩ => hat.size) (fun L a2 w2 i ⟨_, _, _, _, hc0', hat⟩ hi K hK => ?_) (fun L a2 w2 ⟨e2, t2, m2, c, _, hat⟩ hr => ?_) ops.size _ _ _ (hstart hc hs) (by simp))
        · have hlt := (ready_not hi hat.size).2.1
          exact hat.step (M0 := M0) hp hih (hc.fc (Nat.le_refl _)) (fun c hc => (hall c hc).1) rfl (fun c hc => (hall c hc).2) (fun tt ht => hs.rel.zlt tt ht) ⟨hlt, h3 i hlt⟩ hc0' hi hK
        · have hdone := all_listed hp hat.size hr
          obtain rfl := hcK hc (Nat.le_refl _) rfl rfl hat hdone
          refine ⟨e2, hat.le, rfl, ?_, hend hc (fun j q u hj _ => by have := (Array.getElem?_eq_some_iff.1 hj).1; exact ⟨this, h3 j this⟩) rfl hat hdone, hat.dok⟩
          have hov := hovE hc (Nat.le_refl _) (fun c hc => (hall c hc).1)
          have hm2 : Ovr (fun j => Lst L j ∧ bitC (d.st d.K).2 j = false) s.as s.cur m2 := by rw [hc.cur]; exact hat.ovr
          rw [← hc.cl] at hm2
          have hr2 : Rel (B.withZ B.Z) e2 m2 w2 := hat.rel.reZ fun tt ht => .inl ht
          have hr3 : Rel B e2 m2 w2 := hr2
          refine hr3.sub (hov.nxt.trans hm2.nxt.symm) fun T o hT => ?_
          by_cases hx : ∃ j o', (j, T, o') ∈ s.as ∧ bitC s.cl j = false
          · obtain ⟨j, o', h1, h2⟩ := hx
            rw [hov.get1 j T o' h1 (by rw [h2]; rfl)] at hT; cases hT
            exact hm2.get1 j T o h1 ⟨hdone j (hc.asin j T o h1).1, h2⟩
          · rw [hov.get0 T fun j o' h1 h2 => hx ⟨j, o', h1, by simpa using h2⟩] at hT
            rw [hm2.get0 T fun j o' h1 h2 => hx ⟨j, o', h1, h2.2⟩]
            exact hT
      · trivial
    | pan v mp s =>
      obtain ⟨d, z, hc, hz⟩ := hout
      show CodeOk P B (.region id ops true) t ds r m (freeD (m.nxt + ops.size) s _)
      unfold freeD
      split
      · rename_i hfr
        intro e a w rr n hR hs
        have hall := hfree hc hfr
        refine wpIn_region_any hm (any_go (Inv := fun L a w => ¬ Lst L z ∧ Sim ops t m.nxt d s.as B e ds 0 L a w) (fun L a w ⟨_, _, _, _, _, _, hat⟩ => hat.size) (fun L a2 w2 i ⟨hnz, _, _, _, _, hc0', hat⟩ hi K hK => ?_) (fun L a2 w2 ⟨hnz, e2, t2, m2, c, _, hat⟩ hr => absurd (all_listed hp hat.size hr z hz.lt) hnz) ops.size _ _ _ ⟨nolst z, hstart hc hs⟩ (by simp))
        obtain ⟨hni, hlt, o, ho, hed⟩ := ready_not hi hat.size
        by_cases hiz : i = z
        · subst hiz
          refine hat.pan (M0 := M0) hp hih (hc.fc (Nat.le_refl _)) (fun c hc => (hall c hc).1) rfl (fun c hc => (hall c hc).2) (fun o M hl => hz.go o M hl) hi fun e1 V w1 le1 hV hr1 => ?_
          refine ⟨e1, hat.le.trans le1, ⟨V, hV, rfl⟩, ?_, ?_, hat.dok.mono le1⟩
          · have hr2 : Rel (B.withZ B.Z) e1 mp w1 := hr1.reZ fun tt ht => .inl ht
            exact hr2
          · obtain ⟨u1, u2⟩ := unsetL_spec (prodC ops.toList 0) s.t
            have ht1 := hat.tok.mono le1
            refine ⟨by rw [u1, hc.tsz, ← hat.tsz]; exact ht1.1, fun u x hx => ht1.2 u x ?_⟩
            obtain ⟨h1, h2⟩ := u2 u x hx
            have hno : ∀ (j : Nat) (q : Oper), ops[j]? = some q → q.dst ≠ some u := fun j q hj hq => h2 j (prod_mem.2 ⟨Nat.zero_le _, q, by simpa using hj, hq⟩)
            rw [hat.t2 u fun j q _ hj => hno j q hj, ← hc.tv0 u fun j q _ _ hj => hno j q hj]
            exact h1
        · obtain ⟨⟨o', M⟩, hl⟩ : ∃ p, l[i]? = some p := ⟨_, List.getElem?_eq_getElem (by rw [hp.len]; exact hlt)⟩
          have h3 : d.kn i ≠ 3 := fun h3 => by
            rcases hz.rest i o' M hlt hl h3 with hq | hq
            · exact hiz hq
            · exact hnz ((hp.mask i o' M hl).anc _ hat.clos (fun q hq e he hb => hed e (by rw [ho] at hq; cases hq; exact he) hb) z hq)
          refine hat.step (M0 := M0) hp hih (hc.fc (Nat.le_refl _)) (fun c hc => (hall c hc).1) rfl (fun c hc => (hall c hc).2) (fun tt ht => hs.rel.zlt tt ht) ⟨hlt, h3⟩ hc0' hi fun a w hsim => hK a w ⟨fun hq => ?_, hsim⟩
          rcases (lst_set (by rw [hat.size]; exact hlt)).1 hq with hq | hq
          · exact hnz hq
          · exact hiz hq.symm
      · trivial
    | fin tF oF s =>
      obtain ⟨d, k, o, M, hk, hc, h3, hlk, hgN, hdN, hfin⟩ := hout
      have hf := fin_ok (d := d) hk.symm hgN hdN hfin
      show CodeOk P B (.region id ops true) t ds r m (freeD (m.nxt + ops.size) s _)
      unfold freeD
      split
      · rename_i hfr
        intro e a w rr n hR hs
        have hall := hfree hc hfr
        have hks : k < ops.size := by omega
        have hlow := hf.low
        have hnx : ∀ c, c ≤ d.K → M0.nxt ≤ (d.st c).1.nxt := fun c hc => (hall c hc).1
        have hfc2 := hf.fc hp hc hnx rfl
        have hfree2 : Free (d.over tF oF) s.as := fun c hcK j T o2 hj hb => by
          have h1 := (hc.asok.tag j T o2 hj).1
          show ((d.st c).1.put tF oF).get T = none
          rw [Mem.get_put, if_neg (by omega)]
          exact (hall c hcK).2 j T o2 hj hb
        refine wpIn_region_any hm (any_go (Inv := fun L a w => (¬ Lst L k ∧ Sim ops t m.nxt d s.as B e ds 0 L a w) ∨ (Lst L k ∧ Sim ops t m.nxt (d.over tF oF) s.as B e ds (cutF d M d.K) L a w)) (fun L a w hI => ?_) (fun L a2 w2 i hI hi K hK => ?_) (fun L a2 w2 hI hr => ?_) ops.size _ _ _ (.inl ⟨nolst k, hstart hc hs⟩) (by simp))
        · rcases hI with ⟨_, _, _, _, _, _, hat⟩ | ⟨_, _, _, _, _, _, hat⟩ <;> exact hat.size
        · rcases hI with ⟨hnk, e2, t2, m2, c, hc0', hat⟩ | ⟨hLk, e2, t2, m2, c, hc0', hat⟩
          · obtain ⟨hni, hlt, o2, ho, hed⟩ := ready_not hi hat.size
            have hsz : i < L.size := by rw [hat.size]; exact hlt
            by_cases hik : i = k
            · subst hik
              exact hat.fin hf hp hc h3 hlk hnx rfl hi fun a w hsim => hK a w (.inr ⟨(lst_set hsz).2 (.inr rfl), hsim⟩)
            · refine hat.step (M0 := M0) hp hih (hc.fc (Nat.le_of_lt hks)) hnx rfl (fun c hc => (hall c hc).2) (fun tt ht => hs.rel.zlt tt ht) ⟨by omega, h3 i (by omega)⟩ hc0' hi fun a w hsim => hK a w (.inl ⟨fun hq => ?_, hsim⟩)
              rcases (lst_set hsz).1 hq with hq | hq
              · exact hnk hq
              · exact hik hq.symm
          · obtain ⟨hni, hlt, o2, ho, hed⟩ := ready_not hi hat.size
            have hsz : i < L.size := by rw [hat.size]; exact hlt
            have hik : i ≠ k := fun hq => hni (by rw [hq]; exact hLk)
            have hb : bitC M i = false := by
              cases hb : bitC M i with
              | false => rfl
              | true => exact absurd ((hp.mask k o M hlk).anc _ hat.clos (fun q' hq' e he hbd => hat.clos k q' hq' hLk e he hbd) i hb) hni
            exact hat.step (M0 := M0) hp hih hfc2 hnx rfl hfree2 (fun tt ht => hs.rel.zlt tt ht) ⟨⟨by omega, h3 i (by omega)⟩, hb⟩ hc0' hi fun a w hsim => hK a w (.inr ⟨(lst_set hsz).2 (.inl hLk), hsim⟩)
        · rcases hI with ⟨hnk, e2, t2, m2, c, hc0', hat⟩ | ⟨hLk, e2, t2, m2, c, hc0', hat⟩
          · exact absurd (all_listed hp hat.size hr k hks) hnk
          · have hdone := all_listed hp hat.size hr
            obtain rfl := hcK (d' := d.over tF oF) hc (Nat.le_of_lt hks) rfl rfl hat hdone
            refine ⟨e2, hat.le, rfl, ?_, hend (d' := d.over tF oF) hc (fun j q u hj hu => ?_) rfl hat hdone, hat.dok⟩
            · have hov := hovE hc (Nat.le_of_lt hks) (fun c hc => (hall c hc).1)
              have hm2 : Ovr (fun j => Lst L j ∧ bitC (d.st d.K).2 j = false) s.as (s.cur.put tF oF) m2 := by rw [hc.cur]; exact hat.ovr
              rw [← hc.cl] at hm2
              have hr2 : Rel (B.withZ B.Z) e2 m2 w2 := hat.rel.reZ fun tt ht => .inl ht
              have hr3 : Rel B e2 m2 w2 := hr2
              refine hr3.sub (hov.nxt.trans hm2.nxt.symm) fun T o2 hT => ?_
              rw [Mem.get_put] at hT
              split at hT
              · rename_i hTF
                rw [hm2.get0 T fun j o' h1 h2 => by have := (hc.asok.tag j T o' h1).1; omega, Mem.get_put, if_pos hTF]
                exact hT
              · rename_i hTF
                by_cases hx : ∃ j o', (j, T, o') ∈ s.as ∧ bitC s.cl j = false
                · obtain ⟨j, o', h1, h2⟩ := hx
                  rw [hov.get1 j T o' h1 (by rw [h2]; rfl)] at hT; cases hT
                  exact hm2.get1 j T o2 h1 ⟨hdone j (by have := (hc.asin j T o2 h1).1; omega), h2⟩
                · rw [hov.get0 T fun j o' h1 h2 => hx ⟨j, o', h1, by simpa using h2⟩] at hT
                  rw [hm2.get0 T fun j o' h1 h2 => hx ⟨j, o', h1, h2.2⟩, Mem.get_put, if_neg hTF]
                  exact hT
            · have hj2 := (Array.getElem?_eq_some_iff.1 hj).1
              have hjk : j ≠ k := fun hq => by
                subst hq
                have := hp.op j o M hlk
                rw [hj] at this; cases this
                rw [hf.dst] at hu; cases hu
              exact ⟨by omega, h3 j (by omega)⟩
      · trivial
  · trivial
end Go.Cx
