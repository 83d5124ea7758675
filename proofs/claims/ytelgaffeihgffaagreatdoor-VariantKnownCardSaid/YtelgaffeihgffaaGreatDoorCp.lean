/-
  A concrete evaluator for Go's IR. Part p: regions that draw their order: a call that panics; a last store beside other writes.
-/
import Derived.Test.YtelgaffeihgffaaGreatDoorCr
set_option linter.unusedSimpArgs false
set_option linter.unusedVariables false
namespace Go.Cx
open Go Go.RowKit
variable {P : Program}

section sim
variable {ih : Task → Res} {ops : Array Oper} {l : List (Oper × Nat)} {t0 : Tmps} {M0 : Mem} {T0 : Nat} {d : CD} {s : DS} {B : Bas} {e0 : Env} {ds : List CDef}
  {listed : Array Bool} {a : Act} {w : World} {e : Env} {t : Tmps} {m : Mem} {c : Nat}

/-- The call that panics. -/
theorem SimAt.pan (hp : PlanOk ops l) (hih : ∀ B k, TaskOk P B k (ih k)) {G : Nat → Prop} {c0 : Nat} (hc : FC P ih ops l t0 T0 d s.as G c0) (hn : ∀ c, c ≤ d.K → M0.nxt ≤ (d.st c).1.nxt) (hM0 : M0.nxt = T0 + ops.size) (hfree : Free d s.as)
    (h : SimAt ops t0 T0 d s.as B e0 ds listed a w e t m c) {rr : Option Nat} {n : Nat} {Q : Exit → Act → World → Prop} {z : Nat} {v : CV} {mp : Mem}
    (hz : ∀ o M, l[z]? = some (o, M) → (∀ k, k + 1 = d.K → bitC M (d.wi k) = true) ∧ ∀ t, Agr ops t0 d.val M o t → guardC ops.toList t o.guard = some true ∧ ∃ f args, cop P o.op (memAt d s.as M d.K) t = .call f args ∧ ih (.call f args (memAt d s.as M d.K)) = .pan v mp)
    (hi : z ∈ Region.ready .any ops listed) {K : Act → World → Prop}
    (hQ : ∀ e1 V w1, Env.le e e1 → den e1 v = some V → Rel (B.withZ (Zof ops T0 d B listed)) e1 mp w1 → Q (.panic [{ v := V, recovered := false }]) a w1) : wpOpIn (FW rr) n P ops Q z K a w := by
  obtain ⟨hni, hlt, o, ho, hed⟩ := ready_not hi h.size
  obtain ⟨⟨o', M⟩, hl⟩ : ∃ p, l[z]? = some p := ⟨_, List.getElem?_eq_getElem (by rw [hp.len]; exact hlt)⟩
  have hoo : o' = o := by have := hp.op z o' M hl; rw [ho] at this; cases this; rfl
  subst hoo
  have hanc : ∀ j, bitC M j = true → Lst listed j := (hp.mask z o' M hl).anc _ h.clos (fun q hq e he hb => by rw [ho] at hq; cases hq; exact hed e he hb)
  have hagr := h.agr (s := s) hp hl hni hanc
  obtain ⟨hch, hgo⟩ := hz o' M hl
  obtain ⟨hg, f, args, hcop, hpan⟩ := hgo t hagr
  have hcK : c = d.K := by
    rcases Nat.lt_or_ge c d.K with h1 | h1
    · obtain ⟨k, hk⟩ : ∃ k, d.K = k + 1 := ⟨d.K - 1, by omega⟩
      have := (h.cw k (by omega)).1 (hanc _ (hch k hk.symm))
      omega
    · have := h.cK; omega
  subst hcK
  obtain ⟨_, hnx1, hsub⟩ := h.subMem hc hn hM0 hfree hanc
  have hrel1 : Rel (B.withZ (Zof ops T0 d B listed)) e (memAt d s.as M d.K) w := h.rel.sub hnx1 hsub
  unfold wpOpIn
  rw [ho]
  simp only
  rw [if_pos (guardC_ok h.tok hg)]
  have hout := cop_ok (P := P) (o := o') (a := a) hrel1 h.tok
  have hnd : ∀ c, o'.op ≠ .defer c := fun c' hc' => by
    rcases cop_defer (P := P) (m := memAt d s.as M d.K) (t := t) hc' with ⟨w, hw⟩ | ⟨f, args, hf⟩
    · rw [hcop] at hw; cases hw
    · rw [hcop] at hf; cases hf
  rw [hcop] at hout
  obtain ⟨vs, has, hrun⟩ := hout
  have hcall := hih (B.withZ (Zof ops T0 d B listed)) (.call f args (memAt d s.as M d.K))
  rw [hpan] at hcall
  obtain ⟨henter, hcc⟩ := hcall
  refine upon_of_run hnd (hrun.trans (henter _ _)) ?_
  refine ⟨fun hd => by simp [FW, Fence.wide] at hd, callsIn_FW ((hcc e vs w has hrel1).mono ?_)⟩
  rintro en w1 ⟨e1, V, le1, hV, rfl, hr1⟩
  exact hQ e1 V w1 le1 hV hr1

/-! ### a last store -/

theorem bin2_at {f : Mem → CV → CV → COut} {x y : Operand} {m : Mem} {t : Tmps} {v u : CV} (h : evO t x = some v) (h' : evO t y = some u) : bin2 f x y m t = f m v u := by unfold bin2; rw [h, h']

theorem cStore_loc {m m2 m' : Mem} {ty : TypeId} {tag off : Nat} {v u : CV} (h : cStore P m ty (.ptr tag off) v = .mem u m') (hg : m2.get tag = m.get tag) :
    u = undefC ∧ ∃ ob, m' = m.put tag ob ∧ cStore P m2 ty (.ptr tag off) v = .mem undefC (m2.put tag ob) := by
  unfold cStore at h ⊢
  cases hi : P.info? ty with
  | none => rw [hi] at h; cases h
  | some inf =>
  cases hv : cvCells v with
  | none => rw [hi, hv] at h; cases h
  | some vs =>
  rw [hi, hv] at h
  simp only at h ⊢
  split at h
  · unfold wr at h ⊢
    rw [hg]
    split at h
    · rename_i mm hmm
      simp only [COut.mem.injEq] at h
      obtain ⟨rfl, rfl⟩ := h
      refine ⟨rfl, ?_⟩
      split at hmm
      · cases hmm
      · split at hmm
        · split at hmm
          · simp only [Option.some.injEq] at hmm
            exact ⟨_, hmm.symm, rfl⟩
          · cases hmm
        · split at hmm
          · simp only [Option.some.injEq] at hmm
            exact ⟨_, hmm.symm, rfl⟩
          · cases hmm
        · cases hmm
    · cases h
  · cases h

theorem cStore_mem {m : Mem} {ty : TypeId} {x v : CV} : (∃ w, cStore P m ty x v = .no w) ∨ ∃ tag off m', x = .ptr tag off ∧ cStore P m ty x v = .mem undefC m' := by
  cases h : cStore P m ty x v with
  | no w => exact .inl ⟨w, rfl⟩
  | mem u m' =>
    have h2 := h
    unfold cStore at h
    split at h
    · rename_i tag off inf vs h1 h3
      exact .inr ⟨tag, off, m', rfl, by rw [(cStore_loc (m2 := m) h2 rfl).1]⟩
    · cases h
  | _ =>
    unfold cStore at h
    split at h
    · split at h
      · split at h <;> cases h
      · cases h
    · cases h

theorem ia_loc {m m2 : Mem} {ty : TypeId} {x i : CV} {tF : Nat} (hx : offTag tF x = true) (hg : ∀ T, T ≠ tF → m2.get T = m.get T) : cIndexAddr P m2 ty x i = cIndexAddr P m ty x i := by
  unfold cIndexAddr
  split
  · unfold iaSlice
    split
    · rfl
    · rename_i tag e n
      have hne : tag ≠ tF := fun hq => by
        unfold offTag at hx
        simp only [Bool.not_eq_true'] at hx
        rw [hq, Nat.beq_refl] at hx; cases hx
      unfold iaOpn
      rw [hg tag hne]
    · rfl
  · rfl
  · rfl

theorem againF_spec {tF B : Nat} {t : Tmps} : ∀ {ns : List (Nat × Oper × Nat × CV)}, againF t B tF ns = true → ∀ i o B' v, (i, o, B', v) ∈ ns → bitC B i = true ∨ offOp t tF o.op = true
  | [], _, i, o, B', v, h => by cases h
  | (i0, o0, B0, v0) :: r, h, i, o, B', v, hm => by
    simp only [againF, Bool.and_eq_true, Bool.or_eq_true] at h
    rcases List.mem_cons.1 hm with hm | hm
    · cases hm; exact h.1
    · exact againF_spec h.2 i o B' v hm

/-- From this write on, none is waited for. -/
noncomputable def cutF (d : CD) (B : Nat) : Nat → Nat
  | 0 => 0
  | k + 1 => match bitC B (d.wi k) with
    | true => k + 1
    | false => cutF d B k
theorem cutF_lt {d : CD} {B : Nat} : ∀ {K : Nat} {k : Nat}, k < K → bitC B (d.wi k) = true → k < cutF d B K
  | 0, k, h, _ => by omega
  | K + 1, k, h, hb => by
    unfold cutF
    split
    · omega
    · rename_i hf
      refine cutF_lt (Nat.lt_of_le_of_ne (by omega) fun hq => ?_) hb
      subst hq
      rw [hb] at hf; cases hf
theorem cutF_ge {d : CD} {B : Nat} : ∀ {K : Nat} {k : Nat}, k < K → cutF d B K ≤ k → bitC B (d.wi k) = false
  | 0, k, h, _ => by omega
  | K + 1, k, h, hb => by
    unfold cutF at hb
    split at hb
    · omega
    · rename_i hf
      by_cases hq : k = K
      · subst hq; exact hf
      · exact cutF_ge (by omega) hb
theorem cutF_le {d : CD} {B : Nat} : ∀ {K : Nat}, cutF d B K ≤ K
  | 0 => Nat.le_refl _
  | K + 1 => by
    unfold cutF
    split
    · exact Nat.le_refl _
    · exact Nat.le_succ_of_le cutF_le
theorem cutF_src {d : CD} {B : Nat} : ∀ {K : Nat}, cutF d B K = 0 ∨ ∃ k, k < K ∧ bitC B (d.wi k) = true ∧ cutF d B K = k + 1
  | 0 => .inl rfl
  | K + 1 => by
    unfold cutF
    split
    · rename_i h
      exact .inr ⟨K, by omega, h, rfl⟩
    · rcases cutF_src (d := d) (B := B) (K := K) with h | ⟨k, h1, h2, h3⟩
      · exact .inl h
      · exact .inr ⟨k, by omega, h2, h3⟩

theorem histF_spec {ops : List Oper} {t : Tmps} {B tF : Nat} {d : CD} : ∀ {K : Nat}, histF ops t B tF (histOf d K) = true → ∀ k, k < K → cutF d B K ≤ k → offStore t tF (nth ops (d.wi k)) = true
  | 0, _, k, h, _ => by omega
  | K + 1, h, k, hk, hc => by
    unfold histOf histF at h
    unfold cutF at hc
    cases hb : bitC B (d.wi K) with
    | true => rw [hb] at hc; simp only at hc; omega
    | false =>
      rw [hb] at h hc
      simp only [Bool.and_eq_true] at h hc
      by_cases hq : k = K
      · subst hq; exact h.1
      · exact histF_spec h.2 k (by omega) hc

theorem offStore_spec {t : Tmps} {tF : Nat} {o : Oper} (h : offStore t tF (some o) = true) : ∃ ty a x t' off, o.op = .store ty a x ∧ evO t a = some (.ptr t' off) ∧ t' ≠ tF := by
  unfold offStore at h
  simp only at h
  split at h
  · rename_i ty a x hop
    split at h
    · rename_i t' off he
      refine ⟨ty, a, x, t', off, hop, he, fun hq => ?_⟩
      rw [hq, Nat.beq_refl] at h; cases h
    · cases h
  · cases h
theorem offOp_spec {t : Tmps} {tF : Nat} {op : Op} (h : offOp t tF op = true) : ∃ ty x i v, op = .indexAddr ty x i ∧ evO t x = some v ∧ offTag tF v = true := by
  unfold offOp at h
  split at h
  · rename_i ty x i
    split at h
    · rename_i v he
      exact ⟨ty, x, i, v, rfl, he, h⟩
    · cases h
  · cases h

noncomputable def CD.over (d : CD) (tF : Nat) (oF : CO) : CD := { d with st := fun c => ((d.st c).1.put tF oF, (d.st c).2) }

/-- What the last store does, seen at the run's end. -/
structure FinOk (P : Program) (ops : Array Oper) (T0 : Nat) (d : CD) (s : DS) (k : Nat) (o : Oper) (M tF : Nat) (oF : CO) : Prop where
  last : k + 1 = ops.size
  grd : o.guard = none
  dst : o.dst = none
  low : tF < T0
  sto : ∃ ty ax xx off u, o.op = .store ty ax xx ∧ evO s.t ax = some (.ptr tF off) ∧ evO s.t xx = some u ∧ cStore P s.cur ty (.ptr tF off) u = .mem undefC (s.cur.put tF oF)
  ns : againF s.t M tF s.ns = true
  hist : histF ops.toList s.t M tF s.hist = true

theorem fin_ok {k : Nat} {o : Oper} {M tF : Nat} {oF : CO} (hlast : k + 1 = ops.size) (hg : noneG o.guard = true) (hd : noneD o.dst = true) (h : drawFin P ops.toList T0 o M s = .fin tF oF s) : FinOk P ops T0 d s k o M tF oF := by
  unfold drawFin at h
  split at h
  · rename_i ty ax xx hop
    split at h
    · rename_i t' off hax
      split at h
      · rename_i hb
        simp only [Bool.and_eq_true] at hb
        have hlow : t' < T0 := Nat.le_of_ble_eq_true hb.1
        rw [hop] at h
        have hcop : copT P s.cur.nxt (.store ty ax xx) s.cur s.t = bin2 (fun m a x => cStore P m ty a x) ax xx s.cur s.t := rfl
        rw [hcop] at h
        cases hxx : evO s.t xx with
        | none =>
          rw [show bin2 (fun m a x => cStore P m ty a x) ax xx s.cur s.t = .no "operand" from by unfold bin2; rw [hax, hxx]] at h
          cases h
        | some u =>
          rw [bin2_at hax hxx] at h
          rcases cStore_mem (P := P) (m := s.cur) (ty := ty) (x := .ptr t' off) (v := u) with ⟨w, hw⟩ | ⟨tag, off2, m', h1, h2⟩
          · rw [hw] at h; cases h
          · cases h1
            rw [h2] at h
            obtain ⟨_, ob, hm', _⟩ := cStore_loc (m2 := s.cur) h2 rfl
            subst hm'
            unfold finObj at h
            simp only [Mem.get_put, if_true] at h
            cases h
            refine ⟨hlast, ?_, ?_, hlow, ⟨ty, ax, xx, off, u, hop, hax, hxx, h2⟩, hb.2.1, hb.2.2⟩
            · cases hgg : o.guard with
              | none => rfl
              | some _ => rw [hgg] at hg; cases hg
            · cases hgg : o.dst with
              | none => rfl
              | some _ => rw [hgg] at hd; cases hd
      · cases h
    · cases h
  · cases h

section fin
variable {k : Nat} {o : Oper} {M tF : Nat} {oF : CO}

theorem evO_agr (hp : PlanOk ops l) {i : Nat} {q : Oper} {B' : Nat} {t t' : Tmps} (ha : Agr ops t0 d.val B' q t) (ha' : Agr ops t0 d.val B' q t') {x : Operand} (hx : ∀ u, x = .tmp u → .tmp u ∈ useOp q.op) : evO t x = evO t' x :=
  evO_congr fun u hu => ha.eq ha' u (.inl (hx u hu))

/-- A write that the last store does not wait for is a store elsewhere. -/
theorem FinOk.write (hf : FinOk P ops T0 d s k o M tF oF) (hp : PlanOk ops l) (hc : Cert P ih ops l t0 M0 T0 d k s) {j : Nat} (hj : j < d.K) (hcut : cutF d M d.K ≤ j) {q : Oper} {B' : Nat} (hl : l[d.wi j]? = some (q, B')) :
    ∃ ty a x t' off, q.op = .store ty a x ∧ evO s.t a = some (.ptr t' off) ∧ t' ≠ tF := by
  have h1 := histF_spec (by have := hf.hist; rwa [hc.hist] at this) j hj hcut
  rw [nth_eq] at h1
  have h2 := hp.op _ q B' hl
  rw [show ops.toList[d.wi j]? = some q from by simpa using h2] at h1
  exact offStore_spec h1

theorem memAt_over {as : List (Nat × Nat × CO)} (hA : AsOk T0 as) (hlow : tF < T0) {B' c : Nat} (hlt : ∀ j T ob, (j, T, ob) ∈ as → T < (d.st c).1.nxt) :
    (memAt (d.over tF oF) as B' c).nxt = (memAt d as B' c).nxt ∧ (memAt (d.over tF oF) as B' c).get tF = some oF ∧ ∀ T, T ≠ tF → (memAt (d.over tF oF) as B' c).get T = (memAt d as B' c).get T := by
  have h1 := addP_ovr (pickA B' (d.st c).2) (M := (d.st c).1) hA hlt
  have h2 := addP_ovr (pickA B' (d.st c).2) (M := (d.st c).1.put tF oF) hA hlt
  refine ⟨h2.nxt.trans h1.nxt.symm, ?_, fun T hT => ?_⟩
  · refine (h2.get0 tF fun j ob hm => ?_).trans (by rw [Mem.get_put, if_pos rfl])
    have := (hA.tag j tF ob hm).1
    omega
  · by_cases hx : ∃ j ob, (j, T, ob) ∈ as ∧ pickA B' (d.st c).2 j = true
    · obtain ⟨j, ob, h3, h4⟩ := hx
      exact (h2.get1 j T ob h3 h4).trans (h1.get1 j T ob h3 h4).symm
    · refine (h2.get0 T fun j ob h3 h4 => hx ⟨j, ob, h3, h4⟩).trans (Eq.trans ?_ (h1.get0 T fun j ob h3 h4 => hx ⟨j, ob, h3, h4⟩).symm)
      rw [Mem.get_put, if_neg hT]

/-- The target of the last store stays as it is. -/
theorem FinOk.keep (hf : FinOk P ops T0 d s k o M tF oF) (hp : PlanOk ops l) (hc : Cert P ih ops l t0 M0 T0 d k s) (hn : ∀ c, c ≤ d.K → M0.nxt ≤ (d.st c).1.nxt) (hM0 : M0.nxt = T0 + ops.size) :
    ∀ n c, c + n = d.K → cutF d M d.K ≤ c → (d.st c).1.get tF = s.cur.get tF := by
  have hks : k ≤ ops.size := by have := hf.last; omega
  intro n
  induction n with
  | zero =>
    intro c hcn _
    rw [hc.cur, show c = d.K by omega]
  | succ n ihn =>
    intro c hcn hcut
    rw [← ihn (c + 1) (by omega) (by omega)]
    have hcK : c < d.K := by omega
    obtain ⟨⟨q, B'⟩, hq⟩ : ∃ p, l[d.wi c]? = some p := ⟨_, List.getElem?_eq_getElem (by rw [hp.len]; have := (hc.wlt c hcK).1; omega)⟩
    obtain ⟨ty, a, x, t', off, hop, ha, hne⟩ := hf.write hp hc hcK hcut hq
    have hagr := hc.agr hp (by have := hf.last; omega) (Nat.le_of_lt (hc.wlt c hcK).1) hq (hc.cl3 _ q B' (hc.wlt c hcK).1 hq (by rw [(hc.wlt c hcK).2]; decide))
    obtain ⟨_, hv⟩ := hc.vW c q B' hcK hq s.t hagr
    have hlt : ∀ j T ob, (j, T, ob) ∈ s.as → T < (d.st c).1.nxt := fun j T ob hj => by
      have h1 := (hc.asok.tag j T ob hj).1
      have h2 := (hc.asin j T ob hj).1
      have h3 := hn c (by omega)
      omega
    have hget : (memAt d s.as B' c).get tF = (d.st c).1.get tF := (addP_ovr (pickA B' (d.st c).2) (M := (d.st c).1) hc.asok hlt).get0 tF fun j ob hm => by
      have h1 := (hc.asok.tag j tF ob hm).1
      have h2 := hf.low
      omega
    have hcop : cop P q.op (memAt d s.as B' c) s.t = bin2 (fun m a x => cStore P m ty a x) a x (memAt d s.as B' c) s.t := by rw [hop]; rfl
    rw [hcop] at hv
    cases hx : evO s.t x with
    | none =>
      rw [show bin2 (fun m a x => cStore P m ty a x) a x (memAt d s.as B' c) s.t = .no "operand" from by unfold bin2; rw [ha, hx]] at hv
      cases hv
    | some u =>
      rw [bin2_at ha hx] at hv
      rcases cStore_mem (P := P) (m := memAt d s.as B' c) (ty := ty) (x := .ptr t' off) (v := u) with ⟨w, hw⟩ | ⟨tag, off2, m', h1, h2⟩
      · rw [hw] at hv; cases hv
      · cases h1
        rw [h2] at hv
        obtain ⟨_, ob, hm', _⟩ := cStore_loc (m2 := memAt d s.as B' c) h2 rfl
        simp only [outV, Option.some.injEq, Prod.mk.injEq] at hv
        rw [← hv.2, hm', Mem.get_put, if_neg (Ne.symm hne), hget]

/-- Behind the last store: what is still to come does as before. -/
theorem FinOk.fc (hf : FinOk P ops T0 d s k o M tF oF) (hp : PlanOk ops l) (hc : Cert P ih ops l t0 M0 T0 d k s) (hn : ∀ c, c ≤ d.K → M0.nxt ≤ (d.st c).1.nxt) (hM0 : M0.nxt = T0 + ops.size) :
    FC P ih ops l t0 T0 (d.over tF oF) s.as (fun i => (i < k ∧ d.kn i ≠ 3) ∧ bitC M i = false) (cutF d M d.K) := by
  have hks : k < ops.size := by have := hf.last; omega
  have h0 := hc.fc (Nat.le_of_lt hks)
  have hlt : ∀ c, c ≤ d.K → ∀ j T ob, (j, T, ob) ∈ s.as → T < (d.st c).1.nxt := fun c hcK j T ob hj => by
    have h1 := (hc.asok.tag j T ob hj).1
    have h2 := (hc.asin j T ob hj).1
    have h3 := hn c hcK
    omega
  refine ⟨fun i q u hg => h0.dsz i q u hg.1, fun i hg => h0.k012 i hg.1, fun i hg => h0.win i hg.1, h0.wlt, h0.chain, h0.st0, h0.cls, h0.asok, h0.asin, fun i q B' hg => h0.vA i q B' hg.1, fun i q B' hg hl hk t ha => ?_, fun j q B' hg hcut hj hl t ha => ?_⟩
  · rcases h0.vN i q B' hg.1 hl hk t ha with h1 | ⟨h1, h2⟩
    · exact .inl h1
    · refine .inr ⟨h1, fun c hc0 hcK h3 h4 => ?_⟩
      have hval := h2 c (Nat.zero_le _) hcK h3 h4
      obtain ⟨e1, e2, e3⟩ := memAt_over (d := d) (oF := oF) hc.asok hf.low (B' := B') (hlt c hcK)
      show cop P q.op (memAt (d.over tF oF) s.as B' c) t = .val (d.val i)
      rcases hc.nall i q B' hg.1.1 hl hk with h5 | h5 | h5
      · rw [h5 t ha] at h1; cases h1
      · rw [← hval]; exact copT_pure h5
      · rcases againF_spec hf.ns i q B' _ h5 with h6 | h6
        · rw [hg.2] at h6; cases h6
        · obtain ⟨ty, x, ix, v', hop, hx, hoff⟩ := offOp_spec h6
          have hagr := hc.agr hp hks (Nat.le_of_lt hg.1.1) hl (hc.cl3 i q B' hg.1.1 hl hg.1.2)
          have hxt : evO t x = some v' := by rw [← hx]; exact evO_congr fun u hu => ha.eq hagr u (.inl (by rw [hop]; simp [useOp, hu]))
          have key : ∀ mm, cop P q.op mm t = bin2 (fun m x i => cIndexAddr P m ty x i) x ix mm t := fun mm => by rw [hop]; rfl
          rw [key] at hval ⊢
          cases hix : evO t ix with
          | none =>
            rw [show bin2 (fun m x i => cIndexAddr P m ty x i) x ix (memAt d s.as B' c) t = .no "operand" from by unfold bin2; rw [hxt, hix]] at hval
            cases hval
          | some iv =>
            rw [bin2_at hxt hix] at hval ⊢
            rw [ia_loc hoff e3]; exact hval
  · have hj' : j < d.K := hj
    obtain ⟨h1, m', h2, h3, h4⟩ := h0.vW j q B' hg.1 (Nat.zero_le _) hj' hl t ha
    refine ⟨h1, ?_⟩
    obtain ⟨ty, a', x, t', off, hop, hae, hne⟩ := hf.write hp hc hj' hcut hl
    have hw := hc.wlt j hj'
    have hagr := hc.agr hp hks (Nat.le_of_lt hw.1) hl (hc.cl3 _ q B' hw.1 hl (by rw [hw.2]; decide))
    have hat : evO t a' = some (.ptr t' off) := by rw [← hae]; exact evO_congr fun u hu => ha.eq hagr u (.inl (by rw [hop]; simp [useOp, hu]))
    have key : ∀ mm, cop P q.op mm t = bin2 (fun m a x => cStore P m ty a x) a' x mm t := fun mm => by rw [hop]; rfl
    obtain ⟨e1, e2, e3⟩ := memAt_over (d := d) (oF := oF) hc.asok hf.low (B' := B') (hlt j (Nat.le_of_lt hj'))
    rw [key] at h2
    show ∃ m', outV ih (memAt (d.over tF oF) s.as B' j) (cop P q.op (memAt (d.over tF oF) s.as B' j) t) = some (d.val (d.wi j), m') ∧ m'.nxt = ((d.st (j + 1)).1.put tF oF).nxt ∧ ∀ T, m'.get T = ((d.st (j + 1)).1.put tF oF).get T
    rw [key]
    cases hx : evO t x with
    | none =>
      rw [show bin2 (fun m a x => cStore P m ty a x) a' x (memAt d s.as B' j) t = .no "operand" from by unfold bin2; rw [hat, hx]] at h2
      cases h2
    | some u =>
      rw [bin2_at hat hx] at h2 ⊢
      rcases cStore_mem (P := P) (m := memAt d s.as B' j) (ty := ty) (x := .ptr t' off) (v := u) with ⟨w, hw⟩ | ⟨tag, off2, m2, h5, h6⟩
      · rw [hw] at h2; cases h2
      · cases h5
        rw [h6] at h2
        simp only [outV, Option.some.injEq, Prod.mk.injEq] at h2
        obtain ⟨_, ob, hm2, h7⟩ := cStore_loc (m2 := memAt (d.over tF oF) s.as B' j) h6 (e3 t' hne)
        rw [h7]
        refine ⟨_, congrArg some (Prod.ext h2.1 rfl), ?_, fun T => ?_⟩
        · show (memAt (d.over tF oF) s.as B' j).nxt = (d.st (j + 1)).1.nxt
          rw [e1, ← h3, ← h2.2, hm2]; rfl
        · rw [Mem.get_put, Mem.get_put, ← h4, ← h2.2, hm2, Mem.get_put]
          by_cases hT : T = t'
          · rw [if_pos hT, if_pos hT, if_neg (by rw [hT]; exact hne)]
          · rw [if_neg hT, if_neg hT]
            by_cases hT2 : T = tF
            · rw [if_pos hT2, hT2, e2]
            · rw [if_neg hT2, e3 T hT2]

/-- The last store itself, wherever it comes. -/
theorem SimAt.fin (hf : FinOk P ops T0 d s k o M tF oF) (hp : PlanOk ops l) (hc : Cert P ih ops l t0 M0 T0 d k s) (h0 : ∀ j, j < k → d.kn j ≠ 3) (hlk : l[k]? = some (o, M)) (hn : ∀ c, c ≤ d.K → M0.nxt ≤ (d.st c).1.nxt) (hM0 : M0.nxt = T0 + ops.size)
    (h : SimAt ops t0 T0 d s.as B e0 ds listed a w e t m c) {rr : Option Nat} {n : Nat} {Q : Exit → Act → World → Prop} (hi : k ∈ Region.ready .any ops listed) {K : Act → World → Prop}
    (hK : ∀ a w, Sim ops t0 T0 (d.over tF oF) s.as B e0 ds (cutF d M d.K) (listed.setIfInBounds k true) a w → K a w) : wpOpIn (FW rr) n P ops Q k K a w := by
  obtain ⟨hni, hlt, o', ho, hed⟩ := ready_not hi h.size
  have hoo : o' = o := by have := hp.op k o M hlk; rw [ho] at this; cases this; rfl
  subst hoo
  have hsz : k < listed.size := by rw [h.size]; exact hlt
  have hanc : ∀ j, bitC M j = true → Lst listed j := (hp.mask k o' M hlk).anc _ h.clos (fun q hq e he hb => by rw [ho] at hq; cases hq; exact hed e he hb)
  have hagr := h.agr (s := s) hp hlk hni hanc
  have hagr2 := hc.agr hp hlt (Nat.le_refl k) hlk (fun j hj => h0 j ((hp.mask k o' M hlk).lt j hj))
  have hcut : cutF d M d.K ≤ c := by
    rcases cutF_src (d := d) (B := M) (K := d.K) with h1 | ⟨j, h1, h2, h3⟩
    · omega
    · have := (h.cw j h1).1 (hanc _ h2)
      omega
  obtain ⟨ty, ax, xx, off, u, hop, hax, hxx, hsto⟩ := hf.sto
  have hax' : evO t ax = some (.ptr tF off) := by rw [← hax]; exact evO_congr fun u hu => hagr.eq hagr2 u (.inl (by rw [hop]; simp [useOp, hu]))
  have hxx' : evO t xx = some u := by rw [← hxx]; exact evO_congr fun u hu => hagr.eq hagr2 u (.inl (by rw [hop]; simp [useOp, hu]))
  have hlow := hf.low
  have hget : m.get tF = s.cur.get tF := by
    rw [h.ovr.get0 tF fun j ob hm => by have := (hc.asok.tag j tF ob hm).1; omega]
    have := h.cK
    exact hf.keep hp hc hn hM0 (d.K - c) c (by omega) hcut
  obtain ⟨_, ob, hob, hst⟩ := cStore_loc (m2 := m) hsto hget
  have hobF : ob = oF := by
    have := congrArg (fun mm => mm.get tF) hob
    simp only [Mem.get_put, if_true, Option.some.injEq] at this
    exact this.symm
  subst hobF
  have hcop : cop P o'.op m t = .mem undefC (m.put tF ob) := by
    have : cop P o'.op m t = bin2 (fun m a x => cStore P m ty a x) ax xx m t := by rw [hop]; rfl
    rw [this, bin2_at hax' hxx']
    exact hst
  have hout := cop_ok (P := P) (o := o') (a := a) h.rel h.tok
  rw [hcop] at hout
  obtain ⟨e1, V, w1, le1, hV, hr1, hrun⟩ := hout
  unfold wpOpIn
  rw [ho]
  simp only
  rw [if_pos (guardC_ok h.tok (by rw [hf.grd]; rfl))]
  have hnd : ∀ c, o'.op ≠ .defer c := fun c' hc' => by rw [hop] at hc'; cases hc'
  have hL : ∀ j, Lst (listed.setIfInBounds k true) j ↔ Lst listed j ∨ j = k := fun j => lst_set hsz
  have fin : ∀ V, K (a.put o'.dst V) w1 := fun V => by
    rw [hf.dst]
    refine hK a w1 ⟨e1, t, m.put tF ob, c, hcut, by simp [h.size], h.le.trans le1, fun j q hj hlj e he hb => ?_, h.cK, fun k' hk' => ?_, h.dok.mono le1, h.tok.mono le1, h.tsz, fun j q u' hj hq hd => ?_, fun u' hu => ?_, hr1.reZ fun t' ht' => Zof_set hsz ht', ?_⟩
    · rw [hL]
      rcases (hL j).1 hlj with h1 | rfl
      · exact .inl (h.clos j q hj h1 e he hb)
      · rw [ho] at hj; cases hj
        exact .inl (hed e he hb)
    · rw [hL, ← h.cw k' hk']
      exact ⟨fun hq => hq.resolve_right fun hq2 => by have h9 : d.wi k' < k := (hc.wlt k' hk').1; have h8 : d.wi k' = k := hq2; omega, .inl⟩
    · rcases (hL j).1 hj with h1 | rfl
      · exact h.t1 j q u' h1 hq hd
      · rw [ho] at hq; cases hq
        rw [hf.dst] at hd; cases hd
    · exact h.t2 u' fun j q hj hq => hu j q ((hL j).2 (.inl hj)) hq
    · refine ⟨h.ovr.nxt, fun j T ob2 hm hj => ?_, fun T hT => ?_⟩
      · have h1 := (hc.asok.tag j T ob2 hm).1
        have h2 := (hc.asin j T ob2 hm).1
        rw [Mem.get_put, if_neg (by omega)]
        refine h.ovr.get1 j T ob2 hm ⟨((hL j).1 hj.1).resolve_right (by omega), hj.2⟩
      · show (m.put tF ob).get T = ((d.st c).1.put tF ob).get T
        rw [Mem.get_put, Mem.get_put]
        by_cases hq : T = tF
        · rw [if_pos hq, if_pos hq]
        · rw [if_neg hq, if_neg hq]
          exact h.ovr.get0 T fun j ob2 hm hj => hT j ob2 hm ⟨(hL j).2 (.inl hj.1), hj.2⟩
  rcases hrun with hrun | ⟨hrun, rfl⟩
  · exact upon_of_run hnd hrun (fin V)
  · exact upon_of_run hnd hrun (fin undef)
end fin
end sim
end Go.Cx
