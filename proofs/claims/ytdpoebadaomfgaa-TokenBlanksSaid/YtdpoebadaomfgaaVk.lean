/-
  A verification-condition generator for Go's IR. Part k: the generator is sound.
-/
import Derived.Test.YtdpoebadaomfgaaVj
import Derived.Deep.LoopGhost
set_option linter.unusedSimpArgs false
set_option linter.unusedVariables false
namespace Go.Pw
open Go Go.RowKit
variable {G : Base} {e : Env} {t : List SV} {o : List (Option SObj)} {h : Hp} {a : Act} {w : World} {P : Program} {c : Cfg} {gs : List Nat}

theorem wpIn_loop_ghost {F : Fence} {n : Nat} {Q : Exit → Act → World → Prop} {b : Code} (I : Nat → Act → World → Prop) (round : ∀ k a w, I k a w → b.wpIn F n P (Exit.then (fun a' w' => ∃ k', k' < k ∧ I k' a' w') Q) a w)
    (k : Nat) (a : Act) (w : World) (h : I k a w) : (Code.loop b).wpIn F n P Q a w := by
  refine wpIn_loop (fun a w => ∃ k, I k a w) (fun a w => leastOf fun k => I k a w) ⟨k, h⟩ fun a w hI => ?_
  have hs := leastOf_spec hI
  refine wpIn_mono (round _ a w hs.1) fun x a' w' hq => ?_
  cases x with
  | normal =>
    obtain ⟨k', hlt, hk⟩ := hq
    have hs' := leastOf_spec (p := fun k => I k a' w') ⟨k', hk⟩
    exact ⟨⟨k', hk⟩, Nat.lt_of_le_of_lt (hs'.2 k' hk) hlt⟩
  | _ => exact hq

theorem refill_get : ∀ (ss : List Nat) (u vs : List SV) (i : Nat) (x : SV), (refill u ss vs)[i]? = some x → (∃ q : Nat, ss[q]? = some i ∧ vs[q]? = some x) ∨ u[i]? = some x
  | [], u, vs, i, x, h => .inr (by simpa [refill] using h)
  | s :: ss, u, [], i, x, h => .inr (by simpa [refill] using h)
  | s :: ss, u, v :: vs, i, x, h => by
    simp only [refill] at h
    rcases refill_get ss _ vs i x h with ⟨q, h1, h2⟩ | h2
    · exact .inl ⟨q + 1, by simpa using h1, by simpa using h2⟩
    · rw [List.getElem?_set] at h2
      by_cases hs : s = i
      · subst hs
        rw [if_pos rfl] at h2
        split at h2
        · exact .inl ⟨0, rfl, by simpa using h2⟩
        · cases h2
      · rw [if_neg hs] at h2; exact .inr h2

/-- The listed temporaries are as the list says. -/
def SlotsOk (e : Env) (n : Nat) (ss : List Nat) (vs : List SV) (tmps : Array Value) : Prop :=
  ∀ (q s : Nat) (v : SV), ss[q]? = some s → vs[q]? = some v → s < tmps.size → v = .junk ∨ (tmps[s]? = some (den e v) ∧ bel n v = true)

theorem SlotsOk.nrm {n : Nat} {ss : List Nat} {vs : List SV} {tmps : Array Value} (h : SlotsOk e n ss vs tmps) : SlotsOk e n ss (nrmL vs) tmps := fun q s v hq hv hs => by
  have : nrmL vs = vs.map Pw.nrm := by
    clear h hv
    induction vs with
    | nil => rfl
    | cons x xs ih => simp [nrmL, ih]
  rw [this, List.getElem?_map] at hv
  cases hw : vs[q]? with
  | none => simp [hw] at hv
  | some y =>
    simp [hw] at hv; subst hv
    rcases h q s y hq hw hs with rfl | ⟨h1, h2⟩
    · exact .inl rfl
    · exact .inr ⟨by rw [den_nrm]; exact h1, by rw [bel_nrm]; exact h2⟩

theorem SlotsOk.of_tok {m : Nat} {t' : List SV} {tmps : Array Value} (hT : TOk e m t' tmps) (ss : List Nat) : SlotsOk e m ss (pickS t' ss) tmps := fun q s v hq hv hs => by
  rw [pickS, List.getElem?_map, hq] at hv
  simp only [Option.map_some, Option.some.injEq] at hv
  subst hv
  have hlt : s < t'.length := by rw [← hT.1]; exact hs
  have hx : t'[s]? = some (t'.getD s .junk) := by simp [List.getD, hlt]
  exact hT.2 s _ hx

theorem SlotsOk.le {n m : Nat} {ss : List Nat} {vs : List SV} {tmps : Array Value} (h : SlotsOk e m ss vs tmps) (hb : belL n vs = true) : SlotsOk e n ss vs tmps := fun q s v hq hv hs =>
  or_map (h q s v hq hv hs) fun h1 => ⟨h1.1, belL_get hb hv⟩

/-- At a place where ways meet: the temporaries that the code has not written, and the listed ones. -/
theorem tok_meet {n : Nat} {ms ss : List Nat} {vs : List SV} {tmps : Array Value} (hsz : tmps.size = t.length) (hun : ∀ (i : Nat) (x : SV), i ∉ ms → t[i]? = some x → x = .junk ∨ (tmps[i]? = some (den e x) ∧ bel n x = true))
    (hs : SlotsOk e n ss vs tmps) : TOk e n (refill (havoc t ms) ss vs) tmps := by
  refine ⟨by rw [refill_length, hsz]; exact (foldl_set_length ms t).symm, fun i x hx => ?_⟩
  rcases refill_get ss _ vs i x hx with ⟨q, h1, h2⟩ | h2
  · have hi : i < tmps.size := by
      have := idx_lt hx
      rw [refill_length] at this
      have h3 := foldl_set_length ms t
      unfold havoc at this; omega
    exact hs q i x h1 h2 hi
  · rcases foldl_set_get ms t i x h2 with ⟨_, h4⟩ | ⟨h3, h4⟩
    · exact .inl h4
    · exact hun i x h3 h4

/-- An object's cells, said anew. -/
theorem WOk.recell {ds : List Deferred} (hw : WOk G ds e o h w) {tag : Nat} {ty : TypeId} {cs cs' : List SV} (ho : o[tag]? = some (some (.cells ty cs))) (hd : denL e cs' = denL e cs) (hb : belL o.length cs' = true) : WOk G ds e (o.set tag (some (.cells ty cs'))) h w := by
  have hlt := idx_lt ho
  have old : ∀ (i : Nat) x, (o.set tag (some (.cells ty cs')))[i]? = some (some x) → live e i x → ∃ y, o[i]? = some (some y) ∧ live e i y := fun i x hi hx => by
    rcases set_get hlt hi with ⟨rfl, rfl⟩ | ⟨_, hi'⟩
    · exact ⟨_, ho, trivial⟩
    · exact ⟨_, hi', hx⟩
  refine hw.step (Nat.le_refl _) rfl rfl rfl (fun _ _ _ => rfl) (fun _ _ => ⟨rfl, rfl⟩) (fun i x hi => ?_) (fun i x hi hx => ?_) (fun i j x y hi hj hx hy hij => ?_) (fun i s xs hi => ?_)
  · rw [List.length_set]
    rcases set_get hlt hi with ⟨rfl, rfl⟩ | ⟨_, hi'⟩
    · exact ⟨by rw [hd]; exact (hw.ob _ _ ho).1, hb⟩
    · exact hw.ob i x hi'
  · obtain ⟨y, hy, hl⟩ := old i x hi hx
    exact .inl ⟨i, y, hy, hl, rfl⟩
  · obtain ⟨x', hx', hlx⟩ := old i x hi hx
    obtain ⟨y', hy', hly⟩ := old j y hj hy
    exact hw.sep i j x' y' hx' hy' hlx hly hij
  · rcases set_get hlt hi with ⟨rfl, hq⟩ | ⟨_, hi'⟩
    · cases hq
    · exact hi'

theorem getCells_none_of {p : Nat} {off : Nat} {v : SV} (h : (match getCells o p with | some (_, cs) => cs.getD off .junk | none => .junk) = v) (hv : v ≠ .junk) : ∃ ty cs, o[p]? = some (some (.cells ty cs)) ∧ cs.getD off .junk = v ∧ off < cs.length := by
  split at h
  · rename_i ty cs hg
    refine ⟨ty, cs, getCells_some hg, h, ?_⟩
    rcases Nat.lt_or_ge off cs.length with h1 | h1
    · exact h1
    · exact absurd (by rw [← h]; simp [List.getD, h1]) hv
  · exact absurd h.symm hv

theorem getD_get {cs : List SV} {off : Nat} {v : SV} (h : cs.getD off .junk = v) (hlt : off < cs.length) : cs[off]? = some v := by
  rw [← h]; simp [List.getD, hlt]

theorem denL_set_same {cs : List SV} {off : Nat} {v u : SV} (h : cs[off]? = some v) (hd : den e u = den e v) : denL e (cs.set off u) = denL e cs := by
  rw [denL_eq, denL_eq, List.map_set, hd]
  apply List.ext_getElem?
  intro i
  rw [List.getElem?_set]
  split
  · rename_i hi
    subst hi
    rw [List.getElem?_map, h]
    have := idx_lt h
    simp [this]
  · rfl

/-- One list gets a tag of its own. -/
theorem retag_one (hr : Rel G e t o h a w) {p : Plc} {o1 : List (Option SObj)} {ty : TypeId} {sz n : Nat} {xs : List Value} {bl : Nat} {lc : Option Addr × Nat × Nat} {v : SV} (hv : getP t o p = v) (hvj : v ≠ .junk)
    (hlen : o1.length = o.length) (ho1 : ∀ (i : Nat) x, o1[i]? = some (some x) → o[i]? = some (some x)) (hcell : ∀ (i : Nat) ty cs, o[i]? = some (some (.cells ty cs)) → o1[i]? = some (some (.cells ty cs)))
    (hbl : w.heap.size ≤ bl ∨ ∃ (j : Nat) (z : SObj), o[j]? = some (some z) ∧ o1[j]? = some none ∧ live e j z ∧ bl = e.blk j) (hat : LAt w bl lc ty sz n xs) (hden : den e v = .slice lc.1 lc.2.1 lc.2.2)
    {k : List SV → List (Option SObj) → Prop} (hk : setP t (o1 ++ [some (.olist ty sz n xs)]) (.loc o.length) k p) : ∃ e' t' o', k t' o' ∧ Rel G e' t' o' h a w ∧ Agr o.length e e' ∧ o'.length = o.length + 1 := by
  obtain ⟨hT, hw, hkl⟩ := hr
  obtain ⟨e', ha, e1, e2, hw'⟩ := hw.snoc (o1 := o1) (y := .olist ty sz n xs) (bl := bl) (lc := lc) (w' := w) hkl hlen ho1 (Nat.le_refl _) rfl rfl rfl (fun _ _ _ => rfl) hbl (by intros; simp) (fun e' _ e1 e2 => by rw [objOk_olist, e1, e2]; exact hat)
  have hl2 : (o1 ++ [some (SObj.olist ty sz n xs)]).length = o.length + 1 := by simp [hlen]
  have hT' : TOk e' (o1 ++ [some (SObj.olist ty sz n xs)]).length t a.tmps := hT.agr ha (by omega)
  have hnew : den e' (.loc o.length) = den e v := by simp [den, e2, hden]
  cases p with
  | slot s =>
    simp only [setP, setK_eq] at hk
    refine ⟨e', _, _, hk, ⟨?_, hw', by rw [hl2]; omega⟩, ha, hl2⟩
    simp only [getP] at hv
    by_cases hlt : s < t.length
    · have h1 := hT.2 s v (by rw [← hv]; simp [List.getD, hlt])
      obtain ⟨h2, _⟩ := h1.resolve_left hvj
      have h3 := hT'.set (x := .loc o.length) (v := den e v) (.inr ⟨hnew.symm, by simp [bel, hl2]⟩) s
      have h4 : a.tmps.setIfInBounds s (den e v) = a.tmps := by
        ext i hi1 hi2
        · simp
        · rw [Array.getElem_setIfInBounds]
          split
          · rename_i heq; subst heq
            rw [Array.getElem?_eq_getElem hi2] at h2
            exact (Option.some.inj h2).symm
          · rfl
      rwa [h4] at h3
    · exact absurd (by rw [← hv]; simp [List.getD, Nat.le_of_not_lt hlt]) hvj
  | cell tag off =>
    simp only [getP] at hv
    obtain ⟨ty', cs, hc, hcv, hoff⟩ := getCells_none_of hv hvj
    have hc' : (o1 ++ [some (.olist ty sz n xs)])[tag]? = some (some (.cells ty' cs)) := by
      rw [List.getElem?_append_left (by rw [hlen]; exact idx_lt hc)]; exact hcell _ _ _ hc
    have hg : getCells (o1 ++ [some (.olist ty sz n xs)]) tag = some (ty', cs) := by unfold getCells; rw [hc']
    simp only [setP, hg, setK_eq] at hk
    have hb := (hw.ob _ _ hc).2
    have hcg := getD_get hcv hoff
    have hdv : den e' v = den e v := (den_agr ha v (belL_get hb hcg)).symm
    refine ⟨e', _, _, hk, ⟨by simpa using hT', hw'.recell hc' (denL_set_same hcg (hnew.trans hdv.symm)) ?_, by simp [hlen]; omega⟩, ha, by simp [hlen]⟩
    rw [hl2]
    rw [belL_eq, List.all_eq_true]
    intro x hx
    rcases List.mem_or_eq_of_mem_set hx with h1 | rfl
    · have h2 : belL (o.length + 1) cs = true := belL_mono (by omega) cs hb
      rw [belL_eq, List.all_eq_true] at h2
      exact h2 x h1
    · simp [bel]

theorem retag_ok {k : List SV → List (Option SObj) → Prop} : ∀ (l : List (Plc × TypeId × Nat)) {e : Env} {t : List SV} {o : List (Option SObj)}, Rel G e t o h a w → retagK l t o k →
    ∃ e' t' o', k t' o' ∧ Rel G e' t' o' h a w ∧ Agr o.length e e' ∧ o.length ≤ o'.length
  | [], e, t, o, hr, hk => ⟨e, t, o, hk, hr, Agr.refl _ _, Nat.le_refl _⟩
  | (p, ty, sz) :: r, e, t, o, hr, hk => by
    have go : ∀ {e1 : Env} {t1 : List SV} {o1 : List (Option SObj)}, retagK r t1 o1 k → Rel G e1 t1 o1 h a w → Agr o.length e e1 → o1.length = o.length + 1 → ∃ e' t' o', k t' o' ∧ Rel G e' t' o' h a w ∧ Agr o.length e e' ∧ o.length ≤ o'.length := fun hk hr1 ha hl => by
      obtain ⟨e', t', o', h1, h2, h3, h4⟩ := retag_ok r hr1 hk
      exact ⟨e', t', o', h1, h2, ha.trans (fun i hi => h3 i (by omega)), by omega⟩
    unfold retagK at hk
    split at hk
    · rename_i tag hp
      split at hk
      · rename_i ty' sz' n xs hg
        have ho := getList_some hg
        have hlt := idx_lt ho
        simp only [setK_eq, snocK_eq] at hk
        have hat : LAt w (e.blk tag) (e.loc tag) ty' sz' n xs := hr.wok.ob _ _ ho
        have kept : ∀ (i : Nat) x, (o.set tag none)[i]? = some (some x) → o[i]? = some (some x) := fun i x hi => kill_get (t := some tag) hi
        have hcell : ∀ (i : Nat) ty cs, o[i]? = some (some (.cells ty cs)) → (o.set tag none)[i]? = some (some (.cells ty cs)) := fun i ty cs hi => by
          rw [List.getElem?_set]
          split
          · rename_i heq; subst heq; rw [ho] at hi; cases hi
          · exact hi
        by_cases hlv : live e tag (.olist ty' sz' n xs)
        · obtain ⟨e1, t1, o1, h1, h2, h3, h4⟩ := retag_one (lc := e.loc tag) hr hp (by simp) (by simp) kept hcell (.inr ⟨tag, _, ho, by simp [hlt], hlv, rfl⟩) hat rfl hk
          exact go h1 h2 h3 h4
        · have hat' : LAt w w.heap.size (e.loc tag) ty' sz' n xs := by
            refine ⟨hat.1, or_map hat.2 fun hq => ?_⟩
            exact absurd (show live e tag (.olist ty' sz' n xs) by simp [live, hq.1]) hlv
          obtain ⟨e1, t1, o1, h1, h2, h3, h4⟩ := retag_one (lc := e.loc tag) hr hp (by simp) (by simp) kept hcell (.inl (Nat.le_refl _)) hat' rfl hk
          exact go h1 h2 h3 h4
      · exact hk.elim
    · rename_i hp
      simp only [snocK_eq] at hk
      obtain ⟨e1, t1, o1, h1, h2, h3, h4⟩ := retag_one (lc := (none, 0, 0)) (bl := w.heap.size) hr hp (by simp) rfl (fun _ _ h => h) (fun _ _ _ h => h) (.inl (Nat.le_refl _)) (ty := ty) (sz := sz) (n := 0) (xs := []) ⟨⟨rfl, by simp, by simp⟩, .inl ⟨rfl, rfl, rfl⟩⟩ rfl hk
      exact go h1 h2 h3 h4
    · exact hk.elim

theorem noTagO_spec {b : Nat} : ∀ {o : List (Option SObj)}, noTagO b o = true → ∀ (i : Nat) ty cs, o[i]? = some (some (.cells ty cs)) → b ∉ tagsL cs
  | [], _, i, ty, cs, hi => by simp at hi
  | x :: r, hn, i, ty, cs, hi => by
    cases i with
    | zero =>
      simp at hi; subst hi
      simp only [noTagO, Bool.and_eq_true, Bool.not_eq_true'] at hn
      simpa using hn.1
    | succ i =>
      have h' : noTagO b r = true := by
        cases x with
        | none => simpa [noTagO] using hn
        | some x => cases x with
          | cells => simp only [noTagO, Bool.and_eq_true] at hn; exact hn.2
          | olist => simpa [noTagO] using hn
          | ghost => simpa [noTagO] using hn
      exact noTagO_spec h' i ty cs (by simpa using hi)

theorem tagsL_mem {x : SV} {b : Nat} : ∀ {l : List SV}, x ∈ l → b ∈ tags x → b ∈ tagsL l
  | y :: l, hx, hb => by
    simp only [tagsL, List.mem_append]
    rcases List.mem_cons.1 hx with rfl | hx
    · exact .inl hb
    · exact .inr (tagsL_mem hx hb)

theorem pickS_get {t : List SV} {ss : List Nat} {q : Nat} {v : SV} (h : (pickS t ss)[q]? = some v) : ∃ s, ss[q]? = some s ∧ v = t.getD s .junk := by
  rw [pickS, List.getElem?_map] at h
  cases hq : ss[q]? with
  | none => simp [hq] at h
  | some s => exact ⟨s, rfl, by simpa [hq] using h.symm⟩

/-- A list is given its old tag again. -/
theorem meet_one {ds : List Deferred} {ss : List Nat} {tmps : Array Value} (hw : WOk G ds e o h w) {m q b : Nat} (hm : G.nk ≤ m) (hmb : m ≤ q) (hS : SlotsOk e o.length ss (pickS t ss) tmps) (hsz : tmps.size = t.length) {p : Plc} (hp : getP t o p = .loc b)
    (ha : o[q]? = some none) {ty : TypeId} {sz n : Nat} {xs : List Value} (hb : o[b]? = some (some (.olist ty sz n xs))) (ht : q ∉ tagsL (pickS t ss)) (hno : noTagO q o = true)
    {k : List SV → List (Option SObj) → Prop} (hk : setP t ((o.set q (some (.olist ty sz n xs))).set b none) (.loc q) k p) :
    ∃ e' t' o', k t' o' ∧ WOk G ds e' o' h w ∧ SlotsOk e' o'.length ss (pickS t' ss) tmps ∧ t'.length = t.length ∧ o'.length = o.length ∧ ∀ i, i < m → e'.blk i = e.blk i ∧ e'.loc i = e.loc i := by
  have hq := idx_lt ha
  have hbl := idx_lt hb
  have hqb : q ≠ b := by rintro rfl; rw [ha] at hb; cases hb
  let e' : Env := ⟨fun i => if i = q then e.blk b else e.blk i, fun i => if i = q then e.loc b else e.loc i⟩
  have off : ∀ i, i ≠ q → e'.blk i = e.blk i ∧ e'.loc i = e.loc i := fun i hi => by simp [e', hi]
  have atq : e'.blk q = e.blk b ∧ e'.loc q = e.loc b := by simp [e']
  have dsame : ∀ x, q ∉ tags x → den e' x = den e x := fun x hx => den_tags x (fun i hi => off i (by rintro rfl; exact hx hi))
  have dlsame : ∀ l, q ∉ tagsL l → denL e' l = denL e l := fun l hx => denL_tags l (fun i hi => off i (by rintro rfl; exact hx hi))
  have hdq : den e' (.loc q) = den e (.loc b) := by simp [den, atq]
  have hdb : den e' (.loc b) = den e (.loc b) := dsame _ (by simp [tags, hqb])
  -- the objects
  have get : ∀ (i : Nat) x, ((o.set q (some (.olist ty sz n xs))).set b none)[i]? = some (some x) → (i = q ∧ x = .olist ty sz n xs) ∨ (i ≠ q ∧ i ≠ b ∧ o[i]? = some (some x)) := fun i x hi => by
    rw [List.getElem?_set] at hi
    by_cases hib : b = i
    · subst hib; simp [hbl] at hi
    · rw [if_neg hib] at hi
      rcases set_get hq hi with ⟨rfl, rfl⟩ | ⟨h1, h2⟩
      · exact .inl ⟨rfl, rfl⟩
      · exact .inr ⟨h1, Ne.symm hib, h2⟩
  have old : ∀ (i : Nat) x, ((o.set q (some (.olist ty sz n xs))).set b none)[i]? = some (some x) → live e' i x → ∃ (j : Nat) (y : SObj), o[j]? = some (some y) ∧ live e j y ∧ e'.blk i = e.blk j ∧ (i = q → j = b) ∧ (i ≠ q → j = i) := fun i x hi hx => by
    rcases get i x hi with ⟨rfl, rfl⟩ | ⟨h1, h2, h3⟩
    · exact ⟨b, _, hb, by simpa [live, atq] using hx, atq.1, fun _ => rfl, fun h => absurd rfl h⟩
    · refine ⟨i, x, h3, ?_, (off i h1).1, fun h => absurd h h1, fun _ => rfl⟩
      cases x with
      | cells => trivial
      | olist => simpa [live, (off i h1).2] using hx
      | ghost => exact hx.elim
  have hw1 : WOk G ds e' ((o.set q (some (.olist ty sz n xs))).set b none) h w := by
    refine hw.step (Nat.le_refl _) rfl rfl rfl (fun _ _ _ => rfl) (fun i hi => off i (by omega)) (fun i x hi => ?_) (fun i x hi hx => ?_) (fun i j x y hi hj hx hy hij => ?_) (fun i s ys hi => ?_)
    · simp only [List.length_set]
      rcases get i x hi with ⟨rfl, rfl⟩ | ⟨h1, h2, h3⟩
      · rw [objOk_olist, atq.1, atq.2]; exact hw.ob _ _ hb
      · have := hw.ob _ _ h3
        cases x with
        | cells ty' cs => exact ⟨by rw [(off i h1).1, dlsame cs (noTagO_spec hno _ _ _ h3)]; exact this.1, this.2⟩
        | olist => simp only [objOk, (off i h1).1, (off i h1).2]; exact this
        | ghost => trivial
    · obtain ⟨j, y, h1, h2, h3, _⟩ := old i x hi hx
      exact .inl ⟨j, y, h1, h2, h3⟩
    · obtain ⟨i', x', h1, h2, h3, h4, h5⟩ := old i x hi hx
      obtain ⟨j', y', k1, k2, k3, k4, k5⟩ := old j y hj hy
      rw [h3, k3]
      refine hw.sep i' j' x' y' h1 k1 h2 k2 (fun he => ?_)
      by_cases hiq : i = q
      · by_cases hjq : j = q
        · exact hij (hiq.trans hjq.symm)
        · have : j = b := (k5 hjq).symm.trans (he.symm.trans (h4 hiq))
          rcases get j y hj with ⟨hh, _⟩ | ⟨_, hh, _⟩
          · exact hjq hh
          · exact hh this
      · by_cases hjq : j = q
        · have : i = b := (h5 hiq).symm.trans (he.trans (k4 hjq))
          rcases get i x hi with ⟨hh, _⟩ | ⟨_, hh, _⟩
          · exact hiq hh
          · exact hh this
        · exact hij ((h5 hiq).symm.trans (he.trans (k5 hjq)))
    · rcases get i _ hi with ⟨rfl, hc⟩ | ⟨_, _, h3⟩
      · cases hc
      · exact h3
  have hlen1 : ((o.set q (some (.olist ty sz n xs))).set b none).length = o.length := by simp
  have hS1 : SlotsOk e' o.length ss (pickS t ss) tmps := fun k s v hks hv hs => by
    rcases hS k s v hks hv hs with rfl | ⟨h1, h2⟩
    · exact .inl rfl
    · exact .inr ⟨by rw [dsame v (fun hc => ht (tagsL_mem (List.mem_of_getElem? hv) hc))]; exact h1, h2⟩
  cases p with
  | slot s =>
    simp only [setP, setK_eq] at hk
    refine ⟨e', _, _, hk, hw1, ?_, by simp, hlen1, fun i hi => off i (by omega)⟩
    rw [hlen1]
    intro k s' v hks hv hs
    obtain ⟨s2, h1, rfl⟩ := pickS_get hv
    obtain rfl : s' = s2 := by rw [h1] at hks; exact (Option.some.inj hks).symm
    by_cases hss : s = s'
    · subst hss
      have hlt : s < t.length := by omega
      have h2 := hS k s (.loc b) hks (by rw [pickS, List.getElem?_map, h1]; exact congrArg some hp) hs
      obtain ⟨h3, _⟩ := h2.resolve_left (by simp)
      have h4 : (t.set s (.loc q)).getD s .junk = .loc q := by simp [List.getD, hlt]
      rw [h4]
      exact .inr ⟨by rw [hdq]; exact h3, by simp [bel, hq]⟩
    · have h4 : (t.set s (.loc q)).getD s' .junk = t.getD s' .junk := by
        simp only [List.getD]
        rw [List.getElem?_set, if_neg hss]
      rw [h4]
      exact hS1 k s' _ hks (by rw [pickS, List.getElem?_map, h1]; rfl) hs
  | cell tag cf =>
    simp only [getP] at hp
    obtain ⟨ty', cs, hc, hcv, hoff⟩ := getCells_none_of hp (by simp)
    have h1 : tag ≠ q := by rintro rfl; rw [ha] at hc; cases hc
    have h2 : tag ≠ b := by rintro rfl; rw [hb] at hc; cases hc
    have hc' : ((o.set q (some (.olist ty sz n xs))).set b none)[tag]? = some (some (.cells ty' cs)) := by
      rw [List.getElem?_set, if_neg (Ne.symm h2), List.getElem?_set, if_neg (Ne.symm h1)]; exact hc
    have hg : getCells ((o.set q (some (.olist ty sz n xs))).set b none) tag = some (ty', cs) := by unfold getCells; rw [hc']
    simp only [setP, hg, setK_eq] at hk
    have hcg := getD_get hcv hoff
    refine ⟨e', _, _, hk, hw1.recell hc' (denL_set_same hcg (hdq.trans hdb.symm)) ?_, by simpa using hS1, rfl, by simp, fun i hi => off i (by omega)⟩
    rw [hlen1, belL_eq, List.all_eq_true]
    intro x hx
    rcases List.mem_or_eq_of_mem_set hx with h3 | rfl
    · have h4 := (hw.ob _ _ hc).2
      rw [belL_eq, List.all_eq_true] at h4
      exact h4 x h3
    · simp [bel, hq]

theorem meet_ok {ds : List Deferred} {ss : List Nat} {tmps : Array Value} {m n : Nat} {t0 : List SV} {o0 : List (Option SObj)} (hm : G.nk ≤ m) {k : List SV → List (Option SObj) → Prop} : ∀ (l : List (Plc × TypeId × Nat)) {e : Env} {t : List SV} {o : List (Option SObj)},
    WOk G ds e o h w → SlotsOk e o.length ss (pickS t ss) tmps → tmps.size = t.length → meetK ss m n t0 o0 l t o k →
    ∃ e' t' o', k t' o' ∧ WOk G ds e' o' h w ∧ SlotsOk e' o'.length ss (pickS t' ss) tmps ∧ t'.length = t.length ∧ o'.length = o.length ∧ (∀ i, i < m → e'.blk i = e.blk i ∧ e'.loc i = e.loc i) ∧ (l = [] → e' = e)
  | [], e, t, o, hw, hS, hsz, hk => ⟨e, t, o, hk, hw, hS, rfl, rfl, fun _ _ => ⟨rfl, rfl⟩, fun _ => rfl⟩
  | (p, ty, sz) :: r, e, t, o, hw, hS, hsz, hk => by
    unfold meetK at hk
    split at hk
    · rename_i q b _ hp
      split at hk
      · obtain ⟨e', t', o', h1, h2, h3, h3', h4, h5, _⟩ := meet_ok hm r hw hS hsz hk
        exact ⟨e', t', o', h1, h2, h3, h3', h4, h5, fun h => by cases h⟩
      · split at hk
        · rename_i ty' sz' n' xs ha hg
          split at hk
          · rename_i hc
            simp only [Bool.and_eq_true, Bool.not_eq_true'] at hc
            simp only [setK_eq] at hk
            obtain ⟨e1, t1, o1, h1, h2, h3, h3', h4, h5⟩ := meet_one hw hm (Nat.le_of_ble_eq_true hc.1.1) hS hsz hp ha (getList_some hg) (by simpa using hc.2.1) hc.2.2 hk
            obtain ⟨e', t', o', k1, k2, k3, k3', k4, k5, _⟩ := meet_ok hm r h2 h3 (hsz.trans h3'.symm) h1
            exact ⟨e', t', o', k1, k2, k3, k3'.trans h3', k4.trans h4, fun i hi => ⟨(k5 i hi).1.trans (h5 i hi).1, (k5 i hi).2.trans (h5 i hi).2⟩, fun h => by cases h⟩
          · exact hk.elim
        · exact hk.elim
    · exact hk.elim

theorem WOk.nrm {ds : List Deferred} (hw : WOk G ds e o h w) : WOk G ds e (o.map nrmO) h w := by
  have get : ∀ (i : Nat) x, (o.map nrmO)[i]? = some (some x) → ∃ y, o[i]? = some (some y) ∧ x = nrmB y := fun i x hi => by
    rw [List.getElem?_map] at hi
    cases hq : o[i]? with
    | none => simp [hq] at hi
    | some y =>
      cases y with
      | none => simp [hq, nrmO] at hi
      | some y => exact ⟨y, rfl, by cases y <;> simp [hq, nrmO] at hi <;> simp [nrmB, hi]⟩
  refine hw.step (Nat.le_refl _) rfl rfl rfl (fun _ _ _ => rfl) (fun _ _ => ⟨rfl, rfl⟩) (fun i x hi => ?_) (fun i x hi hx => ?_) (fun i j x y hi hj hx hy hij => ?_) (fun i s xs hi => ?_)
  · obtain ⟨y, h1, rfl⟩ := get i x hi
    rw [List.length_map]; exact objOk_nrm (hw.ob _ _ h1)
  · obtain ⟨y, h1, rfl⟩ := get i x hi
    exact .inl ⟨i, y, h1, live_nrm.1 hx, rfl⟩
  · obtain ⟨x', h1, rfl⟩ := get i x hi
    obtain ⟨y', h2, rfl⟩ := get j y hj
    exact hw.sep i j x' y' h1 h2 (live_nrm.1 hx) (live_nrm.1 hy) hij
  · obtain ⟨y, h1, h2⟩ := get i _ hi
    cases y <;> simp [nrmB] at h2
    rw [h1, h2.1, h2.2]

theorem WOk.take {ds : List Deferred} (hw : WOk G ds e o h w) {m : Nat} (hm : m ≤ o.length) (hb : belObjs m (o.take m) = true) : WOk G ds e (o.take m) h w := by
  have hlen : (o.take m).length = m := by simp; omega
  have get : ∀ (i : Nat) (x : SObj), (o.take m)[i]? = some (some x) → o[i]? = some (some x) := fun i x hi => by
    rw [List.getElem?_take] at hi
    split at hi
    · exact hi
    · cases hi
  refine hw.step (Nat.le_refl _) rfl rfl rfl (fun _ _ _ => rfl) (fun _ _ => ⟨rfl, rfl⟩) (fun i x hi => ?_) (fun i x hi hx => .inl ⟨i, x, get i x hi, hx, rfl⟩)
    (fun i j x y hi hj hx hy hij => hw.sep i j x y (get i x hi) (get j y hj) hx hy hij) (fun i s xs hi => get i _ hi)
  have h1 := hw.ob i x (get i x hi)
  rw [hlen]
  cases x with
  | cells ty cs => exact ⟨h1.1, belObjs_spec hb i ty cs hi⟩
  | olist => exact h1
  | ghost => trivial

/-- At a loop's head again. 'n': how many objects are carried on; 'm': how many there were ahead of the lists' own tags. -/
theorem Rel.meet {m n : Nat} {l : List (Plc × TypeId × Nat)} {ms ss : List Nat} {t0 : List SV} {o0 : List (Option SObj)} {e1 : Env} {t' : List SV} {o' : List (Option SObj)} {h' : Hp} {a' : Act} {w' : World}
    (hm : G.nk ≤ m) (hmn : m ≤ n) (hr' : Rel G e1 t' o' h' a' w') (hs : Same ms t t') (hun : ∀ (i : Nat) (x : SV), i ∉ ms → t[i]? = some x → x = .junk ∨ (bel n x = true ∧ (l = [] ∨ ∀ q ∈ tags x, q < m)))
    {k : List SV → List (Option SObj) → Prop} (hk : meetK ss m n t0 o0 l t' o' fun t' o' => match okS n t' ss (o'.take n) with | true => nrmKs (pickS t' ss) fun vs' => nrmOs (o'.take n) fun o' => k vs' o' | false => False) :
    ∃ e2 vs o2, k vs o2 ∧ Rel G e2 (refill (havoc t ms) ss vs) o2 h' a' w' ∧ o2.length = n := by
  obtain ⟨e2, t2, o2, h1, h2, h3, h3', h4, h5, h6⟩ := meet_ok hm l hr'.wok (SlotsOk.of_tok hr'.tok ss) hr'.tok.1 hk
  split at h1
  · rename_i hok
    simp only [nrmKs_eq, nrmOs_eq] at h1
    simp only [okS, Bool.and_eq_true] at hok
    have hlen := Nat.eq_of_beq_eq_true hok.2.2
    have hlo : n ≤ o2.length := by simp at hlen; omega
    have hlen2 : ((o2.take n).map nrmO).length = n := by simpa using hlen
    refine ⟨e2, _, _, h1, ⟨?_, (h2.take hlo hok.2.1).nrm, by rw [hlen2]; omega⟩, hlen2⟩
    rw [hlen2]
    refine tok_meet (hr'.tok.1.trans hs.1) (fun i x hi hx => ?_) (h3.le hok.1).nrm
    rcases hun i x hi hx with rfl | ⟨hb, hq⟩
    · exact .inl rfl
    · have hx' : t'[i]? = some x := by rw [hs.2 i hi]; exact hx
      rcases hr'.tok.2 i x hx' with rfl | ⟨h7, _⟩
      · exact .inl rfl
      · refine .inr ⟨?_, hb⟩
        rcases hq with rfl | hq
        · rw [h6 rfl]; exact h7
        · rw [den_tags x (fun q hq' => h5 q (hq q hq'))]; exact h7
  · exact h1.elim
end Go.Pw
