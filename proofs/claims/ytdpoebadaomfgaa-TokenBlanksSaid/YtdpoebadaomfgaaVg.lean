/-
  A verification-condition generator for Go's IR. Part g: calls.
-/
import Derived.Test.YtdpoebadaomfgaaVf
set_option linter.unusedSimpArgs false
set_option linter.unusedVariables false
namespace Go.Pw
open Go Go.RowKit
variable {G : Base} {e : Env} {t : List SV} {o : List (Option SObj)} {h : Hp} {a : Act} {w : World} {P : Program} {c : Cfg} {gs : List Nat} {K : SK}

mutual
theorem den_tags {e e' : Env} : ∀ x, (∀ t ∈ tags x, e.blk t = e'.blk t ∧ e.loc t = e'.loc t) → den e x = den e' x
  | .junk, _ => rfl
  | .val _, _ => rfl
  | .bool _, _ => rfl
  | .bexp _, _ => rfl
  | .int _ _, _ => rfl
  | .str _, _ => rfl
  | .agg cs, h => by simp only [den]; rw [denL_tags cs (by simpa [tags] using h)]
  | .tuple vs, h => by simp only [den]; rw [denL_tags vs (by simpa [tags] using h)]
  | .ptr t off, h => by simp only [den]; rw [(h t (by simp [tags])).1]
  | .loc t, h => by simp only [den]; rw [(h t (by simp [tags])).2]
  | .optr t off, h => by simp only [den]; rw [(h t (by simp [tags])).1]
  | .func _ a b, h => by
    simp only [den]
    rw [denL_tags a (fun t ht => h t (by simp [tags, ht])), denL_tags b (fun t ht => h t (by simp [tags, ht]))]
  | .slc _ _ _, _ => rfl
  | .dptr _, _ => rfl
theorem denL_tags {e e' : Env} : ∀ l, (∀ t ∈ tagsL l, e.blk t = e'.blk t ∧ e.loc t = e'.loc t) → denL e l = denL e' l
  | [], _ => rfl
  | x :: xs, h => by
    simp only [denL]
    rw [den_tags x (fun t ht => h t (by simp [tagsL, ht])), denL_tags xs (fun t ht => h t (by simp [tagsL, ht]))]
end

mutual
theorem bel_ren {n m : Nat} {r : Nat → Nat} : ∀ x, bel n x = true → (∀ t ∈ tags x, r t < m) → bel m (ren r x) = true
  | .junk, hb, _ => by simp [bel] at hb
  | .val _, _, _ => rfl
  | .bool _, _, _ => rfl
  | .bexp _, _, _ => rfl
  | .int _ _, _, _ => rfl
  | .str _, _, _ => rfl
  | .agg cs, hb, h => by simp only [bel, ren] at *; exact belL_ren cs hb (by simpa [tags] using h)
  | .tuple vs, hb, h => by simp only [bel, ren] at *; exact belL_ren vs hb (by simpa [tags] using h)
  | .ptr t off, _, h => by simpa [bel, ren] using h t (by simp [tags])
  | .loc t, _, h => by simpa [bel, ren] using h t (by simp [tags])
  | .optr t off, _, h => by simpa [bel, ren] using h t (by simp [tags])
  | .func _ a b, hb, h => by
    simp only [bel, ren, Bool.and_eq_true] at *
    exact ⟨belL_ren a hb.1 (fun t ht => h t (by simp [tags, ht])), belL_ren b hb.2 (fun t ht => h t (by simp [tags, ht]))⟩
  | .slc _ _ _, _, _ => rfl
  | .dptr _, _, _ => rfl
theorem belL_ren {n m : Nat} {r : Nat → Nat} : ∀ l, belL n l = true → (∀ t ∈ tagsL l, r t < m) → belL m (renL r l) = true
  | [], _, _ => rfl
  | x :: xs, hb, h => by
    simp only [belL, renL, Bool.and_eq_true] at *
    exact ⟨bel_ren x hb.1 (fun t ht => h t (by simp [tagsL, ht])), belL_ren xs hb.2 (fun t ht => h t (by simp [tagsL, ht]))⟩
end

mutual
theorem tags_lt {n : Nat} : ∀ x, bel n x = true → ∀ t ∈ tags x, t < n
  | .agg cs, hb, t, ht => tagsL_lt cs (by simpa [bel] using hb) t (by simpa [tags] using ht)
  | .tuple vs, hb, t, ht => tagsL_lt vs (by simpa [bel] using hb) t (by simpa [tags] using ht)
  | .ptr t off, hb, u, hu => by simp [tags] at hu; subst hu; simpa [bel] using hb
  | .loc t, hb, u, hu => by simp [tags] at hu; subst hu; simpa [bel] using hb
  | .optr t off, hb, u, hu => by simp [tags] at hu; subst hu; simpa [bel] using hb
  | .func _ a b, hb, t, ht => by
    simp only [bel, Bool.and_eq_true] at hb
    simp only [tags, List.mem_append] at ht
    rcases ht with ht | ht
    · exact tagsL_lt a hb.1 t ht
    · exact tagsL_lt b hb.2 t ht
  | .junk, _, _, ht => by simp [tags] at ht
  | .val _, _, _, ht => by simp [tags] at ht
  | .bool _, _, _, ht => by simp [tags] at ht
  | .bexp _, _, _, ht => by simp [tags] at ht
  | .int _ _, _, _, ht => by simp [tags] at ht
  | .str _, _, _, ht => by simp [tags] at ht
  | .slc _ _ _, _, _, ht => by simp [tags] at ht
  | .dptr _, _, _, ht => by simp [tags] at ht
theorem tagsL_lt {n : Nat} : ∀ l, belL n l = true → ∀ t ∈ tagsL l, t < n
  | [], _, _, ht => by simp [tagsL] at ht
  | x :: xs, hb, t, ht => by
    simp only [belL, Bool.and_eq_true] at hb
    simp only [tagsL, List.mem_append] at ht
    rcases ht with ht | ht
    · exact tags_lt x hb.1 t ht
    · exact tagsL_lt xs hb.2 t ht
end

def otags : SObj → List Nat
  | .cells _ cs => tagsL cs
  | _ => []

theorem handed_spec {o : List (Option SObj)} {ts : List Nat} : ∀ {r : List Nat} {objs : List SObj}, handed o ts r = some objs →
    objs.length = r.length ∧ ∀ (i : Nat) (u : Nat), r[i]? = some u → ∃ x, o[u]? = some (some x) ∧ objs[i]? = some (renO ts.idxOf x) ∧ (∀ t ∈ otags x, t ∈ ts) ∧ ∀ s xs, x ≠ .ghost s xs
  | [], objs, h => by
    simp only [handed, Option.some.injEq] at h; subst h
    exact ⟨rfl, fun i u hu => by simp at hu⟩
  | x :: r, objs, h => by
    unfold handed at h
    split at h
    · rename_i ty cs hg
      split at h
      · rename_i hall
        split at h
        · rename_i l hl
          simp only [Option.some.injEq] at h; subst h
          obtain ⟨h1, h2⟩ := handed_spec hl
          refine ⟨by simp [h1], fun i u hu => ?_⟩
          cases i with
          | zero =>
            simp at hu; subst hu
            exact ⟨_, hg, rfl, fun t ht => by simpa using List.all_eq_true.1 hall t ht, by intros; simp⟩
          | succ i => simpa using h2 i u (by simpa using hu)
        · simp at h
      · simp at h
    · rename_i ty sz n xs hg
      split at h
      · rename_i l hl
        simp only [Option.some.injEq] at h; subst h
        obtain ⟨h1, h2⟩ := handed_spec hl
        refine ⟨by simp [h1], fun i u hu => ?_⟩
        cases i with
        | zero =>
          simp at hu; subst hu
          exact ⟨_, hg, rfl, fun t ht => by simp [otags] at ht, by intros; simp⟩
        | succ i => simpa using h2 i u (by simpa using hu)
      · simp at h
    · simp at h

theorem nodupB_spec : ∀ {ts : List Nat}, nodupB ts = true → ts.Nodup
  | [], _ => List.nodup_nil
  | x :: r, h => by
    simp only [nodupB, Bool.and_eq_true, Bool.not_eq_true'] at h
    refine List.nodup_cons.2 ⟨by simpa using h.1, nodupB_spec h.2⟩

theorem bk_lt {ts : List Nat} {n i : Nat} (hi : i < ts.length) : bk ts n i = ts[i] := by
  unfold bk
  have : Nat.blt i ts.length = true := by simp [Nat.blt_eq, hi]
  rw [this]; simp [List.getD, hi]
theorem bk_ge {ts : List Nat} {n i : Nat} (hi : ts.length ≤ i) : bk ts n i = n + (i - ts.length) := by
  unfold bk
  have : Nat.blt i ts.length = false := by
    rw [Bool.eq_false_iff]; simp [Nat.blt_eq]; omega
  rw [this]
theorem bk_idx {ts : List Nat} {n t : Nat} (ht : t ∈ ts) : bk ts n (ts.idxOf t) = t := by
  rw [bk_lt (List.idxOf_lt_length_iff.2 ht)]; simp

theorem idx_get : ∀ {ts : List Nat}, ts.Nodup → ∀ {i : Nat} (hi : i < ts.length), ts.idxOf ts[i] = i
  | x :: r, hn, 0, _ => by simp
  | x :: r, hn, i + 1, hi => by
    have h1 := List.nodup_cons.1 hn
    have hi' : i < r.length := by simpa using hi
    have hne : x ≠ r[i] := fun h => h1.1 (h ▸ List.getElem_mem hi')
    simp only [List.getElem_cons_succ]
    rw [List.idxOf_cons, beq_false_of_ne hne]
    simp [idx_get h1.2 hi']

theorem updO_get (ts : List Nat) (n : Nat) (o' : List (Option SObj)) : ∀ (l : List (Option SObj)) (i j : Nat),
    (updO ts n o' i l)[j]? = if j < l.length then (if ts.contains (i + j) then some (((o'[ts.idxOf (i + j)]?).getD none).map (renO (bk ts n))) else l[j]?) else (o'[ts.length + (j - l.length)]?).map (·.map (renO (bk ts n)))
  | [], i, j => by simp [updO, List.getElem?_drop]
  | x :: r, i, j => by
    cases j with
    | zero =>
      simp only [updO, List.getElem?_cons_zero, List.length_cons, Nat.zero_lt_succ, if_true, Nat.add_zero]
      cases ts.contains i <;> simp
    | succ j =>
      simp only [updO, List.getElem?_cons_succ, List.length_cons]
      rw [updO_get ts n o' r (i + 1) j]
      have e1 : i + 1 + j = i + (j + 1) := by omega
      rw [e1]
      by_cases hj : j < r.length
      · have hj' : j + 1 < r.length + 1 := by omega
        simp only [hj, hj', if_true]
      · have hj' : ¬ j + 1 < r.length + 1 := by omega
        simp only [hj, hj', if_false]
        have e2 : j + 1 - (r.length + 1) = j - r.length := by omega
        rw [e2]

theorem updO_length (ts : List Nat) (n : Nat) (o' : List (Option SObj)) : ∀ (l : List (Option SObj)) (i : Nat), (updO ts n o' i l).length = l.length + (o'.length - ts.length)
  | [], i => by simp [updO]
  | x :: r, i => by simp [updO, updO_length ts n o' r (i + 1)]; omega

theorem denO_ren {e : Env} {r : Nat → Nat} {w : World} {n m i : Nat} {x : SObj} (hx : objOk (e.comp r) w n i x) (hm : ∀ t, t < n → r t < m) : objOk e w m (r i) (renO r x) := by
  cases x with
  | cells ty cs =>
    obtain ⟨h1, h2⟩ := hx
    refine ⟨?_, belL_ren cs h2 (fun t ht => hm t (tagsL_lt cs h2 t ht))⟩
    rw [denL_ren]; exact h1
  | olist => exact hx
  | ghost => trivial

theorem live_ren {e : Env} {r : Nat → Nat} {i : Nat} {x : SObj} : live e (r i) (renO r x) ↔ live (e.comp r) i x := by
  cases x <;> exact Iff.rfl

theorem objOk_nrm {n i : Nat} {x : SObj} (h : objOk e w n i x) : objOk e w n i (nrmB x) := by
  cases x with
  | cells ty cs => exact ⟨by rw [denL_nrm]; exact h.1, by rw [belL_nrm]; exact h.2⟩
  | olist => exact h
  | ghost => trivial
theorem live_nrm {i : Nat} {x : SObj} : live e i (nrmB x) ↔ live e i x := by cases x <;> exact Iff.rfl

/-- An object that is handed over, as the callee sees it. -/
theorem objOk_hand {ts : List Nat} {n i : Nat} {x : SObj} (hi : i < ts.length) (h : objOk e w n ts[i] x) (ht : ∀ t ∈ otags x, t ∈ ts) : objOk (e.comp (bk ts n)) w ts.length i (renO ts.idxOf x) := by
  have hb : (e.comp (bk ts n)).blk i = e.blk ts[i] := by simp [Env.comp, bk_lt hi]
  have hl : (e.comp (bk ts n)).loc i = e.loc ts[i] := by simp [Env.comp, bk_lt hi]
  cases x with
  | cells ty cs =>
    obtain ⟨k1, k2⟩ := h
    refine ⟨?_, belL_ren cs k2 (fun t h => List.idxOf_lt_length_iff.2 (ht t h))⟩
    rw [hb, denL_ren, k1]
    rw [denL_tags (e := (e.comp (bk ts n)).comp ts.idxOf) (e' := e) cs (fun t h => by simp [Env.comp, bk_idx (ht t h)])]
  | olist => simp only [objOk, renO, hb, hl]; exact h
  | ghost => trivial
theorem live_hand {ts : List Nat} {n i : Nat} {x : SObj} (hi : i < ts.length) : live (e.comp (bk ts n)) i (renO ts.idxOf x) ↔ live e ts[i] x := by
  cases x with
  | cells => exact Iff.rfl
  | olist => simp [live, renO, Env.comp, bk_lt hi]
  | ghost => exact Iff.rfl

theorem handed_get {ts : List Nat} {objs : List SObj} (hh : handed o ts ts = some objs) (n : Nat) {i : Nat} {x : SObj} (hx : (objs.map nrmB)[i]? = some x) :
    ∃ (hi : i < ts.length) (y : SObj), o[ts[i]]? = some (some y) ∧ x = nrmB (renO ts.idxOf y) ∧ (∀ t ∈ otags y, t ∈ ts) ∧ (live (e.comp (bk ts n)) i x ↔ live e ts[i] y) ∧ ∀ s xs, x ≠ .ghost s xs := by
  obtain ⟨hlen, hs⟩ := handed_spec hh
  rw [List.getElem?_map] at hx
  cases hq : objs[i]? with
  | none => simp [hq] at hx
  | some z =>
    simp [hq] at hx; subst hx
    have hi : i < ts.length := by have := idx_lt hq; omega
    obtain ⟨y, h1, h2, h3, h4⟩ := hs i ts[i] (by simp [hi])
    rw [hq] at h2
    obtain rfl : z = renO ts.idxOf y := by simpa using h2
    refine ⟨hi, y, h1, rfl, h3, live_nrm.trans (live_hand hi), fun s xs hc => ?_⟩
    cases y with
    | ghost a b => exact h4 a b rfl
    | _ => simp [renO, nrmB] at hc

/-- The callee's world, out of the caller's. -/
theorem entry_ok (hr : Rel G e t o h a w) {ts : List Nat} {objs : List SObj} (hn : ts.Nodup) (hh : handed o ts ts = some objs) :
    WOk (Base.entry (e.comp (bk ts o.length)) w (objs.map nrmB) h) [] (e.comp (bk ts o.length)) ((objs.map nrmB).map some) h w := by
  obtain ⟨hlen, _⟩ := handed_spec hh
  have hw := hr.wok
  have hlen2 : ((objs.map nrmB).map some).length = ts.length := by simp [hlen]
  have get : ∀ (i : Nat) (x : SObj), ((objs.map nrmB).map some)[i]? = some (some x) → (objs.map nrmB)[i]? = some x := fun i x hx => by
    rw [List.getElem?_map] at hx
    cases hq : (objs.map nrmB)[i]? with
    | none => simp [hq] at hx
    | some y => rw [hq] at hx; simpa using hx
  have hb : ∀ i (hi : i < ts.length), (e.comp (bk ts o.length)).blk i = e.blk ts[i] := fun i hi => by simp [Env.comp, bk_lt hi]
  refine { hh := hw.hh, ob := fun i x hx => ?_, sep := fun i j x y hx hy hlx hly hij => ?_, hn := fun i x hx hl => ?_, frm := Frm.refl _ _, own := fun i x hx hl => ?_, hle := HLe.refl _, hnew := fun b x hx => .inl hx, agr := fun i _ => ⟨rfl, rfl⟩, pr := ?_ }
  · obtain ⟨hi, y, h1, rfl, h3, _⟩ := handed_get (e := e) hh o.length (get i x hx)
    rw [hlen2]
    exact objOk_nrm (objOk_hand hi (hw.ob _ _ h1) h3)
  · obtain ⟨hi, x', h1, _, _, h4, _⟩ := handed_get (e := e) hh o.length (get i x hx)
    obtain ⟨hj, y', h1', _, _, h4', _⟩ := handed_get (e := e) hh o.length (get j y hy)
    rw [hb i hi, hb j hj]
    exact hw.sep _ _ _ _ h1 h1' (h4.1 hlx) (h4'.1 hly) (fun hq => hij (by have e1 := idx_get hn hi; have e2 := idx_get hn hj; rw [← e1, ← e2, hq]))
  · obtain ⟨hi, x', h1, _, _, h4, _⟩ := handed_get (e := e) hh o.length (get i x hx)
    rw [hb i hi]; exact hw.hn _ _ h1 (h4.1 hl)
  · exact .inl ⟨i, x, get i x hx, hl, rfl⟩
  · have no : ∀ (i : Nat) s xs, ((objs.map nrmB).map some)[i]? ≠ some (some (.ghost s xs)) := fun i s xs hx => by
      obtain ⟨_, _, _, _, _, _, hg⟩ := handed_get (e := e) hh o.length (get i _ hx)
      exact absurd rfl (hg s xs)
    exact ⟨fun _ => False, fun i s xs hx => absurd hx (no i s xs), fun i _ s _ xs _ hx => absurd hx (no i s xs), fun _ _ _ _ h => h, fun _ h => h.elim, fun b x hx => .inl hx, fun _ h => h.elim, fun _ => rfl, List.nodup_nil, fun d hd => by cases hd⟩

/-- The caller's state, out of what the callee has left. -/
theorem exit_ok (hr : Rel G e t o h a w) {ts : List Nat} {objs : List SObj} (hn : ts.Nodup) (hh : handed o ts ts = some objs) {e' : Env} {o' : List (Option SObj)} {h' : Hp} {w' : World} (hlo : objs.length ≤ o'.length)
    (hw' : WOk (Base.entry (e.comp (bk ts o.length)) w (objs.map nrmB) h) [] e' o' h' w') :
    ∃ e3, (∀ x, den e3 (ren (bk ts o.length) x) = den e' x) ∧ Rel G e3 t (updO ts o.length o' 0 o) h' a w' ∧ HLe h h' := by
  obtain ⟨hlen, hs⟩ := handed_spec hh
  have hw := hr.wok
  have hlenB : (objs.map nrmB).length = ts.length := by simp [hlen]
  have hts : ∀ t ∈ ts, t < o.length := fun t ht => by
    obtain ⟨i, hi, rfl⟩ := List.getElem_of_mem ht
    obtain ⟨x, h1, _⟩ := hs i ts[i] (by simp [hi])
    exact idx_lt h1
  let e3 : Env := ⟨fun t => if t ∈ ts then e'.blk (ts.idxOf t) else if t < o.length then e.blk t else e'.blk (ts.length + (t - o.length)),
    fun t => if t ∈ ts then e'.loc (ts.idxOf t) else if t < o.length then e.loc t else e'.loc (ts.length + (t - o.length))⟩
  have hcomp : e3.comp (bk ts o.length) = e' := by
    have hp : ∀ i, (e3.comp (bk ts o.length)).blk i = e'.blk i ∧ (e3.comp (bk ts o.length)).loc i = e'.loc i := fun i => by
      by_cases hi : i < ts.length
      · simp only [Env.comp, bk_lt hi, e3, List.getElem_mem hi, if_true, idx_get hn hi, and_self]
      · have h1 : o.length + (i - ts.length) ∉ ts := fun hm => by have := hts _ hm; omega
        have h2 : ¬ o.length + (i - ts.length) < o.length := by omega
        have h3 : ts.length + (o.length + (i - ts.length) - o.length) = i := by omega
        simp only [Env.comp, bk_ge (Nat.le_of_not_lt hi), e3, h1, if_false, h2, h3, and_self]
    cases e'
    simp only [Env.comp] at hp ⊢
    congr 1
    · funext i; exact (hp i).1
    · funext i; exact (hp i).2
  have hM : ∀ k, (Base.entry (e.comp (bk ts o.length)) w (objs.map nrmB) h).M k → ∃ (i : Nat) (hi : i < ts.length) (y : SObj), e.blk ts[i] = k ∧ o[ts[i]]? = some (some y) ∧ live e ts[i] y := fun k hk => by
    obtain ⟨i, x, hx, hl, hk⟩ := hk
    obtain ⟨hi, y, h1, _, _, h4, _⟩ := handed_get (e := e) hh o.length hx
    exact ⟨i, hi, y, by simpa [Env.comp, bk_lt hi] using hk, h1, h4.1 hl⟩
  have hkeep : ∀ i (hi : i < ts.length), e'.blk i = e.blk ts[i] ∧ e'.loc i = e.loc ts[i] := fun i hi => by
    have := hw'.agr i (by show i < (objs.map nrmB).length; omega)
    simpa [Base.entry, Env.comp, bk_lt hi] using this
  have hagr : Agr o.length e e3 := fun u hu => by
    by_cases hm : u ∈ ts
    · obtain ⟨i, hi, rfl⟩ := List.getElem_of_mem hm
      simp only [e3, hm, if_true, idx_get hn hi]
      exact ⟨(hkeep i hi).1.symm, (hkeep i hi).2.symm⟩
    · simp only [e3, hm, if_false, hu, if_true, and_self]
  have hlenU : (updO ts o.length o' 0 o).length = o.length + (o'.length - ts.length) := updO_length _ _ _ _ _
  -- an object of the new state: an old one that was not handed over, or one that the callee has left
  have cases_ : ∀ (u : Nat) (x : SObj), (updO ts o.length o' 0 o)[u]? = some (some x) → (u < o.length ∧ u ∉ ts ∧ o[u]? = some (some x)) ∨ (∃ (i : Nat) (y : SObj), o'[i]? = some (some y) ∧ u = bk ts o.length i ∧ x = renO (bk ts o.length) y) := fun u x hx => by
    rw [updO_get] at hx
    by_cases hu : u < o.length
    · rw [if_pos hu] at hx
      by_cases hm : u ∈ ts
      · right
        have hc : ts.contains (0 + u) = true := by simpa using hm
        rw [if_pos hc, Nat.zero_add] at hx
        simp only [Option.some.injEq] at hx
        cases hq : o'[ts.idxOf u]? with
        | none => simp [hq] at hx
        | some y =>
          cases y with
          | none => simp [hq] at hx
          | some y => exact ⟨_, y, hq, (bk_idx hm).symm, by simpa [hq] using hx.symm⟩
      · left
        have hc : ¬ ts.contains (0 + u) = true := by simpa using hm
        rw [if_neg hc] at hx
        exact ⟨hu, hm, hx⟩
    · right
      rw [if_neg hu] at hx
      cases hq : o'[ts.length + (u - o.length)]? with
      | none => simp [hq] at hx
      | some y =>
        cases y with
        | none => simp [hq] at hx
        | some y =>
          refine ⟨_, y, hq, ?_, by simpa [hq] using hx.symm⟩
          rw [bk_ge (by omega)]; omega
  have hbkO : ∀ (i : Nat), i < o'.length → bk ts o.length i < (updO ts o.length o' 0 o).length := fun i hi => by
    rw [hlenU]
    by_cases h1 : i < ts.length
    · rw [bk_lt h1]; have := hts _ (List.getElem_mem h1); omega
    · rw [bk_ge (by omega)]; omega
  -- an old object that was not handed over: its block lies as it lay, and none of the callee's is it
  have hfar : ∀ (u : Nat) (x : SObj), u ∉ ts → o[u]? = some (some x) → live e u x → ¬ (Base.entry (e.comp (bk ts o.length)) w (objs.map nrmB) h).M (e.blk u) ∧ e.blk u < w.heap.size := fun u x hm hx hl => by
    refine ⟨fun hk => ?_, live_lt hw hx hl⟩
    obtain ⟨i, hi, y, hb, h1, hly⟩ := hM _ hk
    exact hw.sep u ts[i] _ _ hx h1 hl hly (fun hq => hm (hq ▸ List.getElem_mem hi)) hb.symm
  have hblk : ∀ i, e3.blk (bk ts o.length i) = e'.blk i := fun i => by rw [← hcomp]; rfl
  -- the callee turns live blocks alone
  have hbl : ∀ k, k < w.heap.size → (∀ (i : Nat) x, o[i]? = some (some x) → live e i x → e.blk i ≠ k) → w'.heap[k]? = w.heap[k]? := fun k hk hq => hw'.frm.block k hk (fun hm => by
    obtain ⟨i, hi, y, hb, h1, hly⟩ := hM _ hm
    exact hq _ _ h1 hly hb)
  have hnewB : ∀ (u : Nat) (x : SObj), (updO ts o.length o' 0 o)[u]? = some (some x) → live e3 u x → (∃ (j : Nat) (y : SObj), o[j]? = some (some y) ∧ live e j y ∧ e3.blk u = e.blk j) ∨ w.heap.size ≤ e3.blk u := fun u x hx hl => by
    rcases cases_ u x hx with ⟨hu, hm, hx'⟩ | ⟨i, x', hx', rfl, rfl⟩
    · exact .inl ⟨u, x, hx', (live_agr hagr hu).2 hl, ((hagr u hu).1).symm⟩
    · rw [hblk]
      rcases hw'.own i x' hx' (by rw [← hcomp]; exact live_ren.1 hl) with ho | ho
      · obtain ⟨j, hj, y, hb, h1, hly⟩ := hM _ ho
        exact .inl ⟨_, y, h1, hly, hb.symm⟩
      · exact .inr ho
  refine ⟨e3, fun x => by rw [den_ren, hcomp], ⟨?_, ?_, by rw [hlenU]; have := hr.kl; omega⟩, hw'.hle⟩
  · exact hr.tok.agr hagr (by rw [hlenU]; omega)
  · refine { hh := hw'.hh, ob := fun u x hx => ?_, sep := fun u v x y hx hy hlx hly huv => ?_, hn := fun u x hx hl => ?_, frm := ?_, own := fun u x hx hl => ?_, hle := hw.hle.trans hw'.hle, hnew := fun b x hx => ?_, agr := fun i hi => ?_, pr := ?_ }
    · rcases cases_ u x hx with ⟨hu, hm, hx'⟩ | ⟨i, y, hy, rfl, rfl⟩
      · refine objOk_agr hagr (by rw [hlenU]; omega) hu (hw.ob u x hx') (fun hl => ?_)
        obtain ⟨h1, h2⟩ := hfar u x hm hx' hl
        exact hw'.frm.block _ h2 h1
      · have := hw'.ob i y hy
        rw [← hcomp] at this
        exact denO_ren this hbkO
    · rcases cases_ u x hx with ⟨hu, hm, hx'⟩ | ⟨i, x', hx', rfl, rfl⟩ <;> rcases cases_ v y hy with ⟨hv, hm', hy'⟩ | ⟨j, y', hy', rfl, rfl⟩
      · rw [← (hagr u hu).1, ← (hagr v hv).1]
        exact hw.sep u v x y hx' hy' ((live_agr hagr hu).2 hlx) ((live_agr hagr hv).2 hly) huv
      · have hl := (live_agr hagr hu).2 hlx
        obtain ⟨h1, h2⟩ := hfar u x hm hx' hl
        rw [← (hagr u hu).1, hblk]
        have hly' : live e' j y' := by rw [← hcomp]; exact live_ren.1 hly
        rcases hw'.own j y' hy' hly' with ho | ho
        · exact fun hq => h1 (hq ▸ ho)
        · have : w.heap.size ≤ e'.blk j := ho
          omega
      · have hl := (live_agr hagr hv).2 hly
        obtain ⟨h1, h2⟩ := hfar v y hm' hy' hl
        rw [← (hagr v hv).1, hblk]
        have hlx' : live e' i x' := by rw [← hcomp]; exact live_ren.1 hlx
        rcases hw'.own i x' hx' hlx' with ho | ho
        · exact fun hq => h1 (hq.symm ▸ ho)
        · have : w.heap.size ≤ e'.blk i := ho
          omega
      · rw [hblk, hblk]
        exact hw'.sep i j x' y' hx' hy' (by rw [← hcomp]; exact live_ren.1 hlx) (by rw [← hcomp]; exact live_ren.1 hly) (fun hq => huv (by rw [hq]))
    · rcases cases_ u x hx with ⟨hu, hm, hx'⟩ | ⟨i, x', hx', rfl, rfl⟩
      · have hl' := (live_agr hagr hu).2 hl
        obtain ⟨h1, h2⟩ := hfar u x hm hx' hl'
        rw [← (hagr u hu).1]
        cases hq : h' (e.blk u) with
        | none => rfl
        | some z =>
          rcases hw'.hnew _ _ hq with h3 | h3 | h3
          · have := hw.hn u x hx' hl'; rw [show h (e.blk u) = some z from h3] at this; cases this
          · exact absurd h3 h1
          · have : w.heap.size ≤ e.blk u := h3
            omega
      · rw [hblk]; exact hw'.hn i x' hx' (by rw [← hcomp]; exact live_ren.1 hl)
    · refine ⟨hw'.frm.os.trans hw.frm.os, hw'.frm.tape.trans hw.frm.tape, hw'.frm.output.trans hw.frm.output, Nat.le_trans hw.frm.size hw'.frm.size, fun k hk hm => ?_⟩
      refine (hbl k (Nat.lt_of_lt_of_le hk hw.frm.size) (fun i x hi hx he => ?_)).trans (hw.frm.block k hk hm)
      rcases hw.own _ _ hi hx with ho | ho
      · exact hm (he ▸ ho)
      · omega
    · rcases hnewB u x hx hl with ⟨j, y, hj, hy, he⟩ | he
      · rw [he]; exact hw.own j y hj hy
      · exact .inr (Nat.le_trans hw.frm.size he)
    · rcases hw'.hnew b x hx with h3 | h3 | h3
      · exact hw.hnew b x h3
      · obtain ⟨j, hj, y, hb, h1, hly⟩ := hM _ h3
        rw [← hb]
        exact .inr (hw.own _ _ h1 hly)
      · exact .inr (.inr (Nat.le_trans hw.frm.size h3))
    · have := hagr i (by have := hr.kl; omega)
      rw [← this.1, ← this.2]; exact hw.agr i hi
    · refine hw.pr.step hw'.frm.size hw'.frm.os hw'.frm.tape hw'.frm.output hbl hnewB (fun u s xs hx => ?_) (fun b x hx => ?_)
      · rcases cases_ u _ hx with ⟨hu, hm, hx'⟩ | ⟨i, y, hy, rfl, hq⟩
        · exact hx'
        · obtain ⟨B, p1⟩ := hw'.pr
          cases y with
          | ghost s' xs' => exact (p1.inv i s' xs' hy w' (SameB.refl _ _)).elim
          | _ => simp [renO] at hq
      · rcases hw'.hnew b x hx with h3 | h3 | h3
        · exact .inl h3
        · obtain ⟨j, hj, y, hb, h1, hly⟩ := hM _ h3
          exact .inr (.inl ⟨_, y, h1, hly, hb⟩)
        · exact .inr (.inr h3)

end Go.Pw
