/-
  A verification-condition generator for Go's IR. Part l: owned lists.
-/
import Derived.Test.YtdpoebadaomfgaaVg
import Derived.ArgAppend
set_option linter.unusedSimpArgs false
set_option linter.unusedVariables false
namespace Go.Pw
open Go Go.RowKit
variable {G : Base} {e : Env} {t : List SV} {o : List (Option SObj)} {h : Hp} {a : Act} {w : World} {P : Program} {c : Cfg} {gs : List Nat} {K : SK}

theorem putN_length : ∀ (vs ys : List Value) (off : Nat), (putN ys off vs).length = ys.length
  | [], _, _ => rfl
  | v :: vs, ys, off => by simp [putN, putN_length vs]
theorem putN_mem : ∀ (vs ys : List Value) (off : Nat) (u : Value), u ∈ putN ys off vs → u ∈ ys ∨ u ∈ vs
  | [], _, _, _, h => .inl h
  | v :: vs, ys, off, u, h => by
    rcases putN_mem vs _ _ u h with h | h
    · rcases List.mem_or_eq_of_mem_set h with h | h
      · exact .inl h
      · exact .inr (by simp [h])
    · exact .inr (List.mem_cons_of_mem _ h)
theorem putN_fold (c : List Value) : ∀ (vs ys : List Value) (off k : Nat), off + k + vs.length ≤ ys.length → (vs.zipIdx k).foldl (fun acc p => acc.set (off + p.2) p.1) (ys ++ c) = putN ys (off + k) vs ++ c
  | [], _, _, _, _ => rfl
  | v :: vs, ys, off, k, hl => by
    simp only [List.length_cons] at hl
    simp only [List.zipIdx_cons, List.foldl_cons, putN]
    rw [List.set_append_left _ _ (by omega), putN_fold c vs _ off (k + 1) (by simp; omega)]
    rfl

/-- A list lies in a row. -/
def LAt (w : World) (bl : Nat) (lc : Option Addr × Nat × Nat) (ty : TypeId) (sz k : Nat) (xs : List Value) : Prop :=
  (lc.2.1 = k ∧ xs.length = k * sz ∧ ∀ u ∈ xs, u.oneCell' = true) ∧
      ((lc.1 = none ∧ k = 0 ∧ lc.2.2 = 0) ∨
       (lc.1 = some ⟨bl, 0, none⟩ ∧ k ≤ lc.2.2 ∧ lc.2.2 ≤ maxLen ∧ ∃ c : List Value, w.heap[bl]? = some (.cells (xs ++ c).toArray ty (0, 0)) ∧ (xs ++ c).length = lc.2.2 * sz))

/-- What is appended. -/
def SlcRd (w : World) (v : Value) (m sz : Nat) (ys : List Value) : Prop :=
  ys.length = m * sz ∧ (∀ u ∈ ys, u.oneCell' = true) ∧ ((v = .slice none 0 0 ∧ m = 0) ∨ ∃ (ad : Addr) (c : Nat), v = .slice (some ad) m c ∧ ∀ j u, ys[j]? = some u → w.cell? (ad.add j) = some u)

theorem LAt.rd {bl : Nat} {lc : Option Addr × Nat × Nat} {ty : TypeId} {sz k : Nat} {xs : List Value} (h : LAt w bl lc ty sz k xs) : SlcRd w (.slice lc.1 lc.2.1 lc.2.2) k sz xs := by
  obtain ⟨⟨h1, h2, h3⟩, ⟨h4, h5, h6⟩ | ⟨h4, _, _, c, h5, _⟩⟩ := h
  · exact ⟨h2, h3, .inl ⟨by rw [h4, h1, h5, h6], h5⟩⟩
  · refine ⟨h2, h3, .inr ⟨⟨bl, 0, none⟩, _, by rw [h4, h1], fun j u hj => ?_⟩⟩
    have hlt := (List.getElem?_eq_some_iff.1 hj).1
    rw [Addr.add_lit, cell_of_heap h5]
    simp [List.getElem?_append_left hlt, hj]

theorem run_append_nil {T ty elem : TypeId} {i : TypeInfo} (ht : P.underlying T = some (.slice elem)) (hi : P.info? elem = some i) (b : Option Addr) {n cap : Nat} (hc : n ≤ cap) :
    (Builtin.append_ #[T, T] ty #[.slice b n cap, .slice none 0 0]).run P w = .ok (.slice b n cap) w := by
  cases b <;> simp [Builtin.append_, run_underlying ht, sizeOf, typeInfo, hi, Builtin.lenOf, hc, Builtin.firstCells, storeCells]

theorem run_appendL {T ty elem : TypeId} {i : TypeInfo} {z : Value} (ht : P.underlying T = some (.slice elem)) (hi : P.info? elem = some i) (hz : i.zero = some z) (hzs : z.cells.size = i.size) (hsz : 0 < i.size)
    {bl : Nat} {lc : Option Addr × Nat × Nat} {n m : Nat} {xs ys : List Value} (hx : LAt w bl lc elem i.size n xs) {v : Value} (hy : SlcRd w v m i.size ys) (hok : AppOk i.bytes (n + m)) :
    ∃ (bl' : Nat) (lc' : Option Addr × Nat × Nat) (w' : World), (Builtin.append_ #[T, T] ty #[.slice lc.1 lc.2.1 lc.2.2, v]).run P w = .ok (.slice lc'.1 lc'.2.1 lc'.2.2) w' ∧ LAt w' bl' lc' elem i.size (n + m) (xs ++ ys) ∧
      ((bl' = bl ∧ lc.1 ≠ none) ∨ w.heap.size ≤ bl') ∧ w.heap.size ≤ w'.heap.size ∧ w'.os = w.os ∧ w'.tape = w.tape ∧ w'.output = w.output ∧ ∀ k, k < w.heap.size → k ≠ bl' → w'.heap[k]? = w.heap[k]? := by
  obtain ⟨⟨x1, x2, x3⟩, hx⟩ := hx
  obtain ⟨y1, y2, hy⟩ := hy
  obtain ⟨b1, b2⟩ := hok
  have one : ∀ u ∈ xs ++ ys, u.oneCell' = true := fun u hu => (List.mem_append.1 hu).elim (x3 u) (y2 u)
  have hlen : (xs ++ ys).length = (n + m) * i.size := by rw [List.length_append, x2, y1, Nat.add_mul]
  -- nothing is appended
  rcases hy with ⟨rfl, rfl⟩ | ⟨ad, cy, rfl, hy⟩
  · obtain rfl : ys = [] := List.eq_nil_of_length_eq_zero (by simpa using y1)
    rcases hx with ⟨x4, x5, x6⟩ | ⟨x4, x5, x6, c, x7, x8⟩
    · refine ⟨w.heap.size, lc, w, run_append_nil ht hi _ (by omega), ⟨⟨by omega, hlen, one⟩, .inl ⟨x4, by omega, x6⟩⟩, .inr (Nat.le_refl _), Nat.le_refl _, rfl, rfl, rfl, fun _ _ _ => rfl⟩
    · exact ⟨bl, lc, w, run_append_nil ht hi _ (by omega), ⟨⟨by omega, hlen, one⟩, .inr ⟨x4, by omega, x6, c, by simpa using x7, by simpa using x8⟩⟩, .inl ⟨rfl, by rw [x4]; simp⟩, Nat.le_refl _, rfl, rfl, rfl, fun _ _ _ => rfl⟩
  · -- out of a row that is owned
    have ofOwn : ∀ (v' : Value) (w' : World), w'.ownsRow w.heap.size elem i.size v' (n + m) (xs ++ ys) → w.grownBy w' none → (Builtin.append_ #[T, T] ty #[.slice lc.1 lc.2.1 lc.2.2, .slice (some ad) m cy]).run P w = .ok v' w' →
        ∃ (bl' : Nat) (lc' : Option Addr × Nat × Nat) (w' : World), (Builtin.append_ #[T, T] ty #[.slice lc.1 lc.2.1 lc.2.2, .slice (some ad) m cy]).run P w = .ok (.slice lc'.1 lc'.2.1 lc'.2.2) w' ∧ LAt w' bl' lc' elem i.size (n + m) (xs ++ ys) ∧
          ((bl' = bl ∧ lc.1 ≠ none) ∨ w.heap.size ≤ bl') ∧ w.heap.size ≤ w'.heap.size ∧ w'.os = w.os ∧ w'.tape = w.tape ∧ w'.output = w.output ∧ ∀ k, k < w.heap.size → k ≠ bl' → w'.heap[k]? = w.heap[k]? := by
      rintro v' w' ⟨_, ⟨rfl, h0⟩ | ⟨g, cap, cur, rfl, hg, hh, hc1, hc2, hc3, hc4⟩⟩ hgr hrun
      · exact ⟨w.heap.size, (none, 0, 0), w', hrun, ⟨⟨h0.symm, hlen, one⟩, .inl ⟨rfl, h0, rfl⟩⟩, .inr (Nat.le_refl _), hgr.size, hgr.os, hgr.tape, hgr.output, fun k hk _ => hgr.block k hk (by simp)⟩
      · refine ⟨g, (some ⟨g, 0, none⟩, n + m, cap), w', hrun, ⟨⟨rfl, hlen, one⟩, .inr ⟨rfl, hc1, hc2, cur.toList.drop ((n + m) * i.size), ?_, ?_⟩⟩, .inr hg, hgr.size, hgr.os, hgr.tape, hgr.output, fun k hk _ => hgr.block k hk (by simp)⟩
        · rw [← hc4, List.take_append_drop]; exact hh
        · rw [← hc4, List.take_append_drop]; simpa using hc3
    rcases hx with ⟨x4, x5, x6⟩ | ⟨x4, x5, x6, c, x7, x8⟩
    · subst x5
      obtain rfl : xs = [] := List.eq_nil_of_length_eq_zero (by simpa using x2)
      obtain ⟨v', w', r1, r2, r3, _⟩ := run_append_own (P := P) w w.heap.size T ty elem i z i.size i.bytes ht hi hz rfl rfl hzs hsz (.slice none 0 0) 0 [] (World.ownsRow_nil w _ elem i.size) ad m cy ys y1 hy y2 b1 b2 (Nat.le_refl _)
      refine ofOwn v' w' r2 r3 ?_
      rw [x4, x1, x6]; exact r1
    · by_cases hroom : n + m ≤ lc.2.2
      · have hfit : n * i.size + ys.length ≤ (xs ++ c).toArray.size := by
          have h1 : (xs ++ c).toArray.size = lc.2.2 * i.size := by simpa using x8
          rw [y1, h1, ← Nat.add_mul]; exact Nat.mul_le_mul_right _ hroom
        have hr := run_append_room (P := P) w T ty elem i ht hi bl n lc.2.2 (xs ++ c).toArray x7 ad m cy ys y1 hy y2 hroom hfit
        refine ⟨bl, (some ⟨bl, 0, none⟩, n + m, lc.2.2), w.setRow bl ((xs ++ c).toArray.toList.take (n * i.size) ++ ys ++ (xs ++ c).toArray.toList.drop (n * i.size + ys.length)).toArray, by rw [x4, x1]; exact hr, ⟨⟨rfl, hlen, one⟩, .inr ⟨rfl, hroom, x6, c.drop ys.length, ?_, ?_⟩⟩, .inl ⟨rfl, by rw [x4]; simp⟩, by simp, rfl, rfl, rfl, fun k _ hk => setRow_other w bl k _ hk⟩
        · rw [setRow_heap w bl _ _ elem _ x7]
          have e1 : (xs ++ c).take (n * i.size) = xs := by rw [← x2]; exact List.take_left
          have e2 : (xs ++ c).drop (n * i.size + ys.length) = c.drop ys.length := by rw [← x2, ← List.drop_drop, List.drop_left]
          simp [e1, e2]
        · have h1 : xs.length + c.length = lc.2.2 * i.size := by simpa using x8
          have h2 : n * i.size + ys.length ≤ xs.length + c.length := by simpa using hfit
          simp only [List.length_append, List.length_drop]
          rw [← x2] at h2
          omega
      · obtain ⟨v', w', r1, r2, r3⟩ := run_append_arg_grows (P := P) w T ty elem i z i.size i.bytes ht hi hz rfl rfl hzs hsz ⟨bl, 0, none⟩ n lc.2.2 xs x2 (fun j u hj => by
          have hlt := (List.getElem?_eq_some_iff.1 hj).1
          rw [Addr.add_lit, cell_of_heap x7]
          simp [List.getElem?_append_left hlt, hj]) ad m cy ys y1 hy (by omega) b1 b2
        refine ofOwn v' w' r2 r3 ?_
        rw [x4, x1]; exact r1

theorem objOk_olist {n i : Nat} {ty : TypeId} {sz k : Nat} {xs : List Value} : objOk e w n i (.olist ty sz k xs) ↔ LAt w (e.blk i) (e.loc i) ty sz k xs := Iff.rfl

theorem appX_ok {elem : TypeId} {sz : Nat} {x : SV} {tag : Option Nat} {n : Nat} {xs : List Value} (hr : Rel G e t o h a w) (hx : appX o elem sz x = some (tag, n, xs)) :
    ∃ (bl : Nat) (lc : Option Addr × Nat × Nat), den e x = .slice lc.1 lc.2.1 lc.2.2 ∧ LAt w bl lc elem sz n xs ∧ x ≠ .junk ∧
      (lc.1 ≠ none → ∃ (j : Nat) (z : SObj), tag = some j ∧ o[j]? = some (some z) ∧ live e j z ∧ bl = e.blk j) := by
  unfold appX at hx
  split at hx
  · rename_i j
    split at hx
    · rename_i ty sz' n' xs' hg
      split at hx
      · rename_i hc
        simp only [Bool.and_eq_true] at hc
        simp only [Option.some.injEq, Prod.mk.injEq] at hx
        obtain ⟨rfl, rfl, rfl⟩ := hx
        obtain rfl := Nat.eq_of_beq_eq_true hc.1
        obtain rfl := Nat.eq_of_beq_eq_true hc.2
        have ho := getList_some hg
        exact ⟨e.blk j, e.loc j, rfl, hr.wok.ob _ _ ho, by simp, fun hl => ⟨j, _, rfl, ho, hl, rfl⟩⟩
      · simp at hx
    · simp at hx
  · simp only [Option.some.injEq, Prod.mk.injEq] at hx
    obtain ⟨rfl, rfl, rfl⟩ := hx
    exact ⟨0, (none, 0, 0), rfl, ⟨⟨rfl, by simp, by simp⟩, .inl ⟨rfl, rfl, rfl⟩⟩, by simp, fun hl => (hl rfl).elim⟩
  · simp at hx

def kill (o : List (Option SObj)) (t : Option Nat) : List (Option SObj) := match t with | none => o | some t => o.set t none
theorem kill_length (t : Option Nat) : (kill o t).length = o.length := by cases t <;> simp [kill]
theorem kill_get {t : Option Nat} {i : Nat} {x : SObj} (h : (kill o t)[i]? = some (some x)) : o[i]? = some (some x) := by
  cases t with
  | none => exact h
  | some t =>
    simp only [kill] at h
    rw [List.getElem?_set] at h
    split at h
    · split at h <;> simp at h
    · exact h

theorem Rel.append (hr : Rel G e t o h a w) {T ty elem : TypeId} {i : TypeInfo} {z : Value} (ht : P.underlying T = some (.slice elem)) (hi : P.info? elem = some i) (hz : i.zero = some z) (hzs : z.cells.size = i.size) (hsz : 0 < i.size)
    {x : SV} {tag : Option Nat} {n m : Nat} {xs ys : List Value} (hx : appX o elem i.size x = some (tag, n, xs)) {v : Value} (hy : SlcRd w v m i.size ys) (hok : AppOk i.bytes (n + m)) :
    ∃ (e' : Env) (u : Value) (w' : World), (Builtin.append_ #[T, T] ty #[den e x, v]).run P w = .ok u w' ∧ den e' (.loc o.length) = u ∧ Rel G e' t (kill o tag ++ [some (.olist elem i.size (n + m) (xs ++ ys))]) h a w' := by
  obtain ⟨bl, lc, h1, h2, _, h4⟩ := appX_ok hr hx
  obtain ⟨bl', lc', w', hrun, hat, hbl, hs, h5, h6, h7, hb⟩ := run_appendL (P := P) (ty := ty) ht hi hz hzs hsz h2 hy hok
  obtain ⟨hT, hw, hkl⟩ := hr
  obtain ⟨e', ha, e1, e2, hw'⟩ := hw.snoc (o1 := kill o tag) (y := .olist elem i.size (n + m) (xs ++ ys)) (bl := bl') (lc := lc') (w' := w') hkl (kill_length _) (fun _ _ h => kill_get h) hs h5 h6 h7
    (fun k hk hq => by
      by_cases hkb : k = bl'
      · rcases hq with hq | hq
        · exact absurd hkb hq
        · rcases hbl with ⟨rfl, hl⟩ | hbl
          · obtain ⟨j, y, _, hj, hy, he⟩ := h4 hl
            exact absurd (he.symm.trans hkb.symm) (hq j y hj hy)
          · omega
      · exact hb k hk hkb)
    (by
      rcases hbl with ⟨rfl, hl⟩ | hbl
      · obtain ⟨j, y, rfl, hj, hy, he⟩ := h4 hl
        exact .inr ⟨j, y, hj, by have := idx_lt hj; simp [kill, this], hy, he⟩
      · exact .inl hbl)
    (by intros; simp) (fun e' _ e1 e2 => by rw [objOk_olist, e1, e2]; exact hat)
  refine ⟨e', _, w', by rw [h1]; exact hrun, by simp [den, e2], ⟨hT.agr ha (by simp [kill_length]), hw', by simp [kill_length]; omega⟩⟩

/-- A new list in a row of its own. -/
theorem Rel.newList (hr : Rel G e t o h a w) (elem : TypeId) (sz n : Nat) (xs : List Value) (hl : xs.length = n * sz) (h1 : ∀ u ∈ xs, u.oneCell' = true) (hn : n ≤ maxLen) :
    ∃ e', den e' (.loc o.length) = .slice (some ⟨w.heap.size, 0, none⟩) n n ∧ Rel G e' t (o ++ [some (.olist elem sz n xs)]) h a (w.alloc (.cells xs.toArray elem)) := by
  obtain ⟨hT, hw, hkl⟩ := hr
  obtain ⟨e', ha, e1, e2, hw'⟩ := hw.snoc (o1 := o) (y := .olist elem sz n xs) (bl := w.heap.size) (lc := (some ⟨w.heap.size, 0, none⟩, n, n)) (w' := w.alloc (.cells xs.toArray elem)) hkl rfl (fun _ _ h => h) (by simp) rfl rfl rfl
    (fun k hk _ => by rw [heap_push, if_neg (by omega)]) (.inl (Nat.le_refl _)) (by intros; simp)
    (fun e' _ e1 e2 => by
      rw [objOk_olist, e1, e2]
      exact ⟨⟨rfl, hl, h1⟩, .inr ⟨rfl, Nat.le_refl _, hn, [], by rw [heap_push, if_pos rfl, List.append_nil], by simpa using hl⟩⟩)
  exact ⟨e', by simp [den, e2], ⟨hT.agr ha (by simp), hw', by simp; omega⟩⟩

/-- A store into a list's row. -/
theorem Rel.storeList (hr : Rel G e t o h a w) {tag off : Nat} {ty tt : TypeId} {sz n : Nat} {ys xs : List Value} {i : TypeInfo} {v : Value} (ho : o[tag]? = some (some (.olist ty sz n ys))) (hi : P.info? tt = some i)
    (hv : v.cells.toList = xs) (hn : xs.length = i.size) (hp : 0 < xs.length) (hl : off + xs.length ≤ ys.length) (h1 : ∀ u ∈ xs, u.oneCell' = true) :
    ∃ w', (storeVar tt ⟨e.blk tag, off, none⟩ v).run P w = .ok () w' ∧ Rel G e t (o.set tag (some (.olist ty sz n (putN ys off xs)))) h a w' := by
  have hob := hr.wok.ob _ _ ho
  obtain ⟨⟨k1, k2, k3⟩, ⟨_, k5, _⟩ | ⟨k4, k5, k6, c, k7, k8⟩⟩ := hob
  · subst k5
    rw [Nat.zero_mul] at k2; omega
  · obtain ⟨w', hrun, hheap, hwr⟩ := run_storeVar (P := P) (v := v) (xs := xs) (off := off) k7 hi hv hn (by simp; omega) h1
    have hf := putN_fold c xs ys off 0 (by omega)
    rw [Nat.add_zero] at hf
    rw [hf] at hheap
    refine ⟨w', hrun, hr.wrote ho (by simp [live, k4]) (by simp [live, k4]) hwr (by intros; simp) ?_⟩
    refine ⟨⟨k1, by rw [putN_length]; exact k2, fun u hu => (putN_mem xs ys off u hu).elim (k3 u) (h1 u)⟩, .inr ⟨k4, k5, k6, c, hheap, ?_⟩⟩
    simpa [putN_length] using k8

end Go.Pw
