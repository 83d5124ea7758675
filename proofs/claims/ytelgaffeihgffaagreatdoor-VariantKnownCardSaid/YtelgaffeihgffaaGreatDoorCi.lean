/-
  A concrete evaluator for Go's IR. Part i: make, copy, maps, type assertions.
-/
import Derived.Test.YtelgaffeihgffaaGreatDoorCh2
import Derived.DeepKeys3
import Derived.Laws.BytesString
import Derived.Lib.UnsafeStr
import Derived.Laws.MakeOwn
import Derived.Lib.Builder
set_option linter.unusedSimpArgs false
set_option linter.unusedVariables false
namespace Go.Cx
open Go Go.RowKit
open Go.Lib (run_unsafeString_row)
variable {e : Env} {P : Program} {w : World} {m : Mem} {W0 : Bas}

theorem all_rep {z : List CV} (h : z.all one = true) : ∀ n, (rep z n).all one = true
  | 0 => rfl
  | n + 1 => all_append h (all_rep h n)

theorem cMakeSlice_ok (h : Rel W0 e m w) {T : Nat} (hT : e T = none ∧ ¬ W0.Z T) {l c : CV} {L C : Value} (hl : den e l = some L) (hc : den e c = some C) (t : TypeId) : EOk W0 P e m w (cMakeSlice P T m t l c) (Instr.makeSlice t L C) := by
  unfold cMakeSlice
  split
  · rename_i elem l c hu
    obtain rfl := den_int hl
    obtain rfl := den_int hc
    split
    · rename_i i z hi hz
      obtain ⟨iz, zv, hiz, hzz, hzd⟩ := zeroC_some hz
      obtain rfl : i = iz := by rw [hi] at hiz; cases hiz; rfl
      split
      · rename_i hcond
        simp only [Bool.and_eq_true] at hcond
        have g1 : 0 < i.size := by simpa [Nat.blt_eq] using hcond.1
        have g2 : l ≤ c := Nat.le_of_ble_eq_true hcond.2.1
        have g3 : c ≤ 100000 := Nat.le_of_ble_eq_true hcond.2.2.1
        have g5 : c * i.bytes ≤ 1000000000 := Nat.le_of_ble_eq_true hcond.2.2.2.1
        have g4 : z.length = i.size := Nat.eq_of_beq_eq_true hcond.2.2.2.2.1
        have g6 : z.all one = true := hcond.2.2.2.2.2
        have g7 : zv.cells.size = i.size := by rw [← g4, ← denL_length (hzd e)]; simp
        have hrow := rep_den (hzd e) c
        obtain ⟨h1, h2⟩ := h.alloc hT (o := .cells elem (rep z c)) (x := .cells (repV zv.cells.toList c).toArray elem (0, 0)) ⟨w.heap.size, 0, 0, 0⟩ rfl
          ⟨_, _, Env.ext_same .., rfl, denL_mono (Env.ext_le hT.1 _) _ _ hrow, all_rep g6 c, by rw [heap_push, if_pos rfl]⟩
        refine ⟨_, .slice (some ⟨w.heap.size, 0, none⟩) l c, _, h1, ?_, h2, ?_⟩
        · show ((e.ext T _) T).map _ = _
          rw [Env.ext_same]; rfl
        · have hr := range_rep zv.cells c (by omega)
          have h3 : i.bytes * c ≤ 1000000000 := by rw [Nat.mul_comm]; exact g5
          have h4 : ((i.bytes : Int) * (c : Int)) ≤ 1000000000 := by
            have h := Int.ofNat_le.2 h3
            rw [Int.natCast_mul] at h
            exact h
          have hmk := run_make (P := P) w t elem i zv hu hi hzz .i64 .i64 (l : Int) (c : Int) (by omega) (by omega) (by omega) (by omega)
          have hm2 : madeCells zv.cells (c * i.size) = (repV zv.cells.toList c).toArray := by
            unfold madeCells; rw [← g7]; exact hr
          simp only [Int.toNat_natCast, hm2] at hmk
          exact hmk
      · trivial
    · trivial
  · trivial

theorem src_ok (hm : Mok e m w) {sz n : Nat} {x : CV} {l : List CV} {V : Value} (h : srcE m sz x = some (n, l)) (hx : den e x = some V) :
    ∃ us, denL e l = some us ∧ us.length = n * sz ∧ (Builtin.lenOf V).run P w = .ok n w ∧ ∀ k, k ≤ n → (Builtin.firstCells sz k V).run P w = .ok (us.take (k * sz)).toArray w := by
  unfold srcE at h
  split at h
  · rename_i s
    split at h
    · rename_i hs1
      have hs1 := Nat.eq_of_beq_eq_true hs1
      subst hs1
      simp only [Option.some.injEq, Prod.mk.injEq] at h
      obtain ⟨rfl, rfl⟩ := h
      obtain rfl := den_str hx
      refine ⟨_, bytes_den e s, by simp, ?_, fun k hk => ?_⟩
      · have := size_str s
        simp [Builtin.lenOf, this]
      · simp [Builtin.firstCells, List.map_take]
    · cases h
  · obtain ⟨us, u1, u2, u3, u4⟩ := elems_ok hm h hx
    refine ⟨us, u1, u2, ?_, fun k hk => ?_⟩
    · rcases u4 with ⟨_, rfl, rfl⟩ | ⟨ad, c, rfl, _⟩ <;> simp [Builtin.lenOf]
    · rcases u4 with ⟨_, rfl, h0⟩ | ⟨ad, c, rfl, hc⟩
      · have : us = [] := List.eq_nil_of_length_eq_zero (by rw [u2, h0]; simp)
        simp [Builtin.firstCells, this]
      · have hl : (us.take (k * sz)).length = k * sz := by
          rw [List.length_take, u2]; exact Nat.min_eq_left (Nat.mul_le_mul_right _ hk)
        exact run_first sz k ad n c _ hl (fun j u hj => hc j u (by
          rw [List.getElem?_take] at hj
          split at hj
          · exact hj
          · cases hj))

theorem cCopy_ok (h : Rel W0 e m w) {d s : CV} {D S : Value} (hd : den e d = some D) (hs : den e s = some S) (T T2 ty : TypeId) :
    EOk W0 P e m w (cCopy P m T T2 d s) (Builtin.copy_ #[T, T2] ty #[D, S]) := by
  unfold cCopy
  split
  · rename_i elem hu
    split
    · rename_i inf hi
      split
      · rename_i ns src nd dl hsrc hdst
        obtain ⟨us, u1, u2, hlen, hfirst⟩ := src_ok (P := P) h.ok hsrc hs
        have stored : ∀ (b : Blk) (off c : Nat) (m' : Mem) (w' : World), D = .slice (some ⟨b.blk, b.off + off, none⟩) nd c → (storeCells ⟨b.blk, b.off + off, none⟩ (us.take ((min ns nd) * inf.size))).run P w = .ok () w' →
            (Builtin.copy_ #[T, T2] ty #[D, S]).run P w = .ok (.int .i64 ((min ns nd : Nat) : Int)) w' := fun b off c m' w' hD hst => by
          subst hD
          have hf := hfirst (min ns nd) (Nat.min_le_left ..)
          have hf' : (Builtin.firstCells inf.size (Nat.min ns nd) S).run P w = .ok (us.take ((Nat.min ns nd) * inf.size)).toArray w := hf
          have hst' : (storeCells ⟨b.blk, b.off + off, none⟩ (us.take ((Nat.min ns nd) * inf.size))).run P w = .ok () w' := hst
          simp [Builtin.copy_, run_under hu, run_size hi, hlen, hf', hst', goInt]
        split
        · simp only [den, Option.some.injEq] at hd; subst hd
          have hf' := hfirst 0 (Nat.zero_le _)
          exact ⟨_, rfl, by simp [Builtin.copy_, run_under hu, run_size hi, hlen, hf', goInt]⟩
        · rename_i t off n c
          split
          · rename_i m' hw
            obtain ⟨b, w', k1, k2, k3⟩ := wr_ok (P := P) h hw (denL_take _ u1)
            have hn : n = nd := by
              unfold elems at hdst
              simp only at hdst
              split at hdst
              · split at hdst
                · simp only [Option.some.injEq, Prod.mk.injEq] at hdst; exact hdst.1
                · cases hdst
              · split at hdst
                · simp only [Option.some.injEq, Prod.mk.injEq] at hdst; exact hdst.1
                · cases hdst
              · split at hdst
                · simp only [Option.some.injEq, Prod.mk.injEq] at hdst; exact hdst.1
                · cases hdst
              · cases hdst
            simp only [den, k1, Option.map_some, Option.some.injEq] at hd
            exact ⟨e, _, w', Env.le.refl e, rfl, k3, stored b off c m' w' (by rw [← hd, hn]) k2⟩
          · trivial
        · rename_i t k n
          split
          · rename_i m' hw
            obtain ⟨b, w', k1, k2, k3⟩ := wr_ok (P := P) h hw (denL_take _ u1)
            have hn : n = nd ∧ b.sz = inf.size := by
              unfold elems at hdst
              simp only at hdst
              split at hdst
              · rename_i ty' sz' cs' ho
                split at hdst
                · rename_i hq
                  split at hdst
                  · simp only [Option.some.injEq, Prod.mk.injEq] at hdst
                    obtain ⟨b', _, _, _, o1, o2, _⟩ := h.ok _ _ ho
                    obtain rfl : b = b' := by rw [k1] at o1; cases o1; rfl
                    exact ⟨hdst.1, by rw [o2, Nat.eq_of_beq_eq_true hq]⟩
                  · cases hdst
                · cases hdst
              · cases hdst
            simp only [den, k1, Option.map_some, Option.some.injEq] at hd
            exact ⟨e, _, w', Env.le.refl e, rfl, k3, stored b (k * inf.size) (b.cap - k) m' w' (by rw [← hd, hn.1, hn.2]) k2⟩
          · trivial
        · trivial
      · trivial
    · trivial
  · trivial

theorem elems_len {m : Mem} {sz n : Nat} {x : CV} {l : List CV} (h : elems m sz x = some (n, l)) : (∀ t off k c, x = .slc t off k c → k = n) ∧ (∀ t j k, x = .opn t j k → k = n ∧ ∃ ty cs, m.get t = some (.opn ty sz cs)) := by
  unfold elems at h
  split at h
  · exact ⟨fun _ _ _ _ e => (by cases e), fun _ _ _ e => (by cases e)⟩
  · refine ⟨fun t off k c e => ?_, fun _ _ _ e => (by cases e)⟩
    cases e
    split at h <;> first | (split at h <;> first | (simp only [Option.some.injEq, Prod.mk.injEq] at h; exact h.1) | cases h) | cases h
  · refine ⟨fun _ _ _ _ e => (by cases e), fun t j k e => ?_⟩
    cases e
    split at h
    · rename_i ty sz' cs ho
      split at h
      · rename_i hq
        obtain rfl := Nat.eq_of_beq_eq_true hq
        split at h
        · simp only [Option.some.injEq, Prod.mk.injEq] at h; exact ⟨h.1, _, _, ho⟩
        · cases h
      · cases h
    · cases h
  · exact ⟨fun _ _ _ _ e => (by cases e), fun _ _ _ e => (by cases e)⟩
  · exact ⟨fun _ _ _ _ e => (by cases e), fun _ _ _ e => (by cases e)⟩
  · cases h
theorem cClear_ok (h : Rel W0 e m w) {x : CV} {X : Value} (hx : den e x = some X) (T ty : TypeId) : EOk W0 P e m w (cClear P m T x) (Builtin.clear_ #[T] ty #[X]) := by
  unfold cClear
  split
  · rename_i elem hu
    split
    · rename_i inf z hi hz
      obtain ⟨iz, zv, hiz, hzz, hzd⟩ := zeroC_some hz
      obtain rfl : inf = iz := by rw [hi] at hiz; cases hiz; rfl
      split
      · rename_i hcond
        simp only [Bool.and_eq_true] at hcond
        have g1 : 0 < inf.size := by simpa [Nat.blt_eq] using hcond.1
        have g4 : z.length = inf.size := Nat.eq_of_beq_eq_true hcond.2
        have g7 : zv.cells.size = inf.size := by rw [← g4, ← denL_length (hzd e)]; simp
        split
        · rename_i n l hel
          have hl := elems_len hel
          split
          · -- nothing to do
            obtain ⟨us, k1, k2, k3, k4⟩ := elems_ok h.ok hel hx
            rcases k4 with ⟨rfl, rfl, _⟩ | ⟨ad, c, rfl, _⟩
            · exact ⟨_, rfl, by simp [Builtin.clear_, run_under hu]⟩
            · exact ⟨_, rfl, by simp [Builtin.clear_, run_under hu]⟩
          · rename_i n
            have hz2 : Builtin.zeroCells zv.cells (n + 1) = (repV zv.cells.toList (n + 1)).toArray := by
              unfold Builtin.zeroCells
              exact range_rep zv.cells (n + 1) (by omega)
            have hrow := rep_den (hzd e) (n + 1)
            have fin : ∀ (b : Blk) (off c : Nat) (w' : World), X = .slice (some ⟨b.blk, b.off + off, none⟩) (n + 1) c → (storeCells ⟨b.blk, b.off + off, none⟩ (repV zv.cells.toList (n + 1))).run P w = .ok () w' →
                (Builtin.clear_ #[T] ty #[X]).run P w = .ok (.tuple #[]) w' := by
              intro b off c w' hX hst
              subst hX
              simp [Builtin.clear_, run_under hu, run_zero hi hzz w, hz2, hst]
            split
            · rename_i t off k c
              obtain rfl := hl.1 t off k c rfl
              split
              · rename_i m' hw
                obtain ⟨b, w', k1, k2, k3⟩ := wr_ok (P := P) h hw hrow
                simp only [den, k1, Option.map_some, Option.some.injEq] at hx
                exact ⟨e, _, w', Env.le.refl e, rfl, k3, fin b off c w' hx.symm k2⟩
              · trivial
            · rename_i t j k
              obtain ⟨rfl, ty', cs', ho⟩ := hl.2 t j k rfl
              split
              · rename_i m' hw
                obtain ⟨b, w', k1, k2, k3⟩ := wr_ok (P := P) h hw hrow
                obtain ⟨b', _, _, _, o1, o2, _⟩ := h.ok _ _ ho
                obtain rfl : b = b' := by rw [k1] at o1; cases o1; rfl
                simp only [den, k1, Option.map_some, Option.some.injEq] at hx
                exact ⟨e, _, w', Env.le.refl e, rfl, k3, fin b (j * inf.size) (b.cap - j) w' (by rw [← hx, o2]) k2⟩
              · trivial
            · trivial
        · trivial
      · trivial
    · trivial
  · trivial

/-! ### maps -/

theorem getObj_map' {b : Nat} {es : Array MapEntry} {c : Nat} (h : w.heap[b]? = some (.map es c)) : (getObj b).run P w = .ok (.map es c) w := getObj_map h
theorem setObj_map {b : Nat} {es : Array MapEntry} {c : Nat} (h : w.heap[b]? = some (.map es c)) (o : Obj) : (setObj b o).run P w = .ok () { w with heap := w.heap.setIfInBounds b o } := by simp [setObj, Sem.run, h]

theorem keyS_cases {t : TypeId} (h : keyS P t = true) : (∃ k, P.underlying t = some (.int k)) ∨ P.underlying t = some .string ∨ P.underlying t = some .bool := by
  unfold keyS at h
  split at h
  · exact .inl ⟨_, by assumption⟩
  · exact .inr (.inl (by assumption))
  · exact .inr (.inr (by assumption))
  · cases h
theorem wide_cases {t : TypeId} (h : wideKey P t = true) : P.keyTypeAt 6 t = true ∧ P.tiled 6 t = true ∧ (match P.underlying t with | some (.array _ _) | some (.struct _) => true | _ => false) = true := by
  unfold wideKey at h
  split at h
  · rename_i hu
    simp only [Bool.and_eq_true] at h
    exact ⟨h.1, h.2, by rw [hu]⟩
  · rename_i hu
    simp only [Bool.and_eq_true] at h
    exact ⟨h.1, h.2, by rw [hu]⟩
  · cases h
theorem litV_den {e : Env} : ∀ {cs : List CV} {vs : List Value}, litV cs = some vs → denL e cs = some vs ∧ ∀ v ∈ vs, ∀ m, Instr.sameBits m v v = true
  | [], vs, h => by simp only [litV, Option.some.injEq] at h; subst h; exact ⟨rfl, by simp⟩
  | .bool b :: r, vs, h => by
    simp only [litV] at h
    split at h
    · rename_i l hl
      simp only [Option.some.injEq] at h; subst h
      obtain ⟨h1, h3⟩ := litV_den (e := e) hl
      refine ⟨denL_cons_some rfl h1, fun v hv m => ?_⟩
      rcases List.mem_cons.1 hv with rfl | hv
      · cases m <;> simp [Instr.sameBits]
      · exact h3 v hv m
    · cases h
  | .int k n :: r, vs, h => by
    simp only [litV] at h
    split at h
    · rename_i l hl
      simp only [Option.some.injEq] at h; subst h
      obtain ⟨h1, h3⟩ := litV_den (e := e) hl
      refine ⟨denL_cons_some rfl h1, fun v hv m => ?_⟩
      rcases List.mem_cons.1 hv with rfl | hv
      · cases m <;> simp [Instr.sameBits]
      · exact h3 v hv m
    · cases h
theorem litV_cons {c : CV} {r : List CV} {vs : List Value} (h : litV (c :: r) = some vs) : ∃ v l, litV r = some l ∧ vs = v :: l ∧ ((∃ b, c = .bool b ∧ v = .bool b) ∨ ∃ k n, c = .int k n ∧ v = .int k n) := by
  cases c <;> simp only [litV] at h <;> (try cases h; done)
  · split at h
    · rename_i l hl
      simp only [Option.some.injEq] at h; subst h
      exact ⟨_, l, hl, rfl, .inl ⟨_, rfl, rfl⟩⟩
    · cases h
  · split at h
    · rename_i l hl
      simp only [Option.some.injEq] at h; subst h
      exact ⟨_, l, hl, rfl, .inr ⟨_, _, rfl, rfl⟩⟩
    · cases h
theorem cvEq_bool (b : Bool) : cvEq (.bool b) (.bool b) = true := by cases b <;> rfl
theorem cvEq_int (k : IntKind) (n : Int) : cvEq (.int k n) (.int k n) = true := by
  have hk : kEq k k = true := by cases k <;> rfl
  have hn : ieq n n = true := by rw [ieq_eq]; simp
  simp only [cvEq, hk, hn, Bool.and_self]
theorem litV_eq : ∀ {cs ds : List CV} {vs : List Value}, litV cs = some vs → litV ds = some vs → cvEqL cs ds = true
  | [], [], vs, _, _ => rfl
  | [], d :: ds, vs, h1, h2 => by
    simp only [litV, Option.some.injEq] at h1; subst h1
    obtain ⟨v, l, _, h, _⟩ := litV_cons h2
    cases h
  | c :: r, [], vs, h1, h2 => by
    simp only [litV, Option.some.injEq] at h2; subst h2
    obtain ⟨v, l, _, h, _⟩ := litV_cons h1
    cases h
  | c :: r, d :: ds, vs, h1, h2 => by
    obtain ⟨v, l, hl, rfl, hc⟩ := litV_cons h1
    obtain ⟨v', l', hl', hv, hd⟩ := litV_cons h2
    obtain ⟨rfl, rfl⟩ := List.cons.inj hv
    have ih := litV_eq hl hl'
    rcases hc with ⟨b, rfl, rfl⟩ | ⟨k, n, rfl, rfl⟩ <;> rcases hd with ⟨b', rfl, hd⟩ | ⟨k', n', rfl, hd⟩
    · cases hd; simp only [cvEqL, cvEq_bool, ih, Bool.and_self]
    · cases hd
    · cases hd
    · cases hd; simp only [cvEqL, cvEq_int, ih, Bool.and_self]
theorem cvEqL_lit : ∀ {cs ds : List CV} {vs us : List Value}, litV cs = some vs → litV ds = some us → cvEqL cs ds = true → vs = us := by
  intro cs ds vs us h1 h2 h
  have key : ∀ {a b : List CV}, cvEqL a b = true → litV a = litV b := by
    intro a
    induction a with
    | nil => intro b h; cases b with | nil => rfl | cons _ _ => simp [cvEqL] at h
    | cons x a ih =>
      intro b h
      cases b with
      | nil => simp [cvEqL] at h
      | cons y b =>
        simp only [cvEqL, Bool.and_eq_true] at h
        have ht := ih h.2
        cases x <;> cases y <;> first
          | (simp [cvEq] at h; done)
          | (simp only [litV]; done)
          | skip
        · rename_i p q
          have : p = q := by have := h.1; cases p <;> cases q <;> simp_all [cvEq]
          subst this
          simp only [litV, ht]
        · rename_i k n k' n'
          have h1 := h.1
          simp only [cvEq, Bool.and_eq_true] at h1
          obtain rfl := kEq_true h1.1
          have h2 := h1.2
          rw [ieq_eq] at h2
          obtain rfl := eq_of_beq h2
          simp only [litV, ht]
  rw [key h, h2] at h1
  exact (Option.some.inj h1).symm
theorem keyL_spec {t : TypeId} {x : CV} {X : Value} (hw : wideKey P t = true) (h : keyL P t x = true) (hx : den e x = some X) : ∃ cs vs L, x = .agg cs ∧ litV cs = some vs ∧ X = .agg vs.toArray ∧ P.keyLits 8 t vs = some L ∧ X.formed P t = true := by
  unfold keyL at h
  split at h
  · rename_i cs
    split at h
    · rename_i vs hv
      obtain ⟨L, hL⟩ := Option.isSome_iff_exists.1 h
      obtain ⟨l, hl, rfl⟩ := den_agg hx
      rw [(litV_den hv).1] at hl
      cases hl
      refine ⟨cs, vs, L, rfl, hv, rfl, hL, ?_⟩
      obtain ⟨_, _, h3⟩ := wide_cases hw
      have hlen : vs.length = P.cellsOf t := by
        unfold Program.keyLits at hL
        cases hu : P.underlying t with
        | none => rw [hu] at h3; cases h3
        | some d =>
          rw [hu] at h3
          cases d <;> simp at h3
          · simp only [hu] at hL
            split at hL
            · assumption
            · cases hL
          · simp only [hu] at hL
            split at hL
            · rename_i hq; exact hq.1
            · cases hL
      cases hu : P.underlying t with
      | none => rw [hu] at h3; cases h3
      | some d =>
        rw [hu] at h3
        cases d <;> simp at h3 <;> simp [Value.formed, hu, hlen]
    · cases h
  · cases h
theorem checkKey_ok {t : TypeId} {k : CV} {K : Value} (h : keyOk P t k = true) (hK : den e k = some K) (b : Bool) (w : World) : (Instr.checkKey b 10000 t K).run P w = .ok () w := by
  unfold keyOk at h
  cases hw : wideKey P t with
  | true =>
    rw [hw] at h
    obtain ⟨cs, vs, L, rfl, hv, rfl, hL, hf⟩ := keyL_spec hw h hK
    obtain ⟨h1, _, _⟩ := wide_cases hw
    exact run_checkKey_deep b 9994 6 t h1 w 8 _ L hf (by simpa [Value.cells] using hL)
  | false =>
    rw [hw] at h
    rw [show (10000 : Nat) = 9999 + 1 from rfl, Instr.checkKey]
    rcases keyS_cases h with ⟨k, hu⟩ | hu | hu <;> simp [run_under hu]

theorem same_now {kt : TypeId} (h : keyS P kt = true) {x y : CV} {X Y : Value} (hx : den e x = some X) (hy : den e y = some Y) {b : Bool} (hc : ceq P 40 kt x y = some b) :
    ∃ d, P.underlying kt = some d ∧ Instr.sameNow d X Y = some b ∧ (b = true → Instr.sameBits 10000 Y X = true) := by
  have hc' : (match P.underlying kt with
      | some (.int _) => eqInt
      | some .string => eqStr
      | some .bool => eqBool
      | some (.pointer el) => eqPtr P el
      | some (.interface _) => eqIfc P (ceq P 39)
      | some (.slice _) => eqSlc
      | some (.func _ _ _) => eqFn
      | some (.map _ _) => eqMap
      | some (.struct fs) => eqStruct P (ceq P 39) kt fs.toList
      | some (.array n el) => eqArr P (ceq P 39) el n
      | _ => fun _ _ => none) x y = some b := hc
  rcases keyS_cases h with ⟨k, hu⟩ | hu | hu
  · rw [hu] at hc'
    refine ⟨_, hu, ?_⟩
    change eqInt x y = some b at hc'
    unfold eqInt at hc'
    split at hc'
    · split at hc'
      · rename_i hk
        obtain rfl := kEq_true hk
        obtain rfl := den_int hx
        obtain rfl := den_int hy
        simp only [Option.some.injEq] at hc'; subst hc'
        rw [ieq_eq]
        refine ⟨by simp [Instr.sameNow], fun hb => ?_⟩
        simp at hb
        simp [Instr.sameBits, hb]
      · cases hc'
    · cases hc'
  · rw [hu] at hc'
    refine ⟨_, hu, ?_⟩
    change eqStr x y = some b at hc'
    unfold eqStr at hc'
    split at hc'
    · rename_i sa sb
      obtain rfl := den_str hx
      obtain rfl := den_str hy
      simp only [Option.some.injEq] at hc'; subst hc'
      rw [beqL_eq]
      have hq : ((⟨(sa.map UInt8.ofNat).toArray⟩ : ByteArray) == ⟨(sb.map UInt8.ofNat).toArray⟩) = (sa.map UInt8.ofNat == sb.map UInt8.ofNat) := by
        show ((sa.map UInt8.ofNat).toArray == (sb.map UInt8.ofNat).toArray) = _
        simp
      refine ⟨by simp only [Instr.sameNow, hq], fun hb => ?_⟩
      have hb' := eq_of_beq hb
      rw [hb']
      show ((sb.map UInt8.ofNat).toArray == (sb.map UInt8.ofNat).toArray) = true
      simp
    · cases hc'
  · rw [hu] at hc'
    refine ⟨_, hu, ?_⟩
    change eqBool x y = some b at hc'
    unfold eqBool at hc'
    split at hc'
    · rename_i a c
      obtain rfl := den_bool hx
      obtain rfl := den_bool hy
      simp only [Option.some.injEq] at hc'; subst hc'
      refine ⟨by cases a <;> cases c <;> rfl, fun hb => ?_⟩
      cases a <;> cases c <;> simp_all [Instr.sameBits]
    · cases hc'

/-- What is found in the list of a map: keys of one cell. -/
theorem find_now {kt : TypeId} (hk : keyS P kt = true) (hw : wideKey P kt = false) {k : CV} {K : Value} (hK : den e k = some K) {d : TypeDesc} (hd : P.underlying kt = some d) : ∀ {es : List (CV × CV × Nat)} {ms : List MapEntry}, EntsOk e es ms → ∀ (i : Nat) (r : Option (Nat × CV × Nat)), findC P kt k es i = some r →
    match r with
    | none => Instr.findNow d K ms i = some none
    | some (j, v, s) => ∃ V K0 a, den e v = some V ∧ den e a = some K0 ∧ i ≤ j ∧ Instr.findNow d K ms i = some (some (j, V)) ∧ ms[j - i]? = some { key := K0, val := V, born := s } ∧ es[j - i]? = some (a, v, s) ∧ Instr.sameBits 10000 K0 K = true
  | [], _, .nil, i, r, h => by
    simp only [findC, Option.some.injEq] at h; subst h
    rfl
  | (a, b, s) :: es, _, .cons (k := A) (v := B) (ms := ms) ha hb he, i, r, h => by
    have hcK : ceqK P kt k a = ceq P 40 kt k a := by unfold ceqK; rw [hw]
    unfold findC at h
    rw [hcK] at h
    split at h
    · rename_i hc
      obtain ⟨d', h1, h2, h3⟩ := same_now hk hK ha hc
      obtain rfl : d = d' := by rw [hd] at h1; cases h1; rfl
      simp only [Option.some.injEq] at h; subst h
      exact ⟨B, A, a, hb, ha, Nat.le_refl _, by simp [Instr.findNow, h2], by simp, by simp, h3 rfl⟩
    · rename_i hc
      obtain ⟨d', h1, h2, h3⟩ := same_now hk hK ha hc
      obtain rfl : d = d' := by rw [hd] at h1; cases h1; rfl
      have := find_now hk hw hK hd he (i + 1) r h
      cases r with
      | none => simpa [Instr.findNow, h2] using this
      | some q =>
        obtain ⟨j, v, s'⟩ := q
        obtain ⟨V, K0, a0, q1, q2, q3, q4, q5, q6, q7⟩ := this
        refine ⟨V, K0, a0, q1, q2, by omega, by simpa [Instr.findNow, h2] using q4, ?_, ?_, q7⟩
        · rw [show j - i = (j - (i + 1)) + 1 by omega]; simpa using q5
        · rw [show j - i = (j - (i + 1)) + 1 by omega]; simpa using q6
    · cases h
/-- The same: keys that are arrays or structs. -/
theorem find_wide {kt : TypeId} (hw : wideKey P kt = true) {k : CV} {K : Value} (hk : keyL P kt k = true) (hK : den e k = some K) (w : World) : ∀ {es : List (CV × CV × Nat)} {ms : List MapEntry}, EntsOk e es ms → ∀ (i : Nat) (r : Option (Nat × CV × Nat)), findC P kt k es i = some r →
    match r with
    | none => (Instr.findAsking kt K ms i).run P w = .ok none w
    | some (j, v, s) => ∃ V K0 a, den e v = some V ∧ den e a = some K0 ∧ i ≤ j ∧ (Instr.findAsking kt K ms i).run P w = .ok (some (j, V)) w ∧ ms[j - i]? = some { key := K0, val := V, born := s } ∧ es[j - i]? = some (a, v, s) ∧ Instr.sameBits 10000 K0 K = true
  | [], _, .nil, i, r, h => by
    simp only [findC, Option.some.injEq] at h; subst h
    simp [Instr.findAsking]
  | (a, b, s) :: es, _, .cons (k := A) (v := B) (ms := ms) ha hb he, i, r, h => by
    obtain ⟨kt6, ktt, ktw⟩ := wide_cases hw
    have hcK : ceqK P kt k a = (match keyL P kt a with | true => some (cvEq k a) | false => none) := by unfold ceqK; simp only [hw]; cases keyL P kt a <;> rfl
    unfold findC at h
    rw [hcK] at h
    cases hla : keyL P kt a with
    | false => rw [hla] at h; cases h
    | true =>
      rw [hla] at h
      obtain ⟨cs, vs, L, rfl, hv, rfl, hL, hf⟩ := keyL_spec hw hk hK
      obtain ⟨cs2, vs2, L2, rfl, hv2, rfl, hL2, hf2⟩ := keyL_spec hw hla ha
      obtain ⟨q, hq, hiff⟩ := run_equalIn_deep 9994 6 kt kt6 w 8 8 _ _ L L2 hf hf2 (by simpa [Value.cells] using hL) (by simpa [Value.cells] using hL2)
      have hq' : (Op.equal kt (.agg vs.toArray) (.agg vs2.toArray)).run P w = .ok q w := hq
      have c1 := cells_of_lits 6 kt ktt _ _ _ hL
      have c2 := cells_of_lits 6 kt ktt _ _ _ hL2
      have heq : q = cvEq (.agg cs) (.agg cs2) := by
        rw [Bool.eq_iff_iff, hiff]
        constructor
        · intro hLL
          subst hLL
          rw [c1] at hv
          rw [c2] at hv2
          exact litV_eq hv hv2
        · intro hc
          have hvv := cvEqL_lit hv hv2 hc
          subst hvv
          rw [hL] at hL2
          exact Option.some.inj hL2
      cases hcv : cvEq (.agg cs) (.agg cs2) with
      | true =>
        rw [hcv] at h heq
        subst heq
        simp only [Option.some.injEq] at h; subst h
        refine ⟨B, _, .agg cs2, hb, ha, Nat.le_refl _, by simp [Instr.findAsking, hq'], by simp, by simp, ?_⟩
        have hvv := cvEqL_lit hv hv2 hcv
        subst hvv
        have h3 := (litV_den (e := e) hv).2
        simp only [Instr.sameBits, beq_self_eq_true, Bool.true_and, List.all_eq_true]
        intro p hp
        obtain ⟨i, hi, hp⟩ := List.mem_iff_getElem.1 hp
        simp only [List.getElem_zip] at hp
        subst hp
        exact h3 _ (by simp) _
      | false =>
        rw [hcv] at h heq
        subst heq
        have := find_wide hw hk hK w he (i + 1) r h
        cases r with
        | none => simpa [Instr.findAsking, hq'] using this
        | some q =>
          obtain ⟨j, v, s'⟩ := q
          obtain ⟨V, K0, a0, q1, q2, q3, q4, q5, q6, q7⟩ := this
          refine ⟨V, K0, a0, q1, q2, by omega, by simpa [Instr.findAsking, hq'] using q4, ?_, ?_, q7⟩
          · rw [show j - i = (j - (i + 1)) + 1 by omega]; simpa using q5
          · rw [show j - i = (j - (i + 1)) + 1 by omega]; simpa using q6
theorem find_ok {kt : TypeId} {k : CV} (hk : keyOk P kt k = true) {K : Value} (hK : den e k = some K) (w : World) {es : List (CV × CV × Nat)} {ms : List MapEntry} (he : EntsOk e es ms) (r : Option (Nat × CV × Nat)) (h : findC P kt k es 0 = some r) :
    match r with
    | none => (Instr.findKey kt K ms).run P w = .ok none w
    | some (j, v, s) => ∃ V K0 a, den e v = some V ∧ den e a = some K0 ∧ (Instr.findKey kt K ms).run P w = .ok (some (j, V)) w ∧ ms[j]? = some { key := K0, val := V, born := s } ∧ es[j]? = some (a, v, s) ∧ Instr.sameBits 10000 K0 K = true := by
  unfold keyOk at hk
  cases hw : wideKey P kt with
  | true =>
    rw [hw] at hk
    obtain ⟨_, _, h3⟩ := wide_cases hw
    obtain ⟨d, hd⟩ : ∃ d, P.underlying kt = some d := by
      cases hu : P.underlying kt with
      | none => rw [hu] at h3; cases h3
      | some d => exact ⟨d, rfl⟩
    have hrun : (Instr.findKey kt K ms).run P w = (Instr.findAsking kt K ms 0).run P w := by
      cases he with
      | nil => simp [Instr.findKey, run_under hd, Instr.findNow, Instr.findAsking]
      | cons ha hb he =>
        have hs : ∀ Y, Instr.sameNow d K Y = none := fun Y => by
          rw [hd] at h3
          cases d <;> simp at h3 <;> rfl
        simp [Instr.findKey, run_under hd, Instr.findNow, hs]
    have := find_wide hw hk hK w he 0 r h
    cases r with
    | none => rw [hrun]; exact this
    | some q =>
      obtain ⟨j, v, s'⟩ := q
      obtain ⟨V, K0, a0, q1, q2, _, q4, q5, q6, q7⟩ := this
      exact ⟨V, K0, a0, q1, q2, by rw [hrun]; exact q4, q5, q6, q7⟩
  | false =>
    rw [hw] at hk
    obtain ⟨d, hd⟩ : ∃ d, P.underlying kt = some d := by
      rcases keyS_cases hk with ⟨k, hu⟩ | hu | hu <;> exact ⟨_, hu⟩
    have := find_now hk hw hK hd he 0 r h
    cases r with
    | none => simp only at this; simp [Instr.findKey, run_under hd, this]
    | some q =>
      obtain ⟨j, v, s'⟩ := q
      obtain ⟨V, K0, a0, q1, q2, _, q4, q5, q6, q7⟩ := this
      exact ⟨V, K0, a0, q1, q2, by simp [Instr.findKey, run_under hd, q4], q5, q6, q7⟩

theorem cLookup_ok (hm : Mok e m w) {x k : CV} {X K : Value} (hx : den e x = some X) (hk : den e k = some K) (t : TypeId) (ok : Bool) : VOk P e w (cLookup P m t x k ok) (Instr.lookup t X K ok) := by
  unfold cLookup
  split
  · rename_i kt et hu
    split
    · rename_i z hko hz
      obtain ⟨i, zv, hi, hzz, hzd⟩ := zeroV_some hz
      split
      · rename_i es hes
        have hms : ∃ ms clock, EntsOk e es ms ∧ ((X = .map none ∧ ms = []) ∨ ∃ b, X = .map (some b) ∧ w.heap[b]? = some (.map ms.toArray clock)) := by
          unfold mapEs at hes
          split at hes
          · simp only [Option.some.injEq] at hes; subst hes
            simp only [den, Option.some.injEq] at hx
            exact ⟨[], 0, .nil, .inl ⟨hx.symm, rfl⟩⟩
          · split at hes
            · rename_i ho
              simp only [Option.some.injEq] at hes; subst hes
              obtain ⟨b, ms, h1, h2, h3⟩ := hm _ _ ho
              simp only [den, h1, Option.map_some, Option.some.injEq] at hx
              exact ⟨ms, _, h2, .inr ⟨b.blk, hx.symm, h3⟩⟩
            · cases hes
          · cases hes
        obtain ⟨ms, clock, he, hX⟩ := hms
        have hrun : ∀ (r : Option (Nat × Value)), (Instr.findKey kt K ms).run P w = .ok r w → (Instr.lookup t X K ok).run P w = .ok (match r with
            | some (_, v) => if ok then .tuple #[v, .bool true] else v
            | none => if ok then .tuple #[zv, .bool false] else zv) w := fun r e1 => by
          have e2 := run_zero hi hzz w
          have e3 := fun b => checkKey_ok hko hk b w
          rcases hX with ⟨rfl, rfl⟩ | ⟨b, rfl, hh⟩
          · cases r with
            | none => simp [Instr.lookup, run_under hu, e3, e1, e2]
            | some q => simp [Instr.lookup, run_under hu, e3, e1]
          · cases r with
            | none => simp [Instr.lookup, run_under hu, e3, e1, e2, getObj_map hh]
            | some q => simp [Instr.lookup, run_under hu, e3, e1, getObj_map hh]
        split
        · rename_i j v s hf
          obtain ⟨V, K0, a, h1, _, h4, _⟩ := find_ok hko hk w he _ hf
          refine ⟨if ok then .tuple #[V, .bool true] else V, ?_, hrun _ h4⟩
          cases ok <;> simp [den, denL, h1]
        · rename_i hf
          refine ⟨if ok then .tuple #[zv, .bool false] else zv, ?_, hrun _ (find_ok hko hk w he _ hf)⟩
          cases ok <;> simp [den, denL, hzd e]
        · trivial
      · trivial
    · trivial
  · trivial

theorem EntsOk.set {es : List (CV × CV × Nat)} {ms : List MapEntry} (h : EntsOk e es ms) : ∀ (i : Nat) {k v : CV} {s : Nat} {K V : Value}, den e k = some K → den e v = some V → EntsOk e (es.set i (k, v, s)) (ms.set i { key := K, val := V, born := s }) := by
  induction h with
  | nil => intro i k v s K V _ _; exact .nil
  | cons h1 h2 h3 ih =>
    intro i k v s K V hk hv
    cases i with
    | zero => exact .cons hk hv h3
    | succ i => exact .cons h1 h2 (ih i hk hv)
theorem EntsOk.snoc {es : List (CV × CV × Nat)} {ms : List MapEntry} (h : EntsOk e es ms) {k v : CV} {s : Nat} {K V : Value} (hk : den e k = some K) (hv : den e v = some V) : EntsOk e (es ++ [(k, v, s)]) (ms ++ [{ key := K, val := V, born := s }]) := by
  induction h with
  | nil => exact .cons hk hv .nil
  | cons h1 h2 _ ih => exact .cons h1 h2 ih

/-- A map is turned. -/
theorem Rel.setMap (h : Rel W0 e m w) {T : Nat} {es es' : List (CV × CV × Nat)} {c c' : Nat} (ho : m.get T = some (.map es c)) {b : Blk} (hb : e T = some b) {ms : List MapEntry} (he : EntsOk e es' ms) :
    Rel W0 e (m.put T (.map es' c')) { w with heap := w.heap.setIfInBounds b.blk (.map ms.toArray c') } := by
  obtain ⟨b', _, h1, _, h3⟩ := h.ok _ _ ho
  obtain rfl : b = b' := by rw [hb] at h1; cases h1; rfl
  have hlt := heap_lt h3
  refine h.put ho rfl rfl hb (fun k hk => ?_) (by simp) rfl rfl rfl ⟨b, ms, hb, he, ?_⟩
  · show (w.heap.setIfInBounds b.blk _)[k]? = _
    rw [Array.getElem?_setIfInBounds, if_neg (by omega)]
  · show (w.heap.setIfInBounds b.blk _)[b.blk]? = _
    rw [Array.getElem?_setIfInBounds, if_pos rfl, if_pos hlt]

theorem cMapUpdate_ok (h : Rel W0 e m w) {x k v : CV} {X K V : Value} (hx : den e x = some X) (hk : den e k = some K) (hv : den e v = some V) (t : TypeId) : SOk W0 P e m w (cMapUpdate P m t x k v) (Instr.mapUpdate t X K V) := by
  unfold cMapUpdate
  split
  · rename_i kt et tag hu
    split
    · rename_i es clock hko ho
      obtain ⟨b, ms, h1, h2, h3⟩ := h.ok _ _ ho
      simp only [den, h1, Option.map_some, Option.some.injEq] at hx
      subst hx
      have e3 := fun b => checkKey_ok hko hk b w
      split
      · rename_i j v0 s hf
        obtain ⟨V0, K0, a, q1, q2, e1, q5, q6, q7⟩ := find_ok hko hk w h2 _ hf
        have hlt : j < ms.length := (List.getElem?_eq_some_iff.1 q5).1
        refine ⟨rfl, _, h.setMap (c' := clock) ho h1 (h2.set j hk hv (s := s)), ?_⟩
        have hkey : ((ms.toArray[j]?).map (·.key)).getD K = K0 := by simp [q5]
        have hmod : ms.toArray.modify j (fun e => { e with key := K, val := V }) = (ms.set j { key := K, val := V, born := s }).toArray := by
          apply Array.ext_getElem?
          intro i
          rw [Array.getElem?_modify]
          by_cases hij : j = i
          · subst hij
            simp only [if_true, List.getElem?_toArray, q5, Option.map_some]
            simp [hlt]
          · simp [hij, List.getElem?_set]
        have hkeep : (Instr.keyThatStays K0 K).run P w = .ok K w := by simp [Instr.keyThatStays, q7]
        simp only [Instr.mapUpdate, Sem.run_bind, run_under hu, Result.andThen_ok, getObj_map h3, e3, e1, hkey, hkeep, hmod, setObj_map h3]
      · rename_i hf
        have e1 := find_ok hko hk w h2 _ hf
        refine ⟨rfl, _, h.setMap (c' := clock + 1) ho h1 (h2.snoc hk hv (s := clock)), ?_⟩
        simp only [Instr.mapUpdate, Sem.run_bind, run_under hu, Result.andThen_ok, getObj_map h3, e3, e1, setObj_map h3]
        simp
      · trivial
    · trivial
  · trivial

theorem cMapEntry_ok (h : Rel W0 e m w) {x k : CV} {X K : Value} (hx : den e x = some X) (hk : den e k = some K) (t : TypeId) : EOk W0 P e m w (cMapEntry P m t x k) (Instr.mapEntry t X K) := by
  unfold cMapEntry
  split
  · rename_i kt et tag hu
    split
    · rename_i es clock z hko ho hz
      obtain ⟨i0, zv, hi, hzz, hzd⟩ := zeroV_some hz
      obtain ⟨b, ms, h1, h2, h3⟩ := h.ok _ _ ho
      simp only [den, h1, Option.map_some, Option.some.injEq] at hx
      subst hx
      have e3 := fun b => checkKey_ok hko hk b w
      split
      · rename_i j v0 s hf
        obtain ⟨V0, K0, a, q1, q2, e1, q5, q6, q7⟩ := find_ok hko hk w h2 _ hf
        have hlt : j < ms.length := (List.getElem?_eq_some_iff.1 q5).1
        have hkey : ((ms.toArray[j]?).map (·.key)).getD K = K0 := by simp [q5]
        have hborn : ((ms.toArray[j]?).map (fun x => (x.born : Int))).getD 0 = (s : Int) := by simp [q5]
        have hmod : ms.toArray.modify j (fun e => { e with key := K }) = (ms.set j { key := K, val := V0, born := s }).toArray := by
          apply Array.ext_getElem?
          intro i
          rw [Array.getElem?_modify]
          by_cases hij : j = i
          · subst hij
            simp only [if_true, List.getElem?_toArray, q5, Option.map_some]
            simp [hlt]
          · simp [hij, List.getElem?_set]
        have hkeep : (Instr.keyThatStays K0 K).run P w = .ok K w := by simp [Instr.keyThatStays, q7]
        refine ⟨e, .tuple #[V0, .int .i64 s], _, Env.le.refl e, by simp [den, denL, q1], h.setMap (c' := clock) ho h1 (h2.set j hk q1 (s := s)), ?_⟩
        simp only [Instr.mapEntry, Sem.run_bind, run_under hu, Result.andThen_ok, getObj_map h3, e3, e1, hkey, hkeep, hmod, setObj_map h3, hborn]
        first | rfl | (simp only [hborn]; rfl)
      · rename_i hf
        have e1 := find_ok hko hk w h2 _ hf
        have e2 := run_zero hi hzz w
        refine ⟨e, .tuple #[zv, .int .i64 clock], _, Env.le.refl e, by simp [den, denL, hzd e], h.setMap (c' := clock + 1) ho h1 (h2.snoc hk (hzd e) (s := clock)), ?_⟩
        simp only [Instr.mapEntry, Sem.run_bind, run_under hu, Result.andThen_ok, getObj_map h3, e3, e1, e2, setObj_map h3]
        simp
        rfl
      · trivial
    · trivial
  · trivial
theorem born_ok {s : Nat} : ∀ {es : List (CV × CV × Nat)} {ms : List MapEntry}, EntsOk e es ms → ∀ {i j : Nat} {k : CV}, bornC s es i = some (j, k) → ∃ K V v, i ≤ j ∧ den e k = some K ∧ es[j - i]? = some (k, v, s) ∧ ms[j - i]? = some { key := K, val := V, born := s } ∧ (ms.findIdx? (fun e => (e.born : Int) == (s : Int))) = some (j - i)
  | [], _, .nil, i, j, k, h => by simp [bornC] at h
  | (a, b, s') :: es, _, .cons (k := A) (v := B) (ms := ms) ha hb he, i, j, k, h => by
    simp only [bornC] at h
    split at h
    · rename_i hq
      obtain rfl := Nat.eq_of_beq_eq_true hq
      simp only [Option.some.injEq, Prod.mk.injEq] at h
      obtain ⟨rfl, rfl⟩ := h
      exact ⟨A, B, b, Nat.le_refl _, ha, by simp, by simp, by simp [List.findIdx?_cons]⟩
    · rename_i hq
      have hne : ¬ s' = s := fun e => by rw [beqT e] at hq; cases hq
      obtain ⟨K, V, v, h1, h2, h3, h4, h5⟩ := born_ok he h
      refine ⟨K, V, v, by omega, h2, ?_, ?_, ?_⟩
      · rw [show j - i = (j - (i + 1)) + 1 by omega]; simpa using h3
      · rw [show j - i = (j - (i + 1)) + 1 by omega]; simpa using h4
      · rw [List.findIdx?_cons, if_neg (by simp; omega), h5, show j - i = (j - (i + 1)) + 1 by omega]; rfl
theorem cEntryStore_ok (h : Rel W0 e m w) {x s v : CV} {X S V : Value} (hx : den e x = some X) (hs : den e s = some S) (hv : den e v = some V) (t : TypeId) : SOk W0 P e m w (cEntryStore m x s v) (Instr.entryStore t X S V) := by
  unfold cEntryStore
  split
  · rename_i tag k0 n
    split
    · rename_i es clock ho
      obtain ⟨b, ms, h1, h2, h3⟩ := h.ok _ _ ho
      simp only [den, h1, Option.map_some, Option.some.injEq] at hx
      subst hx
      obtain rfl := den_int hs
      split
      · rename_i j key hf
        obtain ⟨K, V0, v0, _, q2, q3, q4, q5⟩ := born_ok h2 hf
        simp only [Nat.sub_zero] at q3 q4 q5
        have hlt : j < ms.length := (List.getElem?_eq_some_iff.1 q4).1
        have hmod : ms.toArray.modify j (fun e => { e with val := V }) = (ms.set j { key := K, val := V, born := n }).toArray := by
          apply Array.ext_getElem?
          intro i
          rw [Array.getElem?_modify]
          by_cases hij : j = i
          · subst hij
            simp only [if_true, List.getElem?_toArray, q4, Option.map_some]
            simp [hlt]
          · simp [hij, List.getElem?_set]
        refine ⟨rfl, _, h.setMap (c' := clock) ho h1 (h2.set j q2 hv (s := n)), ?_⟩
        have hfi : ms.toArray.findIdx? (fun e => (e.born : Int) == Int.ofNat n) = some j := by
          rw [List.findIdx?_toArray]; exact q5
        simp only [Instr.entryStore, Sem.run_bind, Result.andThen_ok, getObj_map h3, asIntOf, asInt, Sem.run_pure, hfi, hmod, setObj_map h3]
      · trivial
    · trivial
  · trivial

theorem cTypeAssert_ok {x : CV} {X : Value} (hx : den e x = some X) (xt a : TypeId) (ok : Bool) : VOk P e w (cTypeAssert P x a ok) (Instr.typeAssert X xt a ok) := by
  unfold cTypeAssert
  split
  · trivial
  · rename_i d hni hu
    split
    · rename_i t v z hz
      obtain ⟨i, zv, hi, hzz, hzd⟩ := zeroV_some hz
      simp only [den, Option.map_eq_some_iff] at hx
      obtain ⟨V, hV, rfl⟩ := hx
      have hne : ∀ ms, d ≠ .interface ms := fun ms h => hni ms h
      split
      · rename_i hta
        have hta := Nat.eq_of_beq_eq_true hta
        refine ⟨.tuple #[V, .bool true], by simp [den, denL, hV], ?_⟩
        cases d <;> first | exact absurd rfl (hne _) | simp [Instr.typeAssert, run_under hu, hta]
      · rename_i hta
        have hta := Nat.eq_of_beq_eq_true hta
        refine ⟨V, hV, ?_⟩
        cases d <;> first | exact absurd rfl (hne _) | simp [Instr.typeAssert, run_under hu, hta]
      · rename_i hta
        have hta : ¬ t = a := fun hq => by rw [beqT hq] at hta; cases hta
        refine ⟨.tuple #[zv, .bool false], by simp [den, denL, hzd e], ?_⟩
        have e2 := run_zero hi hzz w
        cases d <;> first | exact absurd rfl (hne _) | simp [Instr.typeAssert, run_under hu, hta, e2]
      · trivial
    · trivial
  · trivial

theorem bytesC_den {e : Env} : ∀ {l : List CV} {bs : List Nat} {vs : List Value}, bytesC l = some bs → denL e l = some vs → vs = (bs.map Int.ofNat).map (Value.int .u8)
  | [], bs, vs, h, hd => by
    simp only [bytesC, Option.some.injEq] at h; subst h
    simp only [denL, Option.some.injEq] at hd; subst hd; rfl
  | .int .u8 (.ofNat b) :: r, bs, vs, h, hd => by
    unfold bytesC at h
    split at h
    · rename_i l hl
      simp only [Option.some.injEq] at h; subst h
      obtain ⟨v, l2, h1, h2, rfl⟩ := denL_cons hd
      rw [bytesC_den hl h2, den_int h1]
      rfl
    · cases h

/-- An object has gone. -/
theorem Rel.kill (h : Rel W0 e m w) {T : Nat} {o : CO} {b : Blk} (hg : m.get T = some o) (hro : isRo o = false) (hb : e T = some b) {w' : World} (hw : ∀ k, k ≠ b.blk → w'.heap[k]? = w.heap[k]?)
    (hs : w'.heap.size = w.heap.size) (h1 : w'.os = w.os) (h2 : w'.tape = w.tape) (h3 : w'.output = w.output) : Rel W0 e (m.kill T) w' := by
  have hk : ∀ t o1, (m.kill T).get t = some o1 → m.get t = some o1 ∧ t ≠ T := fun t o1 ht => by
    rw [Mem.get_kill] at ht
    by_cases hq : t = T
    · rw [if_pos hq] at ht; cases ht
    · rw [if_neg hq] at ht; exact ⟨ht, hq⟩
  refine ⟨fun t o1 ht => ?_, fun t t' o1 o2 b1 b2 ht ht' => h.inj0 t t' o1 o2 b1 b2 (hk _ _ ht).1 (hk _ _ ht').1, fun t o1 b1 ht => h.own t o1 b1 (hk _ _ ht).1, fun t o1 b1 ht => h.rof t o1 b1 (hk _ _ ht).1, h.glb, h.dom,
    h.frm.trans ⟨h1, h2, h3, Nat.le_of_eq hs.symm, fun k hk2 => hw k (fun hq => h.own T o b hg hro hb (hq ▸ hk2))⟩, h.zlt, h.bar⟩
  obtain ⟨h4, h5⟩ := hk t o1 ht
  exact objOk_mono (Env.le.refl e) (fun b1 hb1 => hw _ (fun hbb => h5 (h.inj t T o1 o b1 b h4 hg hro hb1 hb hbb))) (h.ok t o1 h4)

theorem foldl_bytes (bs : List Nat) : ∀ (acc : ByteArray), ((bs.map Int.ofNat).foldl (fun r n => r.push (UInt8.ofNat n.toNat)) acc) = ⟨acc.data ++ (bs.map UInt8.ofNat).toArray⟩ := by
  induction bs with
  | nil => intro acc; simp
  | cons b bs ih =>
    intro acc
    simp only [List.map_cons, List.foldl_cons, ih]
    simp [ByteArray.push]
theorem toStr_ok (h : Rel W0 e m w) {x : CV} {V : Value} (hx : den e x = some V) {s d el : TypeId} (h1 : P.underlying s = some (.slice el)) (h2 : P.underlying d = some .string) (h3 : P.underlying el = some (.int .u8)) : VOk P e w (toStr m x) (convert s d V) := by
  unfold toStr
  split
  · rename_i n l hl
    split
    · rename_i bs hbs
      obtain ⟨us, k1, k2, k3, k4⟩ := elems_ok h.ok hl hx
      have hus := bytesC_den hbs k1
      refine ⟨_, rfl, ?_⟩
      rcases k4 with ⟨rfl, rfl, rfl⟩ | ⟨ad, c, rfl, hc⟩
      · have h0 : us = [] := by cases us with | nil => rfl | cons a b => simp at k2
        subst h0
        have hb : bs = [] := by cases bs with | nil => rfl | cons a b => simp at hus
        subst hb
        simp [convert, run_under h1, run_under h2, run_under h3, Conv.bytesToString]
        rfl
      · rw [run_convert_bytes_string w s d el _ _ _ h1 h3 h2]
        have hld : (loadCells ad n).run P w = .ok ((bs.map Int.ofNat).map (Value.int .u8)).toArray w := by
          rw [← hus]
          have := run_loadCells_list (P := P) w ad us hc
          rwa [show us.length = n by omega] at this
        rw [run_bytesToString w ad n c _ hld, foldl_bytes]
        simp
    · trivial
  · trivial

theorem cUnsafeStr_ok (h : Rel W0 e m w) {x y : CV} {X Y : Value} (hx : den e x = some X) (hy : den e y = some Y) (pt it ty : TypeId) : EOk W0 P e m w (cUnsafeStr P m pt x y) (Builtin.unsafeString_ #[pt, it] ty #[X, Y]) := by
  unfold cUnsafeStr
  split
  · rename_i t n
    obtain ⟨b, hb, rfl⟩ := den_ptr hx
    obtain rfl := den_int hy
    split
    · rename_i el hp
      split
      · rename_i hc
        simp only [Bool.and_eq_true] at hc
        have hc1 := Nat.eq_of_beq_eq_true hc.1
        have hc2 := Nat.le_of_ble_eq_true hc.2
        unfold usStr
        split
        · rename_i ty' cs ho
          split
          · rename_i l hty ht
            have hty := Nat.eq_of_beq_eq_true hty
            subst hty
            split
            · rename_i bs hbs
              split
              · rename_i h256
                obtain ⟨b', vs, h1, h2, h3, h4, h5⟩ := h.ok _ _ ho
                obtain rfl : b = b' := by rw [hb] at h1; cases h1; rfl
                obtain ⟨q1, q2⟩ := denL_part h3 ht
                rw [List.drop_zero] at q2
                have hbytes := bytesC_den hbs q2
                have hbl : bs.length = n + 1 := by
                  have e1 := congrArg List.length hbytes
                  simp only [List.length_take, List.length_map] at e1
                  omega
                let l8 := bs.map UInt8.ofNat
                have hsh : w.shape? b.blk = some (ty', vs.length) := by simp [World.shape?, h5]
                have hb255 : ∀ (j : Nat) (x : UInt8), l8[j]? = some x → vs[j]? = some (Value.int .u8 x.toNat) := fun j x hj => by
                  simp only [l8, List.getElem?_map, Option.map_eq_some_iff] at hj
                  obtain ⟨b0, hb0, rfl⟩ := hj
                  have hlt0 : j < n + 1 := by rw [← hbl]; exact (List.getElem?_eq_some_iff.1 hb0).1
                  have e3 := congrArg (·[j]?) hbytes
                  simp only [List.getElem?_take, if_pos hlt0, List.getElem?_map, hb0, Option.map_some] at e3
                  rw [e3]
                  have h9 := List.all_eq_true.1 h256 b0 (List.mem_of_getElem? hb0)
                  have h10 : b0 < 256 := by simpa [Nat.blt_eq] using h9
                  have h11 : (UInt8.ofNat b0).toNat = b0 := by simp; omega
                  rw [h11]
                  rfl
                have hrun := run_unsafeString_row (P := P) w pt it ty ty' hp hc1 b.blk vs.length hsh l8 (by
                  intro hq
                  have := congrArg List.length hq
                  simp only [l8, List.length_map, List.length_nil] at this
                  omega) (by simp only [l8, List.length_map]; omega) (by simp only [l8, List.length_map]; omega) (fun j x hj => by
                    have h6 := hb255 j x hj
                    have : (⟨b.blk, 0, none⟩ : Addr).add j = ⟨b.blk, j, none⟩ := by unfold Addr.add; split <;> simp_all
                    rw [this, cell_of_heap h5]
                    simpa using h6)
                have hlt := heap_lt h5
                refine ⟨e, .string ⟨l8.toArray⟩, w.freeze ⟨b.blk, 0, none⟩ l8.length, Env.le.refl e, rfl, h.kill ho rfl hb (fun k hk => ?_) ?_ ?_ ?_ ?_, ?_⟩
                · have h0 : ¬ (l8.length = 0) := by simp only [l8, List.length_map]; omega
                  simp only [World.freeze, if_neg h0, Array.getElem?_modify]
                  rw [if_neg (Ne.symm hk)]
                · unfold World.freeze; split <;> simp
                · unfold World.freeze; split <;> rfl
                · unfold World.freeze; split <;> rfl
                · unfold World.freeze; split <;> rfl
                · have e1 : (⟨b.blk, b.off + 0, none⟩ : Addr) = ⟨b.blk, 0, none⟩ := by rw [h2]
                  have e2 : (Value.int .i64 ((n + 1 : Nat) : Int)) = .int .i64 (l8.length : Int) := by
                    simp only [l8, List.length_map, hbl]
                  rw [e1]
                  show (Builtin.unsafeString_ #[pt, it] ty #[.pointer (some ⟨b.blk, 0, none⟩), .int .i64 ((n + 1 : Nat) : Int)]).run P w = _
                  rw [e2]
                  exact hrun
              · trivial
            · trivial
          · trivial
        · rename_i ty' sz' cs ho
          split
          · rename_i l hty ht
            have hty := Nat.eq_of_beq_eq_true hty
            subst hty
            split
            · rename_i bs hbs
              split
              · rename_i h256
                obtain ⟨b', vs, pre, suf, h1, h2, h3, h4, h5, h6, ⟨fr, h7, h7'⟩, h8, h9⟩ := h.ok _ _ ho
                obtain rfl : b = b' := by rw [hb] at h1; cases h1; rfl
                obtain ⟨q1, q2⟩ := denL_part h5 ht
                rw [List.drop_zero] at q2
                have hbytes := bytesC_den hbs q2
                have hvl : cs.length = vs.length := (denL_length h5).symm
                have hq1 : 0 + (n + 1) ≤ cs.length := (takeB_some ht).1
                have hbl : bs.length = n + 1 := by
                  have e1 := congrArg List.length hbytes
                  simp only [List.length_take, List.length_map] at e1
                  omega
                let l8 := bs.map UInt8.ofNat
                have hl8 : l8.length = n + 1 := by simp only [l8, List.length_map]; exact hbl
                have hsh : w.shape? b.blk = some (ty', (pre ++ vs ++ suf).length) := by simp [World.shape?, h7]
                have hb255 : ∀ (j : Nat) (x : UInt8), l8[j]? = some x → vs[j]? = some (Value.int .u8 x.toNat) := fun j x hj => by
                  simp only [l8, List.getElem?_map, Option.map_eq_some_iff] at hj
                  obtain ⟨b0, hb0, rfl⟩ := hj
                  have hlt0 : j < n + 1 := by rw [← hbl]; exact (List.getElem?_eq_some_iff.1 hb0).1
                  have e3 := congrArg (·[j]?) hbytes
                  simp only [List.getElem?_take, if_pos hlt0, List.getElem?_map, hb0, Option.map_some] at e3
                  rw [e3]
                  have h9 := List.all_eq_true.1 h256 b0 (List.mem_of_getElem? hb0)
                  have h10 : b0 < 256 := by simpa [Nat.blt_eq] using h9
                  have h11 : (UInt8.ofNat b0).toNat = b0 := by simp; omega
                  rw [h11]
                  rfl
                have hrun := run_unsafeString_at (P := P) (w := w) pt it ty ty' hp hc1 b.blk b.off (pre ++ vs ++ suf).length hsh l8 (by
                  intro hq
                  rw [hq] at hl8
                  simp at hl8) (by
                    simp only [List.length_append, h4]; omega) (by omega) (fun j x hj => by
                    have h6 := hb255 j x hj
                    rw [Addr.add_lit, cell_of_heap h7]
                    rw [List.getElem?_toArray, List.append_assoc, List.getElem?_append_right (by omega), h4, Nat.add_sub_cancel_left]
                    rw [List.getElem?_append_left (List.getElem?_eq_some_iff.1 h6).1]
                    exact h6)
                have hlt := heap_lt h7
                refine ⟨e, .string ⟨l8.toArray⟩, w.freeze ⟨b.blk, b.off, none⟩ l8.length, Env.le.refl e, rfl, h.kill ho rfl hb (fun k hk => ?_) ?_ ?_ ?_ ?_, ?_⟩
                · have h0 : ¬ (l8.length = 0) := by omega
                  simp only [World.freeze, if_neg h0, Array.getElem?_modify]
                  rw [if_neg (Ne.symm hk)]
                · unfold World.freeze; split <;> simp
                · unfold World.freeze; split <;> rfl
                · unfold World.freeze; split <;> rfl
                · unfold World.freeze; split <;> rfl
                · have e2 : (Value.int .i64 ((n + 1 : Nat) : Int)) = .int .i64 (l8.length : Int) := by rw [hl8]
                  show (Builtin.unsafeString_ #[pt, it] ty #[.pointer (some ⟨b.blk, b.off + 0, none⟩), .int .i64 ((n + 1 : Nat) : Int)]).run P w = _
                  rw [e2]
                  exact hrun
              · trivial
            · trivial
          · trivial
        · trivial
      · trivial
    · trivial
  · simp only [den, Option.some.injEq] at hx; subst hx
    obtain rfl := den_int hy
    exact ⟨_, rfl, Lib.run_unsafeString_none (P := P) w pt it ty none⟩
  · trivial

theorem cConv_ok (h : Rel W0 e m w) {T : Nat} (hT : e T = none ∧ ¬ W0.Z T) {x : CV} {V : Value} (hx : den e x = some V) (s d : TypeId) : EOk W0 P e m w (cConv P T m s d x) (convert s d V) := by
  unfold cConv
  split
  · rename_i h1 h2
    obtain rfl := den_int hx
    exact ⟨_, rfl, by simp [convert, run_under h1, run_under h2, Conv.intToInt, wrapC_eq]⟩
  · rename_i h1 h2
    obtain rfl := den_str hx
    exact ⟨_, rfl, by simp [convert, run_under h1, run_under h2]⟩
  · rename_i el str h1 h2
    obtain rfl := den_str hx
    split
    · rename_i h3 hlen
      have hlen := Nat.le_of_ble_eq_true hlen
      generalize hB : (⟨(str.map UInt8.ofNat).toArray⟩ : ByteArray) = B
      have hsize : B.size = str.length := by rw [← hB]; exact size_str str
      have hdata : B.data = (str.map UInt8.ofNat).toArray := by rw [← hB]
      let q : Question := .appendCap B.size 0 el
      let cap := q.cut (w.tape w.drawn q)
      have hcap : str.length ≤ cap ∧ cap < 2 ^ 63 := by
        show str.length ≤ B.size + w.tape w.drawn q % (2 ^ 63 - B.size) ∧ B.size + w.tape w.drawn q % (2 ^ 63 - B.size) < 2 ^ 63
        rw [hsize]
        have := Nat.mod_lt (w.tape w.drawn q) (show 0 < 2 ^ 63 - str.length by omega)
        omega
      let row : List Value := ((str.map UInt8.ofNat).map fun b => Value.int .u8 b.toNat) ++ List.replicate (cap - str.length) (.int .u8 0)
      have hrl : row.length = cap := by simp [row]; omega
      let w1 : World := { w with drawn := w.drawn + 1 }
      let w2 : World := w1.alloc (.cells row.toArray el (0, 0))
      let w3 : World := w2.freeze { block := w.heap.size, off := cap } 1
      have hw3 : ∀ k, w3.heap[k]? = if k = w.heap.size then some (.cells row.toArray el (cap, cap + 1)) else w.heap[k]? := fun k => by
        show (w2.freeze _ 1).heap[k]? = _
        have h0 : ¬ (1 = 0) := by omega
        simp only [World.freeze, if_neg h0, Array.getElem?_modify]
        have h5 : w2.heap[k]? = if k = w.heap.size then some (.cells row.toArray el (0, 0)) else w.heap[k]? := heap_push w1 _ k
        by_cases hk : w.heap.size = k
        · rw [if_pos hk, h5, if_pos hk.symm, if_pos hk.symm]
          simp
        · rw [if_neg hk, h5, if_neg (Ne.symm hk), if_neg (Ne.symm hk)]
      have hsz3 : w3.heap.size = w.heap.size + 1 := by
        show (w2.freeze _ 1).heap.size = _
        have h0 : ¬ (1 = 0) := by omega
        simp only [World.freeze, if_neg h0, Array.size_modify]
        exact Array.size_push ..
      have hfs := @Rel.frF _ _ _ _ h
      obtain ⟨f1, f2⟩ := h.fresh hT (m1 := m) (fun _ _ h => h) rfl (b := ⟨w.heap.size, 0, cap, 1⟩) (w' := w3) (o := .opn el 1 (str.map fun b => .int .u8 (.ofNat (b % 256))))
        (fun t o1 b' ht hb' => by
          obtain ⟨bb, x2, k1, k2⟩ := objOk_env (h.ok t o1 ht)
          have hbe : bb = b' := by rw [k1] at hb'; exact Option.some.inj hb'
          rw [hbe] at k2
          have hlt := heap_lt k2
          have hne : b'.blk ≠ w.heap.size := by omega
          exact ⟨hne, by rw [hw3, if_neg hne]⟩)
        (h.nF (Nat.le_refl _))
        ⟨rfl, rfl, rfl, by rw [hsz3]; omega, fun k hk => by have := h.frF hk; rw [hw3, if_neg (by omega)]⟩
        ⟨_, (str.map UInt8.ofNat).map fun b => Value.int .u8 b.toNat, [], List.replicate (cap - str.length) (.int .u8 0), Env.ext_same .., rfl, by omega, rfl, bytes_den _ str, bytes_one str,
          ⟨(cap, cap + 1), by rw [hw3]; simp [row], fun i hi hq => by
            have h6 : i < row.length := by simpa [row] using hi
            rw [hrl] at h6
            have := hq.1
            simp only at this
            omega⟩, by
          show row.length = cap * 1
          rw [hrl]; omega, by show cap ≤ maxLen; simp only [maxLen]; omega⟩
      refine ⟨_, .slice (some ⟨w.heap.size, 0, none⟩) str.length cap, w3, f1, ?_, f2, ?_⟩
      · show ((e.ext T _) T).map _ = _
        rw [Env.ext_same]; simp
      · have hforced : q.forced = false := rfl
        have hshape : w2.shape? w.heap.size = some (el, cap) := by
          have h5 : w2.heap[w.heap.size]? = some (.cells row.toArray el (0, 0)) := by
            have := heap_push w1 (.cells row.toArray el (0, 0)) w.heap.size
            rw [this]; exact if_pos rfl
          simp only [World.shape?, h5]
          simp [hrl]
        have hrow : ((str.map UInt8.ofNat).toArray.map fun b => Value.int .u8 b.toNat) ++ Array.replicate (cap - str.length) (.int .u8 0) = row.toArray := by simp [row]
        have e1 : (convert s d (.string B)).run P w = (Conv.stringToBytes el B).run P w := by
          simp [convert, run_under h1, run_under h2, run_under h3]
        have hc : (choose q).run P w = .ok cap w1 := rfl
        have hn : (newRow el row.toArray).run P w1 = .ok ⟨w.heap.size, 0, none⟩ w2 := by
          simp only [newRow, Sem.run_bind, run_newObj, Result.andThen_ok, Sem.run_pure]
          rfl
        have hmk : (markStringish ⟨w.heap.size, 0, none⟩).run P w2 = .ok () w3 := by
          have h7 : (shape w.heap.size).run P w2 = .ok (some (el, cap)) w2 := by
            show Result.ok (w2.shape? w.heap.size) w2 = _
            rw [hshape]
          simp only [markStringish, Sem.run_bind, h7, Result.andThen_ok]
          rfl
        rw [e1]
        unfold Conv.stringToBytes
        simp only [Sem.run_bind]
        rw [show (choose (Question.appendCap B.size 0 el)).run P w = .ok cap w1 from hc]
        simp only [Result.andThen_ok, hdata, hsize, Sem.run_bind]
        rw [hrow, hn]
        simp only [Result.andThen_ok, hmk, Sem.run_bind, Sem.run_pure]
    · trivial
  · rename_i el h1 h2 _
    split
    · rename_i h3
      exact VOk.E (toStr_ok h hx h1 h2 h3)
    · trivial
  · rename_i n _ h1 h2
    obtain rfl := den_int hx
    split
    · rename_i hn
      have hn : n < 128 := Nat.le_of_ble_eq_true hn
      refine ⟨_, rfl, ?_⟩
      rw [run_convert_int_string w s d _ _ (by rw [h1]; rfl) h2]
      have hv : Utf8.valid (Int.ofNat n) = true := by simp [Utf8.valid]; omega
      have ht : (Int.ofNat n).toNat = n := rfl
      simp only [Utf8.encode, hv, if_true, ht, if_pos hn]
      rfl
    · trivial
  · rename_i el tag off h1 h2
    unfold toUnsafe
    split
    · rename_i i ty cs hi ho
      split
      · rename_i hc
        simp only [Bool.and_eq_true] at hc
        have g1 : 0 < i.size := by simpa [Nat.blt_eq] using hc.1
        have g2 : off < cs.length := by simpa [Nat.blt_eq] using hc.2
        obtain ⟨b, l, k1, k2, k3, k4, k5⟩ := h.ok _ _ ho
        simp only [den, k1, Option.map_some, Option.some.injEq] at hx
        subst hx
        refine ⟨.pointer (some ⟨b.blk, b.off + off, none⟩), by simp only [den, k1, Option.map_some], ?_⟩
        exact Lib.run_to_unsafe (P := P) w ⟨b.blk, b.off + off, none⟩ h1 h2 hi (by omega) (e := ty) (cells := l.length) (by simp [World.shape?, k5]) (by
          show b.off + off < l.length
          rw [denL_length k3]; omega)
      · trivial
    · trivial
  · rename_i el tag off h1 h2
    unfold fromUnsafe
    split
    · rename_i i ty cs hi ho
      split
      · rename_i hc
        obtain ⟨b, l, k1, k2, k3, k4, k5⟩ := h.ok _ _ ho
        simp only [den, k1, Option.map_some, Option.some.injEq] at hx
        subst hx
        refine ⟨.pointer (some ⟨b.blk, b.off + off, none⟩), by simp only [den, k1, Option.map_some], ?_⟩
        exact Lib.run_from_unsafe (P := P) w ⟨b.blk, b.off + off, none⟩ h1 h2 hi (e := ty) (cells := l.length) (by simp [World.shape?, k5]) (by
          show liesAt P P.depth ty (l.length / P.cellsOf ty) (b.off + off) el 1 = true
          rw [denL_length k3, k2, Nat.zero_add]; exact hc)
      · trivial
    · trivial
  · trivial
end Go.Cx
