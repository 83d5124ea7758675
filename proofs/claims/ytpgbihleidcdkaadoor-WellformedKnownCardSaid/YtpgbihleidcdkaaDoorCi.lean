/-
  A concrete evaluator for Go's IR. Part i: make, copy, maps, type assertions.
-/
import Derived.Test.YtpgbihleidcdkaaDoorCh
import Derived.Laws.BytesString
import Derived.Laws.MakeOwn
set_option linter.unusedSimpArgs false
set_option linter.unusedVariables false
namespace Go.Cx
open Go Go.RowKit
variable {e : Env} {P : Program} {w : World} {m : Mem} {W0 : Bas}

theorem all_rep {z : List CV} (h : z.all one = true) : ∀ n, (rep z n).all one = true
  | 0 => rfl
  | n + 1 => all_append h (all_rep h n)

theorem cMakeSlice_ok (h : Rel W0 e m w) {T : Nat} (hT : e T = none ∧ ¬ W0.Z T) {l c : CV} {L C : Value} (hl : den e l = some L) (hc : den e c = some C) (t : TypeId) : EOk W0 P e m w (cMakeSlice P T m t l c) (Instr.makeSlice t L C) := by
  unfold cMakeSlice
  split
  · rename_i elem l c hu
    obtain rfl := den_int hl
    obtain rfl := den_int hc
    split
    · rename_i i z hi hz
      obtain ⟨iz, zv, hiz, hzz, hzd⟩ := zeroC_some hz
      obtain rfl : i = iz := by rw [hi] at hiz; cases hiz; rfl
      split
      · rename_i hcond
        simp only [Bool.and_eq_true] at hcond
        have g1 : 0 < i.size := by simpa [Nat.blt_eq] using hcond.1
        have g2 : l ≤ c := Nat.le_of_ble_eq_true hcond.2.1
        have g3 : c ≤ 100000 := Nat.le_of_ble_eq_true hcond.2.2.1
        have g5 : c * i.bytes ≤ 1000000000 := Nat.le_of_ble_eq_true hcond.2.2.2.1
        have g4 : z.length = i.size := Nat.eq_of_beq_eq_true hcond.2.2.2.2.1
        have g6 : z.all one = true := hcond.2.2.2.2.2
        have g7 : zv.cells.size = i.size := by rw [← g4, ← denL_length (hzd e)]; simp
        have hrow := rep_den (hzd e) c
        obtain ⟨h1, h2⟩ := h.alloc hT (o := .cells elem (rep z c)) (x := .cells (repV zv.cells.toList c).toArray elem (0, 0)) ⟨w.heap.size, 0, 0, 0⟩ rfl
          ⟨_, _, Env.ext_same .., rfl, denL_mono (Env.ext_le hT.1 _) _ _ hrow, all_rep g6 c, by rw [heap_push, if_pos rfl]⟩
        refine ⟨_, .slice (some ⟨w.heap.size, 0, none⟩) l c, _, h1, ?_, h2, ?_⟩
        · show ((e.ext T _) T).map _ = _
          rw [Env.ext_same]; rfl
        · have hr := range_rep zv.cells c (by omega)
          have h3 : i.bytes * c ≤ 1000000000 := by rw [Nat.mul_comm]; exact g5
          have h4 : ((i.bytes : Int) * (c : Int)) ≤ 1000000000 := by
            have h := Int.ofNat_le.2 h3
            rw [Int.natCast_mul] at h
            exact h
          have hmk := run_make (P := P) w t elem i zv hu hi hzz .i64 .i64 (l : Int) (c : Int) (by omega) (by omega) (by omega) (by omega)
          have hm2 : madeCells zv.cells (c * i.size) = (repV zv.cells.toList c).toArray := by
            unfold madeCells; rw [← g7]; exact hr
          simp only [Int.toNat_natCast, hm2] at hmk
          exact hmk
      · trivial
    · trivial
  · trivial

theorem cCopy_ok (h : Rel W0 e m w) {d s : CV} {D S : Value} (hd : den e d = some D) (hs : den e s = some S) (T T2 ty : TypeId) :
    EOk W0 P e m w (cCopy P m T T2 d s) (Builtin.copy_ #[T, T2] ty #[D, S]) := by
  unfold cCopy
  split
  · rename_i elem hu
    split
    · rename_i inf hi
      split
      · rename_i ns src nd dl hsrc hdst
        obtain ⟨us, u1, u2, u3, u4⟩ := elems_ok h.ok hsrc hs
        obtain ⟨vs, v1, v2, v3, v4⟩ := elems_ok h.ok hdst hd
        have hlen : (Builtin.lenOf S).run P w = .ok ns w := by
          rcases u4 with ⟨_, rfl, rfl⟩ | ⟨ad, c, rfl, _⟩ <;> simp [Builtin.lenOf]
        have hfirst : ∀ k, k ≤ ns → (Builtin.firstCells inf.size k S).run P w = .ok (us.take (k * inf.size)).toArray w := fun k hk => by
          rcases u4 with ⟨_, rfl, h0⟩ | ⟨ad, c, rfl, hc⟩
          · have : us = [] := List.eq_nil_of_length_eq_zero (by rw [u2, h0]; simp)
            simp [Builtin.firstCells, this]
          · have hl : (us.take (k * inf.size)).length = k * inf.size := by
              rw [List.length_take, u2]; exact Nat.min_eq_left (Nat.mul_le_mul_right _ hk)
            exact run_first inf.size k ad ns c _ hl (fun j u hj => hc j u (by
              rw [List.getElem?_take] at hj
              split at hj
              · exact hj
              · cases hj))
        have stored : ∀ (b : Blk) (off c : Nat) (m' : Mem) (w' : World), D = .slice (some ⟨b.blk, b.off + off, none⟩) nd c → (storeCells ⟨b.blk, b.off + off, none⟩ (us.take ((min ns nd) * inf.size))).run P w = .ok () w' →
            (Builtin.copy_ #[T, T2] ty #[D, S]).run P w = .ok (.int .i64 ((min ns nd : Nat) : Int)) w' := fun b off c m' w' hD hst => by
          subst hD
          have hf := hfirst (min ns nd) (Nat.min_le_left ..)
          have hf' : (Builtin.firstCells inf.size (Nat.min ns nd) S).run P w = .ok (us.take ((Nat.min ns nd) * inf.size)).toArray w := hf
          have hst' : (storeCells ⟨b.blk, b.off + off, none⟩ (us.take ((Nat.min ns nd) * inf.size))).run P w = .ok () w' := hst
          simp [Builtin.copy_, run_under hu, run_size hi, hlen, hf', hst', goInt]
        split
        · simp only [den, Option.some.injEq] at hd; subst hd
          have hf' := hfirst 0 (Nat.zero_le _)
          exact ⟨_, rfl, by simp [Builtin.copy_, run_under hu, run_size hi, hlen, hf', goInt]⟩
        · rename_i t off n c
          split
          · rename_i m' hw
            obtain ⟨b, w', k1, k2, k3⟩ := wr_ok (P := P) h hw (denL_take _ u1)
            have hn : n = nd := by
              unfold elems at hdst
              simp only at hdst
              split at hdst
              · split at hdst
                · simp only [Option.some.injEq, Prod.mk.injEq] at hdst; exact hdst.1
                · cases hdst
              · split at hdst
                · simp only [Option.some.injEq, Prod.mk.injEq] at hdst; exact hdst.1
                · cases hdst
              · split at hdst
                · simp only [Option.some.injEq, Prod.mk.injEq] at hdst; exact hdst.1
                · cases hdst
              · cases hdst
            simp only [den, k1, Option.map_some, Option.some.injEq] at hd
            exact ⟨e, _, w', Env.le.refl e, rfl, k3, stored b off c m' w' (by rw [← hd, hn]) k2⟩
          · trivial
        · rename_i t k n
          split
          · rename_i m' hw
            obtain ⟨b, w', k1, k2, k3⟩ := wr_ok (P := P) h hw (denL_take _ u1)
            have hn : n = nd ∧ b.sz = inf.size := by
              unfold elems at hdst
              simp only at hdst
              split at hdst
              · rename_i ty' sz' cs' ho
                split at hdst
                · rename_i hq
                  split at hdst
                  · simp only [Option.some.injEq, Prod.mk.injEq] at hdst
                    obtain ⟨b', _, _, _, o1, o2, _⟩ := h.ok _ _ ho
                    obtain rfl : b = b' := by rw [k1] at o1; cases o1; rfl
                    exact ⟨hdst.1, by rw [o2, Nat.eq_of_beq_eq_true hq]⟩
                  · cases hdst
                · cases hdst
              · cases hdst
            simp only [den, k1, Option.map_some, Option.some.injEq] at hd
            exact ⟨e, _, w', Env.le.refl e, rfl, k3, stored b (k * inf.size) (b.cap - k) m' w' (by rw [← hd, hn.1, hn.2]) k2⟩
          · trivial
        · trivial
      · trivial
    · trivial
  · trivial

/-! ### maps -/

theorem getObj_map' {b : Nat} {es : Array MapEntry} {c : Nat} (h : w.heap[b]? = some (.map es c)) : (getObj b).run P w = .ok (.map es c) w := getObj_map h
theorem setObj_map {b : Nat} {es : Array MapEntry} {c : Nat} (h : w.heap[b]? = some (.map es c)) (o : Obj) : (setObj b o).run P w = .ok () { w with heap := w.heap.setIfInBounds b o } := by simp [setObj, Sem.run, h]

theorem keyOk_cases {t : TypeId} (h : keyOk P t = true) : (∃ k, P.underlying t = some (.int k)) ∨ P.underlying t = some .string ∨ P.underlying t = some .bool := by
  unfold keyOk at h
  split at h
  · exact .inl ⟨_, by assumption⟩
  · exact .inr (.inl (by assumption))
  · exact .inr (.inr (by assumption))
  · cases h

theorem checkKey_ok {t : TypeId} (h : keyOk P t = true) (b : Bool) (v : Value) (w : World) : (Instr.checkKey b 10000 t v).run P w = .ok () w := by
  rw [show (10000 : Nat) = 9999 + 1 from rfl, Instr.checkKey]
  rcases keyOk_cases h with ⟨k, hu⟩ | hu | hu <;> simp [run_under hu]

theorem same_now {kt : TypeId} (h : keyOk P kt = true) {x y : CV} {X Y : Value} (hx : den e x = some X) (hy : den e y = some Y) {b : Bool} (hc : ceq P 40 kt x y = some b) :
    ∃ d, P.underlying kt = some d ∧ Instr.sameNow d X Y = some b ∧ (b = true → Instr.sameBits 10000 Y X = true) := by
  have hc' : (match P.underlying kt with
      | some (.int _) => eqInt
      | some .string => eqStr
      | some .bool => eqBool
      | some (.pointer _) => eqPtr
      | some (.interface _) => eqIfc
      | some (.slice _) => eqSlc
      | some (.func _ _ _) => eqFn
      | some (.map _ _) => eqMap
      | some (.struct fs) => eqStruct P (ceq P 39) kt fs.toList
      | some (.array _ _) => fun _ _ => none
      | _ => fun _ _ => none) x y = some b := hc
  rcases keyOk_cases h with ⟨k, hu⟩ | hu | hu
  · rw [hu] at hc'
    refine ⟨_, hu, ?_⟩
    change eqInt x y = some b at hc'
    unfold eqInt at hc'
    split at hc'
    · split at hc'
      · rename_i hk
        obtain rfl := kEq_true hk
        obtain rfl := den_int hx
        obtain rfl := den_int hy
        simp only [Option.some.injEq] at hc'; subst hc'
        rw [ieq_eq]
        refine ⟨by simp [Instr.sameNow], fun hb => ?_⟩
        simp at hb
        simp [Instr.sameBits, hb]
      · cases hc'
    · cases hc'
  · rw [hu] at hc'
    refine ⟨_, hu, ?_⟩
    change eqStr x y = some b at hc'
    unfold eqStr at hc'
    split at hc'
    · rename_i sa sb
      obtain rfl := den_str hx
      obtain rfl := den_str hy
      simp only [Option.some.injEq] at hc'; subst hc'
      rw [beqL_eq]
      have hq : ((⟨(sa.map UInt8.ofNat).toArray⟩ : ByteArray) == ⟨(sb.map UInt8.ofNat).toArray⟩) = (sa.map UInt8.ofNat == sb.map UInt8.ofNat) := by
        show ((sa.map UInt8.ofNat).toArray == (sb.map UInt8.ofNat).toArray) = _
        simp
      refine ⟨by simp only [Instr.sameNow, hq], fun hb => ?_⟩
      have hb' := eq_of_beq hb
      rw [hb']
      show ((sb.map UInt8.ofNat).toArray == (sb.map UInt8.ofNat).toArray) = true
      simp
    · cases hc'
  · rw [hu] at hc'
    refine ⟨_, hu, ?_⟩
    change eqBool x y = some b at hc'
    unfold eqBool at hc'
    split at hc'
    · rename_i a c
      obtain rfl := den_bool hx
      obtain rfl := den_bool hy
      simp only [Option.some.injEq] at hc'; subst hc'
      refine ⟨by cases a <;> cases c <;> rfl, fun hb => ?_⟩
      cases a <;> cases c <;> simp_all [Instr.sameBits]
    · cases hc'

/-- What is found in the list of a map. -/
theorem find_ok {kt : TypeId} (hk : keyOk P kt = true) {k : CV} {K : Value} (hK : den e k = some K) {d : TypeDesc} (hd : P.underlying kt = some d) : ∀ {es : List (CV × CV × Nat)} {ms : List MapEntry}, EntsOk e es ms → ∀ (i : Nat) (r : Option (Nat × CV × Nat)), findC P kt k es i = some r →
    match r with
    | none => Instr.findNow d K ms i = some none
    | some (j, v, s) => ∃ V K0 a, den e v = some V ∧ den e a = some K0 ∧ i ≤ j ∧ Instr.findNow d K ms i = some (some (j, V)) ∧ ms[j - i]? = some { key := K0, val := V, born := s } ∧ es[j - i]? = some (a, v, s) ∧ Instr.sameBits 10000 K0 K = true
  | [], _, .nil, i, r, h => by
    simp only [findC, Option.some.injEq] at h; subst h
    rfl
  | (a, b, s) :: es, _, .cons (k := A) (v := B) (ms := ms) ha hb he, i, r, h => by
    unfold findC at h
    split at h
    · rename_i hc
      obtain ⟨d', h1, h2, h3⟩ := same_now hk hK ha hc
      obtain rfl : d = d' := by rw [hd] at h1; cases h1; rfl
      simp only [Option.some.injEq] at h; subst h
      exact ⟨B, A, a, hb, ha, Nat.le_refl _, by simp [Instr.findNow, h2], by simp, by simp, h3 rfl⟩
    · rename_i hc
      obtain ⟨d', h1, h2, h3⟩ := same_now hk hK ha hc
      obtain rfl : d = d' := by rw [hd] at h1; cases h1; rfl
      have := find_ok hk hK hd he (i + 1) r h
      cases r with
      | none => simpa [Instr.findNow, h2] using this
      | some q =>
        obtain ⟨j, v, s'⟩ := q
        obtain ⟨V, K0, a0, q1, q2, q3, q4, q5, q6, q7⟩ := this
        refine ⟨V, K0, a0, q1, q2, by omega, by simpa [Instr.findNow, h2] using q4, ?_, ?_, q7⟩
        · rw [show j - i = (j - (i + 1)) + 1 by omega]; simpa using q5
        · rw [show j - i = (j - (i + 1)) + 1 by omega]; simpa using q6
    · cases h

theorem run_find {kt : TypeId} {d : TypeDesc} (hd : P.underlying kt = some d) {K : Value} {ms : List MapEntry} {r : Option (Nat × Value)} (h : Instr.findNow d K ms 0 = some r) (w : World) : (Instr.findKey kt K ms).run P w = .ok r w := by
  simp [Instr.findKey, run_under hd, h]

theorem cLookup_ok (hm : Mok e m w) {x k : CV} {X K : Value} (hx : den e x = some X) (hk : den e k = some K) (t : TypeId) (ok : Bool) : VOk P e w (cLookup P m t x k ok) (Instr.lookup t X K ok) := by
  unfold cLookup
  split
  · rename_i kt et hu
    split
    · rename_i z hko hz
      obtain ⟨i, zv, hi, hzz, hzd⟩ := zeroV_some hz
      split
      · rename_i es hes
        have hms : ∃ ms clock, EntsOk e es ms ∧ ((X = .map none ∧ ms = []) ∨ ∃ b, X = .map (some b) ∧ w.heap[b]? = some (.map ms.toArray clock)) := by
          unfold mapEs at hes
          split at hes
          · simp only [Option.some.injEq] at hes; subst hes
            simp only [den, Option.some.injEq] at hx
            exact ⟨[], 0, .nil, .inl ⟨hx.symm, rfl⟩⟩
          · split at hes
            · rename_i ho
              simp only [Option.some.injEq] at hes; subst hes
              obtain ⟨b, ms, h1, h2, h3⟩ := hm _ _ ho
              simp only [den, h1, Option.map_some, Option.some.injEq] at hx
              exact ⟨ms, _, h2, .inr ⟨b.blk, hx.symm, h3⟩⟩
            · cases hes
          · cases hes
        obtain ⟨ms, clock, he, hX⟩ := hms
        obtain ⟨d, hd⟩ : ∃ d, P.underlying kt = some d := by
          rcases keyOk_cases hko with ⟨k, hu⟩ | hu | hu <;> exact ⟨_, hu⟩
        have hrun : ∀ (r : Option (Nat × Value)), Instr.findNow d K ms 0 = some r → (Instr.lookup t X K ok).run P w = .ok (match r with
            | some (_, v) => if ok then .tuple #[v, .bool true] else v
            | none => if ok then .tuple #[zv, .bool false] else zv) w := fun r hr => by
          have e1 := run_find (P := P) hd hr w
          have e2 := run_zero hi hzz w
          rcases hX with ⟨rfl, rfl⟩ | ⟨b, rfl, hh⟩
          · cases r with
            | none => simp [Instr.lookup, run_under hu, checkKey_ok hko, e1, e2]
            | some q => simp [Instr.lookup, run_under hu, checkKey_ok hko, e1]
          · cases r with
            | none => simp [Instr.lookup, run_under hu, checkKey_ok hko, e1, e2, getObj_map hh]
            | some q => simp [Instr.lookup, run_under hu, checkKey_ok hko, e1, getObj_map hh]
        split
        · rename_i j v s hf
          obtain ⟨V, K0, a, h1, _, _, h4, _⟩ := find_ok hko hk hd he 0 _ hf
          refine ⟨if ok then .tuple #[V, .bool true] else V, ?_, hrun _ h4⟩
          cases ok <;> simp [den, denL, h1]
        · rename_i hf
          refine ⟨if ok then .tuple #[zv, .bool false] else zv, ?_, hrun _ (find_ok hko hk hd he 0 _ hf)⟩
          cases ok <;> simp [den, denL, hzd e]
        · trivial
      · trivial
    · trivial
  · trivial

theorem EntsOk.set {es : List (CV × CV × Nat)} {ms : List MapEntry} (h : EntsOk e es ms) : ∀ (i : Nat) {k v : CV} {s : Nat} {K V : Value}, den e k = some K → den e v = some V → EntsOk e (es.set i (k, v, s)) (ms.set i { key := K, val := V, born := s }) := by
  induction h with
  | nil => intro i k v s K V _ _; exact .nil
  | cons h1 h2 h3 ih =>
    intro i k v s K V hk hv
    cases i with
    | zero => exact .cons hk hv h3
    | succ i => exact .cons h1 h2 (ih i hk hv)
theorem EntsOk.snoc {es : List (CV × CV × Nat)} {ms : List MapEntry} (h : EntsOk e es ms) {k v : CV} {s : Nat} {K V : Value} (hk : den e k = some K) (hv : den e v = some V) : EntsOk e (es ++ [(k, v, s)]) (ms ++ [{ key := K, val := V, born := s }]) := by
  induction h with
  | nil => exact .cons hk hv .nil
  | cons h1 h2 _ ih => exact .cons h1 h2 ih

/-- A map is turned. -/
theorem Rel.setMap (h : Rel W0 e m w) {T : Nat} {es es' : List (CV × CV × Nat)} {c c' : Nat} (ho : m.get T = some (.map es c)) {b : Blk} (hb : e T = some b) {ms : List MapEntry} (he : EntsOk e es' ms) :
    Rel W0 e (m.put T (.map es' c')) { w with heap := w.heap.setIfInBounds b.blk (.map ms.toArray c') } := by
  obtain ⟨b', _, h1, _, h3⟩ := h.ok _ _ ho
  obtain rfl : b = b' := by rw [hb] at h1; cases h1; rfl
  have hlt := heap_lt h3
  refine h.put ho rfl rfl hb (fun k hk => ?_) (by simp) rfl rfl rfl ⟨b, ms, hb, he, ?_⟩
  · show (w.heap.setIfInBounds b.blk _)[k]? = _
    rw [Array.getElem?_setIfInBounds, if_neg (by omega)]
  · show (w.heap.setIfInBounds b.blk _)[b.blk]? = _
    rw [Array.getElem?_setIfInBounds, if_pos rfl, if_pos hlt]

theorem cMapUpdate_ok (h : Rel W0 e m w) {x k v : CV} {X K V : Value} (hx : den e x = some X) (hk : den e k = some K) (hv : den e v = some V) (t : TypeId) : SOk W0 P e m w (cMapUpdate P m t x k v) (Instr.mapUpdate t X K V) := by
  unfold cMapUpdate
  split
  · rename_i kt et tag hu
    split
    · rename_i es clock hko ho
      obtain ⟨b, ms, h1, h2, h3⟩ := h.ok _ _ ho
      simp only [den, h1, Option.map_some, Option.some.injEq] at hx
      subst hx
      obtain ⟨d, hd⟩ : ∃ d, P.underlying kt = some d := by
        rcases keyOk_cases hko with ⟨k, hu⟩ | hu | hu <;> exact ⟨_, hu⟩
      split
      · rename_i j v0 s hf
        obtain ⟨V0, K0, a, q1, q2, _, q4, q5, q6, q7⟩ := find_ok hko hk hd h2 0 _ hf
        have e1 := run_find (P := P) hd q4 w
        simp only [Nat.sub_zero] at q5
        have hlt : j < ms.length := (List.getElem?_eq_some_iff.1 q5).1
        refine ⟨rfl, _, h.setMap (c' := clock) ho h1 (h2.set j hk hv (s := s)), ?_⟩
        have hkey : ((ms.toArray[j]?).map (·.key)).getD K = K0 := by simp [q5]
        have hmod : ms.toArray.modify j (fun e => { e with key := K, val := V }) = (ms.set j { key := K, val := V, born := s }).toArray := by
          apply Array.ext_getElem?
          intro i
          rw [Array.getElem?_modify]
          by_cases hij : j = i
          · subst hij
            simp only [if_true, List.getElem?_toArray, q5, Option.map_some]
            simp [hlt]
          · simp [hij, List.getElem?_set]
        have hkeep : (Instr.keyThatStays K0 K).run P w = .ok K w := by simp [Instr.keyThatStays, q7]
        simp only [Instr.mapUpdate, Sem.run_bind, run_under hu, Result.andThen_ok, getObj_map h3, checkKey_ok hko, e1, hkey, hkeep, hmod, setObj_map h3]
      · rename_i hf
        have q4 := find_ok hko hk hd h2 0 _ hf
        have e1 := run_find (P := P) hd q4 w
        refine ⟨rfl, _, h.setMap (c' := clock + 1) ho h1 (h2.snoc hk hv (s := clock)), ?_⟩
        simp only [Instr.mapUpdate, Sem.run_bind, run_under hu, Result.andThen_ok, getObj_map h3, checkKey_ok hko, e1, setObj_map h3]
        simp
      · trivial
    · trivial
  · trivial

theorem cTypeAssert_ok {x : CV} {X : Value} (hx : den e x = some X) (xt a : TypeId) (ok : Bool) : VOk P e w (cTypeAssert P x a ok) (Instr.typeAssert X xt a ok) := by
  unfold cTypeAssert
  split
  · trivial
  · rename_i d hni hu
    split
    · rename_i t v z hz
      obtain ⟨i, zv, hi, hzz, hzd⟩ := zeroV_some hz
      simp only [den, Option.map_eq_some_iff] at hx
      obtain ⟨V, hV, rfl⟩ := hx
      have hne : ∀ ms, d ≠ .interface ms := fun ms h => hni ms h
      split
      · rename_i hta
        have hta := Nat.eq_of_beq_eq_true hta
        refine ⟨.tuple #[V, .bool true], by simp [den, denL, hV], ?_⟩
        cases d <;> first | exact absurd rfl (hne _) | simp [Instr.typeAssert, run_under hu, hta]
      · rename_i hta
        have hta := Nat.eq_of_beq_eq_true hta
        refine ⟨V, hV, ?_⟩
        cases d <;> first | exact absurd rfl (hne _) | simp [Instr.typeAssert, run_under hu, hta]
      · rename_i hta
        have hta : ¬ t = a := fun hq => by rw [beqT hq] at hta; cases hta
        refine ⟨.tuple #[zv, .bool false], by simp [den, denL, hzd e], ?_⟩
        have e2 := run_zero hi hzz w
        cases d <;> first | exact absurd rfl (hne _) | simp [Instr.typeAssert, run_under hu, hta, e2]
      · trivial
    · trivial
  · trivial

theorem bytes_den (e : Env) : ∀ s : List Nat, denL e (s.map fun b => CV.int .u8 (.ofNat (b % 256))) = some ((s.map UInt8.ofNat).map fun b => Value.int .u8 b.toNat)
  | [] => rfl
  | b :: s => denL_cons_some (by simp [den]) (bytes_den e s)
theorem bytes_one : ∀ s : List Nat, (s.map fun b => CV.int .u8 (.ofNat (b % 256))).all one = true
  | [] => rfl
  | b :: s => by simp [one]

theorem bytesC_den {e : Env} : ∀ {l : List CV} {bs : List Nat} {vs : List Value}, bytesC l = some bs → denL e l = some vs → vs = (bs.map Int.ofNat).map (Value.int .u8)
  | [], bs, vs, h, hd => by
    simp only [bytesC, Option.some.injEq] at h; subst h
    simp only [denL, Option.some.injEq] at hd; subst hd; rfl
  | .int .u8 (.ofNat b) :: r, bs, vs, h, hd => by
    unfold bytesC at h
    split at h
    · rename_i l hl
      simp only [Option.some.injEq] at h; subst h
      obtain ⟨v, l2, h1, h2, rfl⟩ := denL_cons hd
      rw [bytesC_den hl h2, den_int h1]
      rfl
    · cases h

theorem foldl_bytes (bs : List Nat) : ∀ (acc : ByteArray), ((bs.map Int.ofNat).foldl (fun r n => r.push (UInt8.ofNat n.toNat)) acc) = ⟨acc.data ++ (bs.map UInt8.ofNat).toArray⟩ := by
  induction bs with
  | nil => intro acc; simp
  | cons b bs ih =>
    intro acc
    simp only [List.map_cons, List.foldl_cons, ih]
    simp [ByteArray.push]
theorem toStr_ok (h : Rel W0 e m w) {x : CV} {V : Value} (hx : den e x = some V) {s d el : TypeId} (h1 : P.underlying s = some (.slice el)) (h2 : P.underlying d = some .string) (h3 : P.underlying el = some (.int .u8)) : VOk P e w (toStr m x) (convert s d V) := by
  unfold toStr
  split
  · rename_i n l hl
    split
    · rename_i bs hbs
      obtain ⟨us, k1, k2, k3, k4⟩ := elems_ok h.ok hl hx
      have hus := bytesC_den hbs k1
      refine ⟨_, rfl, ?_⟩
      rcases k4 with ⟨rfl, rfl, rfl⟩ | ⟨ad, c, rfl, hc⟩
      · have h0 : us = [] := by cases us with | nil => rfl | cons a b => simp at k2
        subst h0
        have hb : bs = [] := by cases bs with | nil => rfl | cons a b => simp at hus
        subst hb
        simp [convert, run_under h1, run_under h2, run_under h3, Conv.bytesToString]
        rfl
      · rw [run_convert_bytes_string w s d el _ _ _ h1 h3 h2]
        have hld : (loadCells ad n).run P w = .ok ((bs.map Int.ofNat).map (Value.int .u8)).toArray w := by
          rw [← hus]
          have := run_loadCells_list (P := P) w ad us hc
          rwa [show us.length = n by omega] at this
        rw [run_bytesToString w ad n c _ hld, foldl_bytes]
        simp
    · trivial
  · trivial

theorem cConv_ok (h : Rel W0 e m w) {T : Nat} (hT : e T = none ∧ ¬ W0.Z T) {x : CV} {V : Value} (hx : den e x = some V) (s d : TypeId) : EOk W0 P e m w (cConv P T m s d x) (convert s d V) := by
  unfold cConv
  split
  · rename_i h1 h2
    obtain rfl := den_int hx
    exact ⟨_, rfl, by simp [convert, run_under h1, run_under h2, Conv.intToInt, wrapC_eq]⟩
  · rename_i h1 h2
    obtain rfl := den_str hx
    exact ⟨_, rfl, by simp [convert, run_under h1, run_under h2]⟩
  · rename_i el str h1 h2
    obtain rfl := den_str hx
    split
    · rename_i h3 hlen
      have hlen := Nat.le_of_ble_eq_true hlen
      generalize hB : (⟨(str.map UInt8.ofNat).toArray⟩ : ByteArray) = B
      have hsize : B.size = str.length := by rw [← hB]; exact size_str str
      have hdata : B.data = (str.map UInt8.ofNat).toArray := by rw [← hB]
      let q : Question := .appendCap B.size 0 el
      let cap := q.cut (w.tape w.drawn q)
      have hcap : str.length ≤ cap ∧ cap < 2 ^ 63 := by
        show str.length ≤ B.size + w.tape w.drawn q % (2 ^ 63 - B.size) ∧ B.size + w.tape w.drawn q % (2 ^ 63 - B.size) < 2 ^ 63
        rw [hsize]
        have := Nat.mod_lt (w.tape w.drawn q) (show 0 < 2 ^ 63 - str.length by omega)
        omega
      let row : List Value := ((str.map UInt8.ofNat).map fun b => Value.int .u8 b.toNat) ++ List.replicate (cap - str.length) (.int .u8 0)
      have hrl : row.length = cap := by simp [row]; omega
      let w1 : World := { w with drawn := w.drawn + 1 }
      let w2 : World := w1.alloc (.cells row.toArray el (0, 0))
      let w3 : World := w2.freeze { block := w.heap.size, off := cap } 1
      have hw3 : ∀ k, w3.heap[k]? = if k = w.heap.size then some (.cells row.toArray el (cap, cap + 1)) else w.heap[k]? := fun k => by
        show (w2.freeze _ 1).heap[k]? = _
        have h0 : ¬ (1 = 0) := by omega
        simp only [World.freeze, if_neg h0, Array.getElem?_modify]
        have h5 : w2.heap[k]? = if k = w.heap.size then some (.cells row.toArray el (0, 0)) else w.heap[k]? := heap_push w1 _ k
        by_cases hk : w.heap.size = k
        · rw [if_pos hk, h5, if_pos hk.symm, if_pos hk.symm]
          simp
        · rw [if_neg hk, h5, if_neg (Ne.symm hk), if_neg (Ne.symm hk)]
      have hsz3 : w3.heap.size = w.heap.size + 1 := by
        show (w2.freeze _ 1).heap.size = _
        have h0 : ¬ (1 = 0) := by omega
        simp only [World.freeze, if_neg h0, Array.size_modify]
        exact Array.size_push ..
      have hfs := @Rel.frF _ _ _ _ h
      obtain ⟨f1, f2⟩ := h.fresh hT (m1 := m) (fun _ _ h => h) rfl (b := ⟨w.heap.size, 0, cap, 1⟩) (w' := w3) (o := .opn el 1 (str.map fun b => .int .u8 (.ofNat (b % 256))))
        (fun t o1 b' ht hb' => by
          obtain ⟨bb, x2, k1, k2⟩ := objOk_env (h.ok t o1 ht)
          have hbe : bb = b' := by rw [k1] at hb'; exact Option.some.inj hb'
          rw [hbe] at k2
          have hlt := heap_lt k2
          have hne : b'.blk ≠ w.heap.size := by omega
          exact ⟨hne, by rw [hw3, if_neg hne]⟩)
        (h.nF (Nat.le_refl _))
        ⟨rfl, rfl, rfl, by rw [hsz3]; omega, fun k hk => by have := h.frF hk; rw [hw3, if_neg (by omega)]⟩
        ⟨_, (str.map UInt8.ofNat).map fun b => Value.int .u8 b.toNat, [], List.replicate (cap - str.length) (.int .u8 0), Env.ext_same .., rfl, by omega, rfl, bytes_den _ str, bytes_one str,
          ⟨(cap, cap + 1), by rw [hw3]; simp [row], fun i hi hq => by
            have h6 : i < row.length := by simpa [row] using hi
            rw [hrl] at h6
            have := hq.1
            simp only at this
            omega⟩, by
          show row.length = cap * 1
          rw [hrl]; omega, by show cap ≤ maxLen; simp only [maxLen]; omega⟩
      refine ⟨_, .slice (some ⟨w.heap.size, 0, none⟩) str.length cap, w3, f1, ?_, f2, ?_⟩
      · show ((e.ext T _) T).map _ = _
        rw [Env.ext_same]; simp
      · have hforced : q.forced = false := rfl
        have hshape : w2.shape? w.heap.size = some (el, cap) := by
          have h5 : w2.heap[w.heap.size]? = some (.cells row.toArray el (0, 0)) := by
            have := heap_push w1 (.cells row.toArray el (0, 0)) w.heap.size
            rw [this]; exact if_pos rfl
          simp only [World.shape?, h5]
          simp [hrl]
        have hrow : ((str.map UInt8.ofNat).toArray.map fun b => Value.int .u8 b.toNat) ++ Array.replicate (cap - str.length) (.int .u8 0) = row.toArray := by simp [row]
        have e1 : (convert s d (.string B)).run P w = (Conv.stringToBytes el B).run P w := by
          simp [convert, run_under h1, run_under h2, run_under h3]
        have hc : (choose q).run P w = .ok cap w1 := rfl
        have hn : (newRow el row.toArray).run P w1 = .ok ⟨w.heap.size, 0, none⟩ w2 := by
          simp only [newRow, Sem.run_bind, run_newObj, Result.andThen_ok, Sem.run_pure]
          rfl
        have hmk : (markStringish ⟨w.heap.size, 0, none⟩).run P w2 = .ok () w3 := by
          have h7 : (shape w.heap.size).run P w2 = .ok (some (el, cap)) w2 := by
            show Result.ok (w2.shape? w.heap.size) w2 = _
            rw [hshape]
          simp only [markStringish, Sem.run_bind, h7, Result.andThen_ok]
          rfl
        rw [e1]
        unfold Conv.stringToBytes
        simp only [Sem.run_bind]
        rw [show (choose (Question.appendCap B.size 0 el)).run P w = .ok cap w1 from hc]
        simp only [Result.andThen_ok, hdata, hsize, Sem.run_bind]
        rw [hrow, hn]
        simp only [Result.andThen_ok, hmk, Sem.run_bind, Sem.run_pure]
    · trivial
  · rename_i el h1 h2 _
    split
    · rename_i h3
      exact VOk.E (toStr_ok h hx h1 h2 h3)
    · trivial
  · trivial
end Go.Cx
