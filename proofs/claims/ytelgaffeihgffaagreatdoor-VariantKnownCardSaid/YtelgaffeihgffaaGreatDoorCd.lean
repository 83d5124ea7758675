/-
  A concrete evaluator for Go's IR. Part d: operations that leave memory alone.
-/
import Derived.Test.YtelgaffeihgffaaGreatDoorCc
set_option linter.unusedSimpArgs false
set_option linter.unusedVariables false
namespace Go.Cx
open Go Go.RowKit
variable {e : Env} {P : Program} {w : World} {m : Mem}

def TOk (e : Env) (t : Tmps) (vs : Array Value) : Prop :=
  vs.size = t.sz ∧ ∀ (i : Nat) (x : CV), t.get i = some x → ∃ v, den e x = some v ∧ vs[i]? = some v

inductive EntsOk (e : Env) : List (CV × CV × Nat) → List MapEntry → Prop where
  | nil : EntsOk e [] []
  | cons {a b : CV} {s : Nat} {es : List (CV × CV × Nat)} {k v : Value} {ms : List MapEntry} : den e a = some k → den e b = some v → EntsOk e es ms → EntsOk e ((a, b, s) :: es) ({ key := k, val := v, born := s } :: ms)

/-- No cell of a row of n cells is frozen. -/
def NoFr (fr : Nat × Nat) (n : Nat) : Prop := ∀ i, i < n → ¬ (fr.1 ≤ i ∧ i < fr.2)
theorem NoFr.zero (n : Nat) : NoFr (0, 0) n := fun i _ h => by
  have := h.2
  simp at this
def RowAt (w : World) (b : Nat) (row : List Value) (ty : TypeId) : Prop := ∃ fr, w.heap[b]? = some (.cells row.toArray ty fr) ∧ NoFr fr row.length

def objOk (e : Env) (w : World) (t : Nat) : CO → Prop
  | .cells ty cs => ∃ b l, e t = some b ∧ b.off = 0 ∧ denL e cs = some l ∧ cs.all one = true ∧ w.heap[b.blk]? = some (.cells l.toArray ty (0, 0))
  | .opn ty sz cs => ∃ b l pre suf, e t = some b ∧ b.sz = sz ∧ 0 < sz ∧ pre.length = b.off ∧ denL e cs = some l ∧ cs.all one = true ∧ RowAt w b.blk (pre ++ l ++ suf) ty ∧ (l ++ suf).length = b.cap * sz ∧ b.cap ≤ maxLen
  | .map es clock => ∃ b ms, e t = some b ∧ EntsOk e es ms ∧ w.heap[b.blk]? = some (.map ms.toArray clock)
  | .loop st pe tm ps asg body d => ∃ b r db, e t = some b ∧ e d = some db ∧ w.heap[b.blk]? = some (.loop r) ∧ r.state = st ∧ r.pending = pe ∧ TOk e tm r.tmps ∧ r.params = ps.toArray ∧ r.assign = asg ∧ r.body = body ∧ r.defers = db.blk
  | .ro cs => ∃ b l pre suf ty fr, e t = some b ∧ pre.length = b.off ∧ denL e cs = some l ∧ cs.all one = true ∧ w.heap[b.blk]? = some (.cells (pre ++ l ++ suf).toArray ty fr) ∧ (t < 64 → suf = [])
  | .dfr live => ∃ b, e t = some b ∧ w.heap[b.blk]? = some (.deferred (match live with | true => some [] | false => none))

/-- Memory is as the evaluator has it. -/
def Mok (e : Env) (m : Mem) (w : World) : Prop := ∀ t o, m.get t = some o → objOk e w t o

def VOk (P : Program) (e : Env) (w : World) (out : COut) (s : Sem Value) : Prop :=
  match out with
  | .val v => ∃ V, den e v = some V ∧ s.run P w = .ok V w
  | .no _ => True
  | _ => False

theorem run_under {t : TypeId} {d : TypeDesc} (h : P.underlying t = some d) (w : World) : (underlying t).run P w = .ok d w := run_underlying h w
theorem run_info {t : TypeId} {i : TypeInfo} (h : P.info? t = some i) (w : World) : (typeInfo t).run P w = .ok i w := by simp [typeInfo, h]
theorem run_size {t : TypeId} {i : TypeInfo} (h : P.info? t = some i) (w : World) : (sizeOf t).run P w = .ok i.size w := by simp [sizeOf, run_info h]

theorem aggSize_none {t : TypeId} (h : aggSize P t = some none) : ∀ w, (isAgg t).run P w = .ok false w := by
  unfold aggSize at h
  split at h
  · split at h <;> simp at h
  · split at h <;> simp at h
  · rename_i d h1 h2 hd
    intro w
    cases d <;> first | (exact absurd rfl (h1 _)) | (exact absurd rfl (h2 _ _)) | simp [isAgg, run_under hd]
  · simp at h
theorem aggSize_some {t : TypeId} {n : Nat} (h : aggSize P t = some (some n)) : (∀ w, (isAgg t).run P w = .ok true w) ∧ (∀ w, (sizeOf t).run P w = .ok n w) := by
  unfold aggSize at h
  split at h
  · rename_i fs hd
    split at h
    · rename_i i hi
      simp at h; subst h
      exact ⟨fun w => by simp [isAgg, run_under hd], fun w => run_size hi w⟩
    · simp at h
  · rename_i l el hd
    split at h
    · rename_i i hi
      simp at h; subst h
      exact ⟨fun w => by simp [isAgg, run_under hd], fun w => run_size hi w⟩
    · simp at h
  · simp at h
  · simp at h

theorem cell_of_heap {w : World} {b off : Nat} {cs : Array Value} {t : TypeId} {fr : Nat × Nat} (h : w.heap[b]? = some (.cells cs t fr)) : w.cell? ⟨b, off, none⟩ = cs[off]? := by
  simp [World.cell?, h]

theorem run_loadVar_agg {t : TypeId} {n b off : Nat} {cs : List Value} {ty : TypeId} {fr : Nat × Nat} (hs : aggSize P t = some (some n)) (h : w.heap[b]? = some (.cells cs.toArray ty fr)) (hn : off + n ≤ cs.length) :
    (loadVar t ⟨b, off, none⟩).run P w = .ok (.agg ((cs.drop off).take n).toArray) w := by
  obtain ⟨h1, h2⟩ := aggSize_some hs
  have hl : ((cs.drop off).take n).length = n := by simp; omega
  have := run_loadCells_list (P := P) w ⟨b, off, none⟩ ((cs.drop off).take n) (fun j v hj => by
    rw [Addr.add_lit, cell_of_heap h]
    rw [List.getElem?_take] at hj
    split at hj
    · rw [List.getElem?_drop] at hj; simpa using hj
    · cases hj)
  rw [hl] at this
  simp [loadVar, h1, h2, this]
theorem run_loadVar_one {t : TypeId} {b off : Nat} {cs : Array Value} {ty : TypeId} {fr : Nat × Nat} {v : Value} (hs : aggSize P t = some none) (h : w.heap[b]? = some (.cells cs ty fr)) (hv : cs[off]? = some v) :
    (loadVar t ⟨b, off, none⟩).run P w = .ok v w := by
  have h1 := aggSize_none hs
  have hc : w.cell? ⟨b, off, none⟩ = some v := by rw [cell_of_heap h, hv]
  simp [loadVar, h1, hc]

/-- A row, with its prefix. -/
theorem rd_row {t : Nat} {cs : List CV} (hm : Mok e m w) (h : rdCells m t = some cs) : ∃ b l pre suf ty fr, e t = some b ∧ pre.length = b.off ∧ denL e cs = some l ∧ w.heap[b.blk]? = some (.cells (pre ++ l ++ suf).toArray ty fr) := by
  unfold rdCells at h
  split at h
  · rename_i ty cs' ho
    simp only [Option.some.injEq] at h; subst h
    obtain ⟨b, l, h1, h2, h3, h4, h5⟩ := hm _ _ ho
    exact ⟨b, l, [], [], ty, _, h1, by simp [h2], h3, by simpa using h5⟩
  · rename_i ty sz cs' ho
    simp only [Option.some.injEq] at h; subst h
    obtain ⟨b, l, pre, suf, h1, _, _, h4, h5, _, ⟨fr, h6, _⟩, _⟩ := hm _ _ ho
    exact ⟨b, l, pre, suf, ty, fr, h1, h4, h5, h6⟩
  · rename_i cs' ho
    simp only [Option.some.injEq] at h; subst h
    obtain ⟨b, l, pre, suf, ty, fr, h1, h2, h3, h4, h5, _⟩ := hm _ _ ho
    exact ⟨b, l, pre, suf, ty, fr, h1, h2, h3, h5⟩
  · cases h

theorem part_den {t : TypeId} {cs : List CV} {l : List Value} {off : Nat} {v : CV} (hd : denL e cs = some l) (h : part P t cs off = some v) :
    ∃ V, den e v = some V ∧ (∀ w, (Go.part t l.toArray off).run P w = .ok V w) ∧
      ∀ (w : World) (b o2 : Nat) (pre suf : List Value) (ty : TypeId) (fr : Nat × Nat), pre.length = o2 → w.heap[b]? = some (.cells (pre ++ l ++ suf).toArray ty fr) → (loadVar t ⟨b, o2 + off, none⟩).run P w = .ok V w := by
  unfold part at h
  split at h
  · rename_i hs
    rw [nth_eq] at h
    obtain ⟨V, hV, hl⟩ := denL_get hd h
    have hlt : off < l.length := (List.getElem?_eq_some_iff.1 hl).1
    refine ⟨V, hV, fun w => by simp [Go.part, aggSize_none hs, hl], fun w b o2 pre suf ty fr hp hh => run_loadVar_one hs hh ?_⟩
    subst hp
    rw [List.getElem?_toArray, List.append_assoc, List.getElem?_append_right (by omega), Nat.add_sub_cancel_left, List.getElem?_append_left hlt, hl]
  · rename_i n hs
    split at h
    · rename_i l' ht
      simp only [Option.some.injEq] at h; subst h
      obtain ⟨h1, h2⟩ := denL_part hd ht
      refine ⟨.agg ((l.drop off).take n).toArray, by simp [den, h2], fun w => ?_, fun w b o2 pre suf ty fr hp hh => ?_⟩
      · obtain ⟨k1, k2⟩ := aggSize_some hs
        simp [Go.part, k1, k2]
      · subst hp
        rw [run_loadVar_agg hs hh (by simp; omega)]
        rw [List.append_assoc, ← List.drop_drop, List.drop_left, List.drop_append_of_le_length (by omega), List.take_append_of_le_length (by simp; omega)]
    · cases h
  · cases h

theorem den_ptr {t off : Nat} {V : Value} (h : den e (.ptr t off) = some V) : ∃ b, e t = some b ∧ V = .pointer (some ⟨b.blk, b.off + off, none⟩) := by
  simp only [den, Option.map_eq_some_iff] at h
  obtain ⟨b, hb, rfl⟩ := h
  exact ⟨b, hb, rfl⟩

theorem cLoad_ok (hm : Mok e m w) {x : CV} {V : Value} (hx : den e x = some V) (t : TypeId) : VOk P e w (cLoad P m t x) (Instr.loadAt t V) := by
  unfold cLoad
  split
  · rename_i tag off
    split
    · rename_i cs hc
      split
      · rename_i v hp
        obtain ⟨b, l, pre, suf, ty, fr, h1, h2, h3, h4⟩ := rd_row hm hc
        obtain ⟨b', hb', rfl⟩ := den_ptr hx
        obtain rfl : b = b' := by rw [h1] at hb'; cases hb'; rfl
        obtain ⟨U, hU, _, hl⟩ := part_den h3 hp
        refine ⟨U, hU, ?_⟩
        simp only [Instr.loadAt, Instr.sureAddr, Sem.run_bind, Sem.run_pure, Result.andThen_ok]
        exact hl w b.blk b.off pre suf ty fr h2 h4
      · trivial
    · trivial
  · trivial

theorem cFieldAddr_ok {x : CV} {V : Value} (hx : den e x = some V) (s : TypeId) (f : Nat) : VOk P e w (cFieldAddr P s x f) (Instr.fieldAt s V f) := by
  unfold cFieldAddr
  split
  · rename_i fs hu
    split
    · rename_i fd hf
      rw [nth_eq] at hf
      have hf' : fs[f]? = some fd := by simpa using hf
      split
      · rename_i i hi
        split
        · trivial
        · rename_i k hk
          split
          · rename_i t off
            obtain ⟨b, hb, rfl⟩ := den_ptr hx
            refine ⟨.pointer (some ⟨b.blk, b.off + (off + fd.offset), none⟩), ?_, ?_⟩
            · show (e t).map _ = _
              rw [hb]; rfl
            · simp [Instr.fieldAt, run_under hu, hf', Instr.sureAddr, fieldPlace, run_size hi, hk, Addr.add_lit, Nat.add_assoc]
          · trivial
      · trivial
    · trivial
  · trivial

theorem cField_ok {x : CV} {V : Value} (hx : den e x = some V) (t : TypeId) (f : Nat) : VOk P e w (cField P t x f) (Instr.field t V f) := by
  unfold cField
  split
  · rename_i fs cs hu
    split
    · rename_i fd hf
      rw [nth_eq] at hf
      have hf' : fs[f]? = some fd := by simpa using hf
      split
      · rename_i v hp
        simp only [den, Option.map_eq_some_iff] at hx
        obtain ⟨l, hl, rfl⟩ := hx
        obtain ⟨U, hU, hr, _⟩ := part_den hl hp
        exact ⟨U, hU, by simp [Instr.field, run_under hu, hf', asAgg, hr w]⟩
      · trivial
    · trivial
  · trivial

theorem b256 (b : Nat) : ((UInt8.ofNat b).toNat : Int) = ((b % 256 : Nat) : Int) := by simp

theorem str_get {s : List Nat} {n b : Nat} (h : s[n]? = some b) : (⟨(s.map UInt8.ofNat).toArray⟩ : ByteArray)[n]? = some (UInt8.ofNat b) := by
  have hlt : n < s.length := (List.getElem?_eq_some_iff.1 h).1
  rw [ByteArray.getElem?_lt' _ _ (by show n < (s.map UInt8.ofNat).toArray.size; simpa using hlt)]
  have : s[n] = b := (List.getElem?_eq_some_iff.1 h).2
  subst this
  congr 1
  show (s.map UInt8.ofNat).toArray[n]'(by simpa using hlt) = _
  simp

theorem cIndex_ok {x i : CV} {V J : Value} (hx : den e x = some V) (hi : den e i = some J) (t : TypeId) : VOk P e w (cIndex P t x i) (Instr.index t V J) := by
  unfold cIndex
  split
  · rename_i hu
    unfold ixStr
    split
    · rename_i s
      split
      · rename_i k n
        split
        · rename_i b hb
          rw [nth_eq] at hb
          simp only [den, Option.some.injEq] at hx hi
          subst hx; subst hi
          refine ⟨.int .u8 ((b % 256 : Nat) : Int), rfl, ?_⟩
          have := str_get hb
          simp [Instr.index, asIntOf, run_under hu, this]
        · trivial
      · trivial
    · trivial
  · rename_i len elem hu
    unfold ixArr
    split
    · rename_i cs
      split
      · rename_i k n
        split
        · rename_i inf hinf
          split
          · rename_i hlt
            split
            · rename_i v hp
              have hlt : n < len := by simpa [Nat.blt_eq] using hlt
              simp only [den, Option.some.injEq, Option.map_eq_some_iff] at hx hi
              obtain ⟨l, hl, rfl⟩ := hx
              subst hi
              obtain ⟨U, hU, hr, _⟩ := part_den hl hp
              refine ⟨U, hU, ?_⟩
              have := hr w
              simp [Instr.index, asIntOf, run_under hu, hlt, run_size hinf, this]
            · trivial
          · trivial
        · trivial
      · trivial
    · trivial
  · trivial

theorem cIndexAddr_ok (hm : Mok e m w) {x i : CV} {V J : Value} (hx : den e x = some V) (hi : den e i = some J) (t : TypeId) : VOk P e w (cIndexAddr P m t x i) (Instr.indexAt t V J) := by
  unfold cIndexAddr
  split
  · rename_i elem hu
    unfold iaSlice
    split
    · rename_i tag off n c
      unfold iaSlc
      split
      · rename_i kk k
        split
        · rename_i inf hinf
          split
          · rename_i hlt
            have hlt : k < n := by simpa [Nat.blt_eq] using hlt
            simp only [den, Option.some.injEq, Option.map_eq_some_iff] at hx hi
            obtain ⟨b, hb, rfl⟩ := hx
            subst hi
            refine ⟨.pointer (some ⟨b.blk, b.off + (off + k * inf.size), none⟩), ?_, ?_⟩
            · show (e tag).map _ = _
              rw [hb]; rfl
            · simp [Instr.indexAt, asIntOf, run_under hu, hlt, run_size hinf, Addr.add_lit, Nat.add_assoc]
          · trivial
        · trivial
      · trivial
    · rename_i tag k0 n
      unfold iaOpn
      split
      · rename_i kk k
        split
        · rename_i inf hinf
          split
          · rename_i ty sz cs ho
            split
            · rename_i hlt
              simp only [Bool.and_eq_true] at hlt
              have hlt1 : k < n := by simpa [Nat.blt_eq] using hlt.1
              have hsz : sz = inf.size := Nat.eq_of_beq_eq_true hlt.2
              obtain ⟨b', _, _, _, h1, h2, _⟩ := hm _ _ ho
              simp only [den, Option.some.injEq, Option.map_eq_some_iff] at hx hi
              obtain ⟨b, hb, rfl⟩ := hx
              subst hi
              obtain rfl : b' = b := by rw [h1] at hb; cases hb; rfl
              refine ⟨.pointer (some ⟨b'.blk, b'.off + (k0 + k) * sz, none⟩), ?_, ?_⟩
              · show (e tag).map _ = _
                rw [hb]; rfl
              · simp [Instr.indexAt, asIntOf, run_under hu, hlt1, run_size hinf, Addr.add_lit, Nat.add_assoc, h2, hsz, Nat.add_mul]
            · trivial
          · trivial
        · trivial
      · trivial
    · trivial
  · rename_i len elem hu
    unfold iaArr
    split
    · rename_i tag off
      unfold iaSlc
      split
      · rename_i kk k
        split
        · rename_i inf hinf
          split
          · rename_i hlt
            have hlt : k < len := by simpa [Nat.blt_eq] using hlt
            simp only [den, Option.some.injEq, Option.map_eq_some_iff] at hx hi
            obtain ⟨b, hb, rfl⟩ := hx
            subst hi
            refine ⟨.pointer (some ⟨b.blk, b.off + (off + k * inf.size), none⟩), ?_, ?_⟩
            · show (e tag).map _ = _
              rw [hb]; rfl
            · simp [Instr.indexAt, asIntOf, run_under hu, hlt, run_size hinf, Addr.add_lit, Nat.add_assoc, Instr.sureAddr]
          · trivial
        · trivial
      · trivial
    · trivial
  · trivial

theorem size_str (s : List Nat) : (⟨(s.map UInt8.ofNat).toArray⟩ : ByteArray).size = s.length := by show (s.map UInt8.ofNat).toArray.size = _; simp

theorem getObj_map {b : Nat} {es : Array MapEntry} {c : Nat} (h : w.heap[b]? = some (.map es c)) : (getObj b).run P w = .ok (.map es c) w := by simp [getObj, Sem.run, h]

theorem cLen_ok (hm : Mok e m w) {x : CV} {V : Value} (hx : den e x = some V) (t ty : TypeId) : VOk P e w (cLen P m t x) (Builtin.len_ #[t] ty #[V]) := by
  unfold cLen
  split
  · rename_i hu
    unfold lenStr
    split
    · rename_i s
      simp only [den, Option.some.injEq] at hx; subst hx
      exact ⟨_, rfl, by simp [Builtin.len_, run_under hu, goInt, size_str]⟩
    · trivial
  · rename_i el hu
    unfold lenSlc
    split
    · simp only [den, Option.map_eq_some_iff] at hx
      obtain ⟨b, _, rfl⟩ := hx
      exact ⟨_, rfl, by simp [Builtin.len_, run_under hu, goInt]⟩
    · simp only [den, Option.map_eq_some_iff] at hx
      obtain ⟨b, _, rfl⟩ := hx
      exact ⟨_, rfl, by simp [Builtin.len_, run_under hu, goInt]⟩
    · simp only [den, Option.map_eq_some_iff] at hx
      obtain ⟨b, _, rfl⟩ := hx
      refine ⟨_, rfl, ?_⟩
      split <;> simp [Builtin.len_, run_under hu, goInt]
    · simp only [den, Option.some.injEq] at hx; subst hx
      exact ⟨_, rfl, by simp [Builtin.len_, run_under hu, goInt]⟩
    · simp only [den, Option.some.injEq] at hx; subst hx
      exact ⟨_, rfl, by simp [Builtin.len_, run_under hu, goInt]⟩
    · trivial
  · rename_i n el hu
    exact ⟨_, rfl, by simp [Builtin.len_, run_under hu, goInt]⟩
  · rename_i kt et hu
    unfold lenMap
    split
    · simp only [den, Option.some.injEq] at hx; subst hx
      exact ⟨_, rfl, by simp [Builtin.len_, run_under hu, goInt]⟩
    · rename_i tag
      split
      · rename_i es clock ho
        obtain ⟨b, ms, h1, h2, h3⟩ := hm _ _ ho
        simp only [den, Option.map_eq_some_iff] at hx
        obtain ⟨b', hb', rfl⟩ := hx
        obtain rfl : b = b' := by rw [h1] at hb'; cases hb'; rfl
        have hlen : es.length = ms.length := by
          clear h1 h3 ho hb'
          induction h2 with
          | nil => rfl
          | cons _ _ _ ih => simp [ih]
        exact ⟨_, rfl, by simp [Builtin.len_, run_under hu, goInt, getObj_map h3, hlen]⟩
      · trivial
    · trivial
  · trivial
end Go.Cx
