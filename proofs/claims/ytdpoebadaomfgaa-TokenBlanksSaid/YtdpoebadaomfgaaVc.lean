/-
  A verification-condition generator for Go's IR. Part c: what 'qop' says is so.
-/
import Derived.Test.YtdpoebadaomfgaaVb
set_option linter.unusedSimpArgs false
set_option linter.unusedVariables false
namespace Go.Pw
open Go Go.RowKit

def obT : Option Prop → Prop
  | none => True
  | some p => p

def QOkV (_ : Base) (e : Env) (S : SS) (P : Program) (r : QR) (s : Sem Value) : Prop :=
  match r with
  | .no => True
  | .val ob v => obT ob → ∃ u, Sat e S.o.length v u ∧ ∀ w, WR e S.o S.h w → s.run P w = .ok u w
  | .rd R => ∀ v, R S.h v → ∃ u, Sat e S.o.length v u ∧ ∀ w, WR e S.o S.h w → s.run P w = .ok u w

def QOk (_ : Base) (e : Env) (S : SS) (P : Program) (r : QR) (s : Sem Next) : Prop :=
  match r with
  | .no => True
  | .val ob v => obT ob → ∃ u, Sat e S.o.length v u ∧ ∀ w, WR e S.o S.h w → s.run P w = .ok (.value u) w
  | .rd R => ∀ v, R S.h v → ∃ u, Sat e S.o.length v u ∧ ∀ w, WR e S.o S.h w → s.run P w = .ok (.value u) w

variable {G : Base} {e : Env} {S : SS} {P : Program}

theorem QOkV.next {r : QR} {s : Sem Value} (h : QOkV G e S P r s) : QOk G e S P r (do pure (.value (← s))) := by
  cases r with
  | no => trivial
  | val ob v => exact fun ho => let ⟨u, hs, hw⟩ := h ho; ⟨u, hs, fun w hk => by simp [hw w hk]⟩
  | rd R => exact fun v hv => let ⟨u, hs, hw⟩ := h v hv; ⟨u, hs, fun w hk => by simp [hw w hk]⟩

theorem run_under {t : TypeId} {d : TypeDesc} (h : P.underlying t = some d) (w : World) : (underlying t).run P w = .ok d w := run_underlying h w
theorem run_info {t : TypeId} {i : TypeInfo} (h : P.info? t = some i) (w : World) : (typeInfo t).run P w = .ok i w := by simp [typeInfo, h]
theorem run_size {t : TypeId} {i : TypeInfo} (h : P.info? t = some i) (w : World) : (sizeOf t).run P w = .ok i.size w := by simp [sizeOf, run_info h]

theorem sFieldAddr_ok {x : SV} {v : Value} (hx : Sat e S.o.length x v) (s : TypeId) (f : Nat) : QOkV G e S P (sFieldAddr P s x f) (Instr.fieldAt s v f) := by
  unfold sFieldAddr
  split
  · rename_i fs hu
    split
    · rename_i fd hf
      split
      · rename_i i hi
        split
        · trivial
        · rename_i k hk
          have key : ∀ b : Addr, ∀ w, (Instr.fieldAt s (.pointer (some b)) f).run P w = .ok (.pointer (some (b.add fd.offset))) w := fun b w => by
            simp [Instr.fieldAt, run_under hu, hf, Instr.sureAddr, fieldPlace, run_size hi, hk]
          split
          · rename_i t off
            have hv := hx.eq (by simp)
            subst hv
            intro _
            refine ⟨.pointer (some ⟨e.blk t, off + fd.offset, none⟩), .inr ⟨rfl, hx.bel (by simp)⟩, fun w _ => ?_⟩
            rw [show den e (.ptr t off) = .pointer (some ⟨e.blk t, off, none⟩) from rfl, key, Addr.add_lit]
          · rename_i t off
            have hv := hx.eq (by simp)
            subst hv
            intro _
            refine ⟨.pointer (some ⟨e.blk t, off + fd.offset, none⟩), .inr ⟨rfl, hx.bel (by simp)⟩, fun w _ => ?_⟩
            rw [show den e (.optr t off) = .pointer (some ⟨e.blk t, off, none⟩) from rfl, key, Addr.add_lit]
          · rename_i b
            have hv := hx.eq (by simp)
            subst hv
            intro _
            exact ⟨_, .inr ⟨rfl, rfl⟩, fun w _ => key b w⟩
          · trivial
      · trivial
    · trivial
  · trivial

theorem aggSize_none {t : TypeId} (h : aggSize P t = some none) : ∃ d, P.underlying t = some d ∧ (∀ w, (isAgg t).run P w = .ok false w) := by
  unfold aggSize at h
  split at h
  · split at h <;> simp at h
  · split at h <;> simp at h
  · rename_i d h1 h2 hd
    refine ⟨_, hd, fun w => ?_⟩
    cases d <;> first | (exact absurd rfl (h1 _)) | (exact absurd rfl (h2 _ _)) | simp [isAgg, run_under hd]
  · simp at h

theorem aggSize_some {t : TypeId} {n : Nat} (h : aggSize P t = some (some n)) : (∀ w, (isAgg t).run P w = .ok true w) ∧ (∀ w, (sizeOf t).run P w = .ok n w) := by
  unfold aggSize at h
  split at h
  · rename_i fs hd
    split at h
    · rename_i i hi
      simp at h; subst h
      exact ⟨fun w => by simp [isAgg, run_under hd], fun w => run_size hi w⟩
    · simp at h
  · rename_i l el hd
    split at h
    · rename_i i hi
      simp at h; subst h
      exact ⟨fun w => by simp [isAgg, run_under hd], fun w => run_size hi w⟩
    · simp at h
  · simp at h
  · simp at h

theorem getCells_some {o : List (Option SObj)} {t : Nat} {ty : TypeId} {cs : List SV} (h : getCells o t = some (ty, cs)) : o[t]? = some (some (.cells ty cs)) := by
  unfold getCells at h
  split at h
  · simp at h; obtain ⟨rfl, rfl⟩ := h; assumption
  · simp at h

theorem cell_of_heap {w : World} {b off : Nat} {cs : Array Value} {t : TypeId} {fr : Nat × Nat} (h : w.heap[b]? = some (.cells cs t fr)) : w.cell? ⟨b, off, none⟩ = cs[off]? := by
  simp [World.cell?, h]

theorem denL_get {cs : List SV} {i : Nat} {x : SV} (h : cs[i]? = some x) : (denL e cs)[i]? = some (den e x) := by
  rw [denL_eq, List.getElem?_map, h]; rfl
theorem denL_length (cs : List SV) : (denL e cs).length = cs.length := by rw [denL_eq, List.length_map]
theorem belL_get {n : Nat} {cs : List SV} {i : Nat} {x : SV} (hb : belL n cs = true) (h : cs[i]? = some x) : bel n x = true := by
  rw [belL_eq, List.all_eq_true] at hb
  exact hb x (List.mem_of_getElem? h)
theorem belL_part {n : Nat} {cs : List SV} (hb : belL n cs = true) (a b : Nat) : belL n ((cs.drop a).take b) = true := by
  rw [belL_eq, List.all_eq_true] at *
  exact fun x hx => hb x (List.mem_of_mem_drop (List.mem_of_mem_take hx))
theorem denL_part (cs : List SV) (a b : Nat) : denL e ((cs.drop a).take b) = ((denL e cs).drop a).take b := by
  simp [denL_eq, List.map_drop, List.map_take]

theorem run_loadVar_agg {t : TypeId} {n b off : Nat} {w : World} {cs : List Value} {ty : TypeId} {fr : Nat × Nat} (hs : aggSize P t = some (some n)) (h : w.heap[b]? = some (.cells cs.toArray ty fr)) (hn : off + n ≤ cs.length) :
    (loadVar t ⟨b, off, none⟩).run P w = .ok (.agg ((cs.drop off).take n).toArray) w := by
  obtain ⟨h1, h2⟩ := aggSize_some hs
  have hl : ((cs.drop off).take n).length = n := by simp; omega
  have := run_loadCells_list (P := P) w ⟨b, off, none⟩ ((cs.drop off).take n) (fun j v hj => by
    rw [Addr.add_lit, cell_of_heap h]
    rw [List.getElem?_take] at hj
    split at hj
    · rw [List.getElem?_drop] at hj; simpa using hj
    · cases hj)
  rw [hl] at this
  simp [loadVar, h1, h2, this]

theorem run_loadVar_one {t : TypeId} {b off : Nat} {w : World} {cs : Array Value} {ty : TypeId} {fr : Nat × Nat} {v : Value} (hs : aggSize P t = some none) (h : w.heap[b]? = some (.cells cs ty fr)) (hv : cs[off]? = some v) :
    (loadVar t ⟨b, off, none⟩).run P w = .ok v w := by
  obtain ⟨d, _, h1⟩ := aggSize_none hs
  have hc : w.cell? ⟨b, off, none⟩ = some v := by rw [cell_of_heap h, hv]
  simp [loadVar, h1, hc]

def ObB (S : SS) : Prop := ∀ (t : Nat) (ty : TypeId) (cs : List SV), S.o[t]? = some (some (.cells ty cs)) → belL S.o.length cs = true

theorem denAgg_sat {n : Nat} {cs : List SV} (hb : belL n cs = true) : Sat e n (.agg cs) (.agg (denL e cs).toArray) := .inr ⟨rfl, by simpa [bel] using hb⟩

theorem getList_some {o : List (Option SObj)} {t : Nat} {ty : TypeId} {sz n : Nat} {xs : List Value} (h : getList o t = some (ty, sz, n, xs)) : o[t]? = some (some (.olist ty sz n xs)) := by
  unfold getList at h
  split at h
  · simp at h; obtain ⟨rfl, rfl, rfl, rfl⟩ := h; assumption
  · simp at h

theorem SVal.sat {v : SV} {u : Value} (h : SVal v u) (n : Nat) : Sat e n v u := .inr ⟨(h.1 e).symm, bel_mono (Nat.zero_le n) v h.2⟩

/-- The row of an owned list that is not empty. -/
theorem row_of {w : World} {n t : Nat} {ty : TypeId} {sz k : Nat} {xs : List Value} (h : objOk e w n t (.olist ty sz k xs)) (hx : xs ≠ []) :
    ∃ c : List Value, w.heap[e.blk t]? = some (.cells (xs ++ c).toArray ty (0, 0)) := by
  obtain ⟨⟨_, hl, _⟩, ⟨_, h2, _⟩ | ⟨_, _, _, c, hc, _⟩⟩ := h
  · subst h2
    exact absurd (List.eq_nil_of_length_eq_zero (by simpa using hl)) hx
  · exact ⟨c, hc⟩

theorem sLoad_ok (hO : ObB S) {x : SV} {v : Value} (hx : Sat e S.o.length x v) (t : TypeId) : QOkV G e S P (sLoad P S t x) (Instr.loadAt t v) := by
  unfold sLoad
  split
  · rename_i tag off
    have hv := hx.eq (by simp)
    subst hv
    split
    · rename_i _ ty cs hg
      have ho := getCells_some hg
      split
      · rename_i hs
        split
        · rename_i y hy
          intro _
          refine ⟨den e y, ?_, fun w hw => ?_⟩
          · exact .inr ⟨rfl, belL_get (hO _ _ _ ho) hy⟩
          · obtain ⟨hh, _⟩ := hw.ob _ _ ho
            simp only [Instr.loadAt, den, Instr.sureAddr, Sem.run_bind, Sem.run_pure, Result.andThen_ok]
            exact run_loadVar_one hs hh (by simpa using denL_get (e := e) hy)
        · trivial
      · rename_i n hs
        split
        · rename_i hn
          have hn' : off + n ≤ cs.length := Nat.le_of_ble_eq_true hn
          intro _
          refine ⟨.agg (denL e ((cs.drop off).take n)).toArray, ?_, fun w hw => ?_⟩
          · exact denAgg_sat (belL_part (hO _ _ _ ho) _ _)
          · obtain ⟨hh, _⟩ := hw.ob _ _ ho
            simp only [Instr.loadAt, den, Instr.sureAddr, Sem.run_bind, Sem.run_pure, Result.andThen_ok]
            rw [denL_part]
            exact run_loadVar_agg hs hh (by rw [denL_length]; exact hn')
        · trivial
      · trivial
    · trivial
  · rename_i tag off
    have hv := hx.eq (by simp)
    subst hv
    split
    · rename_i _ ty sz n xs hg
      have ho := getList_some hg
      split
      · rename_i hs
        rintro v ⟨u, hu, hv⟩
        refine ⟨u, hv.sat _, fun w hw => ?_⟩
        obtain ⟨c, hc⟩ := row_of (hw.ob _ _ ho) (by rintro rfl; simp at hu)
        simp only [Instr.loadAt, den, Instr.sureAddr, Sem.run_bind, Sem.run_pure, Result.andThen_ok]
        refine run_loadVar_one hs hc ?_
        have := (List.getElem?_eq_some_iff.1 hu).1
        simp [List.getElem?_append_left this, hu]
      · rename_i k hs
        rintro v ⟨hk, hv⟩
        refine ⟨_, hv.sat _, fun w hw => ?_⟩
        by_cases hx0 : xs = []
        · subst hx0
          obtain rfl : off = 0 := by simp at hk; omega
          obtain rfl : k = 0 := by simp at hk; omega
          obtain ⟨h1, h2⟩ := aggSize_some hs
          have := run_loadCells_list (P := P) w ⟨e.blk tag, 0, none⟩ [] (by simp)
          simp only [Instr.loadAt, den, Instr.sureAddr, Sem.run_bind, Sem.run_pure, Result.andThen_ok]
          simp at this
          simp [loadVar, h1, h2, this]
        · obtain ⟨c, hc⟩ := row_of (hw.ob _ _ ho) hx0
          simp only [Instr.loadAt, den, Instr.sureAddr, Sem.run_bind, Sem.run_pure, Result.andThen_ok]
          have h1 := run_loadVar_agg (P := P) (t := t) (n := k) (off := off) hs hc (by simp; omega)
          rw [h1]
          rw [List.drop_append_of_le_length (by omega), List.take_append_of_le_length (by simp; omega)]
      · trivial
    · trivial
  · rename_i a
    have hv := hx.eq (by simp)
    subst hv
    obtain ⟨b, off, sp⟩ := a
    split
    · rename_i hs
      rintro v ⟨hsp, cs, ty, fr, u, hh, hc, hv⟩
      refine ⟨u, hv.sat _, fun w hw => ?_⟩
      simp only at hsp hh hc; subst hsp
      simp only [Instr.loadAt, den, Instr.sureAddr, Sem.run_bind, Sem.run_pure, Result.andThen_ok]
      exact run_loadVar_one hs (hw.hh _ _ hh) hc
    · rename_i n hs
      rintro v ⟨hsp, cs, ty, fr, hh, hn, hv⟩
      refine ⟨_, hv.sat _, fun w hw => ?_⟩
      simp only at hsp hh hn; subst hsp
      simp only [Instr.loadAt, den, Instr.sureAddr, Sem.run_bind, Sem.run_pure, Result.andThen_ok]
      obtain ⟨l⟩ := cs
      have h1 := run_loadVar_agg (P := P) (t := t) (n := n) (off := off) hs (hw.hh _ _ hh) (by simpa using hn)
      rw [h1]
      simp
    · trivial
  · trivial

theorem gb_eq (s : List UInt8) (n : Nat) (h : n < s.length) : ((s[n]'h).toNat : Int) = gb s n := by simp [gb, List.getD, h]

theorem run_part {t : TypeId} {cs : List SV} {off : Nat} {v : SV} (h : sPart P t cs off = some v) (w : World) : (part t (denL e cs).toArray off).run P w = .ok (den e v) w := by
  unfold sPart at h
  split at h
  · rename_i hs
    obtain ⟨d, _, h1⟩ := aggSize_none hs
    simp [part, h1, denL_get h]
  · rename_i n hs
    obtain ⟨h1, h2⟩ := aggSize_some hs
    split at h
    · simp only [Option.some.injEq] at h; subst h
      simp [part, h1, h2, den, denL_part]
    · simp at h
  · simp at h
theorem bel_part' {n : Nat} {t : TypeId} {cs : List SV} {off : Nat} {v : SV} (hb : belL n cs = true) (h : sPart P t cs off = some v) : bel n v = true := by
  unfold sPart at h
  split at h
  · exact belL_get hb h
  · split at h
    · simp only [Option.some.injEq] at h; subst h
      simpa [bel] using belL_part hb _ _
    · simp at h
  · simp at h

theorem sIndex_ok {x i : SV} {v j : Value} (hx : Sat e S.o.length x v) (hi : Sat e S.o.length i j) (t : TypeId) : QOkV G e S P (sIndex P t x i) (Instr.index t v j) := by
  unfold sIndex
  split
  · rename_i s k n hu
    have hv := hx.eq (by simp)
    have hj := hi.eq (by simp)
    subst hv; subst hj
    rintro ⟨h0, h1⟩
    refine ⟨.int .u8 (gb s n), .inr ⟨rfl, rfl⟩, fun w _ => ?_⟩
    obtain ⟨m, rfl⟩ := Int.eq_ofNat_of_zero_le h0
    have h1' : m < s.length := by omega
    have hg : (⟨s.toArray⟩ : ByteArray)[m]? = some s[m] := by
      rw [ByteArray.getElem?_lt' _ _ (by show m < s.toArray.size; simpa using h1')]
      rfl
    simp [Instr.index, den, asIntOf, run_under hu, hg, gb_eq s m h1']
  · rename_i len elem cs k n hu
    have hv := hx.eq (by simp)
    have hj := hi.eq (by simp)
    subst hv; subst hj
    split
    · rename_i inf hi1
      rintro v ⟨⟨h0, h1⟩, sv, hsv, hd, hb⟩
      refine ⟨den e v, .inr ⟨rfl, bel_mono (Nat.zero_le _) v hb⟩, fun w _ => ?_⟩
      obtain ⟨m, rfl⟩ := Int.eq_ofNat_of_zero_le h0
      have h1' : m < len := by omega
      have hp := run_part (e := e) hsv w
      rw [← hd e] at hp
      simp only [Int.toNat_natCast] at hp
      simp [Instr.index, den, asIntOf, run_under hu, h1', run_size hi1, hp]
    · trivial
  · trivial

theorem sBound_some {x : Option SV} {d n : Int} (h : sBound x d = some n) : (x = none ∧ n = d) ∨ ∃ k, x = some (.int k n) := by
  unfold sBound at h
  split at h
  · simp at h; exact .inl ⟨rfl, h.symm⟩
  · simp at h; subst h; exact .inr ⟨_, rfl⟩
  · simp at h

def SatO (e : Env) (n : Nat) : Option SV → Option Value → Prop
  | none, none => True
  | some x, some v => Sat e n x v
  | _, _ => False

theorem run_sliceBounds {isS : Bool} {len cap : Nat} {lo hi : Option SV} {lv hv : Option Value} {n : Nat} (h1 : SatO e n lo lv) (h2 : SatO e n hi hv) {a b : Int} (ha : sBound lo 0 = some a) (hb : sBound hi len = some b)
    (h0 : 0 ≤ a) (hab : a ≤ b) (hbc : b ≤ cap) (w : World) : (Instr.sliceBounds isS len cap lv hv none).run P w = .ok (a.toNat, b.toNat, cap) w := by
  have hh : ∃ y : Nat, (b = y) := ⟨b.toNat, by omega⟩
  obtain ⟨y, rfl⟩ := hh
  have hx : ∃ x : Nat, (a = x) := ⟨a.toNat, by omega⟩
  obtain ⟨x, rfl⟩ := hx
  have e1 : (match hv with | some v => Instr.sliceBound v cap (if isS then .sliceAcap else .sliceAlen) | none => pure len).run P w = .ok y w := by
    rcases sBound_some hb with ⟨rfl, hy⟩ | ⟨k, rfl⟩
    · cases hv with
      | none => simp; omega
      | some v => exact h2.elim
    · cases hv with
      | none => exact h2.elim
      | some v =>
        have := (show Sat e n _ v from h2).eq (by simp)
        subst this
        have : y ≤ cap := by omega
        simp [Instr.sliceBound, den, asIntOf, this]
  have e2 : (match lv with | some v => Instr.sliceBound v y (if (none : Option Value).isSome then .slice3C else .sliceB) | none => pure 0).run P w = .ok x w := by
    rcases sBound_some ha with ⟨rfl, hy⟩ | ⟨k, rfl⟩
    · cases lv with
      | none => simp; omega
      | some v => exact h1.elim
    · cases lv with
      | none => exact h1.elim
      | some v =>
        have := (show Sat e n _ v from h1).eq (by simp)
        subst this
        have : x ≤ y := by omega
        simp [Instr.sliceBound, den, asIntOf, this]
  unfold Instr.sliceBounds
  cases hv <;> cases lv <;> simp_all

theorem sSlice_ok {x : SV} {v : Value} (hx : Sat e S.o.length x v) {lo hi mx : Option SV} {lv hv mv : Option Value} (h1 : SatO e S.o.length lo lv) (h2 : SatO e S.o.length hi hv) (h3 : SatO e S.o.length mx mv) (t : TypeId) :
    QOkV G e S P (sSlice P t x lo hi mx) (Instr.sliceAt t v lv hv mv) := by
  unfold sSlice
  split
  · trivial
  · have hm : mv = none := by cases mv with | none => rfl | some _ => exact h3.elim
    subst hm
    split
    · rename_i s hu
      have hv := hx.eq (by simp)
      subst hv
      split
      · rename_i a b ha hb
        rintro ⟨h0, hab, hbl⟩
        refine ⟨.string ⟨(sub s a b).toArray⟩, .inr ⟨rfl, rfl⟩, fun w _ => ?_⟩
        have hs : (⟨s.toArray⟩ : ByteArray).size = s.length := by show s.toArray.size = _; simp
        have := run_sliceBounds (P := P) (isS := false) (len := s.length) (cap := s.length) h1 h2 ha hb h0 hab (by omega) w
        have he : (⟨s.toArray⟩ : ByteArray).extract a.toNat b.toNat = ⟨(sub s a b).toArray⟩ := by
          have := Lib.extract_data ⟨s.toArray⟩ a.toNat b.toNat
          generalize (⟨s.toArray⟩ : ByteArray).extract a.toNat b.toNat = z at this
          obtain ⟨⟨z⟩⟩ := z
          simp at this
          simp [sub, this]
        simp [Instr.sliceAt, run_under hu, Instr.slice, den, hs, this, he]
      · trivial
    · rename_i elem ad n c hu
      have hv := hx.eq (by simp)
      subst hv
      split
      · rename_i a b i ha hb hi'
        rintro ⟨h0, hab, hbc⟩
        refine ⟨_, .inr ⟨rfl, rfl⟩, fun w _ => ?_⟩
        have := run_sliceBounds (P := P) (isS := true) (len := n) (cap := c) h1 h2 ha hb h0 hab hbc w
        simp [Instr.sliceAt, run_under hu, Instr.slice, den, this, run_size hi']
      · trivial
    · trivial
theorem sLen_ok {x : SV} {v : Value} (hx : Sat e S.o.length x v) (t ty : TypeId) : QOkV G e S P (sLen P S.o t x) (Builtin.len_ #[t] ty #[v]) := by
  unfold sLen
  split
  · rename_i s hu
    have hv := hx.eq (by simp)
    subst hv
    intro _
    refine ⟨_, .inr ⟨rfl, rfl⟩, fun w _ => ?_⟩
    have hs : (⟨s.toArray⟩ : ByteArray).size = s.length := by show s.toArray.size = _; simp
    simp [Builtin.len_, run_under hu, den, goInt, hs]
  · rename_i el a n c hu
    have hv := hx.eq (by simp)
    subst hv
    intro _
    exact ⟨_, .inr ⟨rfl, rfl⟩, fun w _ => by simp [Builtin.len_, run_under hu, den, goInt]⟩
  · rename_i el tag hu
    have hv := hx.eq (by simp)
    subst hv
    split
    · rename_i ety sz n xs ho
      intro _
      refine ⟨_, .inr ⟨rfl, rfl⟩, fun w hw => ?_⟩
      obtain ⟨⟨hn, _⟩, _⟩ := hw.ob _ _ ho
      simp [Builtin.len_, run_under hu, den, goInt, hn]
    · trivial
  · rename_i n el _ hu
    intro _
    exact ⟨_, .inr ⟨rfl, rfl⟩, fun w _ => by simp [Builtin.len_, run_under hu, den, goInt]⟩
  · trivial

theorem sEqF_ok {eq : TypeId → SV → SV → Option (Bool × Bool)} {D : Nat} (heq : ∀ t x y p b, eq t x y = some (p, b) → p = true → ∀ w, (Op.equalIn D t (den e x) (den e y)).run P w = .ok b w) (xs ys : List SV) :
    ∀ (fs : List Field) (p : Bool) (b : Bool), sEqF P eq xs ys fs = some (p, b) → p = true → ∀ w, (Op.eqFields D (denL e xs).toArray (denL e ys).toArray fs).run P w = .ok b w
  | [], p, b, h, _, w => by
    simp only [sEqF, Option.some.injEq, Prod.mk.injEq] at h
    simp [Op.eqFields, ← h.2]
  | f :: fs, p, b, h, hp, w => by
    unfold sEqF at h
    split at h
    · simp at h
    · rename_i hn
      split at h
      · rename_i a a' ha ha'
        split at h
        · rename_i p1 r1 p2 r2 h1 h2
          simp only [Option.some.injEq, Prod.mk.injEq] at h
          obtain ⟨rfl, rfl⟩ := h
          simp only [Bool.and_eq_true] at hp
          have hn' : f.name ≠ "_" := by simpa using hn
          have e1 := heq _ _ _ _ _ h1 hp.1 w
          have e2 := sEqF_ok heq xs ys fs _ _ h2 hp.2 w
          cases r1 <;> simp [Op.eqFields, hn', run_part ha, run_part ha', e1, e2]
        · simp at h
      · simp at h

theorem boolOf_den {x : SV} {b : Bool} (h : boolOf x = some b) : den e x = .bool b := by
  unfold boolOf at h
  split at h <;> simp at h <;> subst h <;> rfl

theorem sEq_ok : ∀ (d : Nat) (t : TypeId) (x y : SV) (p : Bool) (b : Bool), sEq P d t x y = some (p, b) → p = true → ∀ D, d ≤ D → ∀ w, (Op.equalIn D t (den e x) (den e y)).run P w = .ok b w
  | 0, t, x, y, p, b, h, _, _, _, _ => by simp [sEq] at h
  | d + 1, t, x, y, p, b, h, hp, D, hD, w => by
    obtain ⟨D, rfl⟩ : ∃ k, D = k + 1 := ⟨D - 1, by omega⟩
    unfold sEq at h
    split at h
    · rename_i k k1 a k2 a' hu
      split at h
      · rename_i hk
        subst hk
        simp only [Option.some.injEq, Prod.mk.injEq] at h
        obtain ⟨rfl, rfl⟩ := h
        exact run_equalIn_int w D t _ _ a a' hu
      · simp at h
    · rename_i a a' hu
      simp only [Option.some.injEq, Prod.mk.injEq] at h
      obtain ⟨rfl, rfl⟩ := h
      have := run_equalIn_string w D t ⟨a.toArray⟩ ⟨a'.toArray⟩ hu
      simpa [den] using this
    · rename_i hu
      split at h
      · rename_i a a' h1 h2
        simp only [Option.some.injEq, Prod.mk.injEq] at h
        obtain ⟨rfl, rfl⟩ := h
        rw [boolOf_den h1, boolOf_den h2]
        exact run_equalIn_bool' w D t a a' hu
      · simp at h
    · rename_i fs xs ys hu
      split at h
      · rename_i q r hq
        simp only [Option.some.injEq, Prod.mk.injEq] at h
        obtain ⟨rfl, rfl⟩ := h
        simp only [Bool.and_eq_true, Bool.not_eq_true'] at hp
        have hf : P.fieldsOf t = fs := by unfold Program.fieldsOf; rw [hu]
        have := run_equalIn_struct w D t (denL e xs).toArray (denL e ys).toArray (by rw [hf]; exact hu) hp.1
        rw [hf] at this
        simp only [den]
        rw [this]
        exact sEqF_ok (fun t x y p b h hp w => sEq_ok d t x y p b h hp D (by omega) w) xs ys _ _ _ hq hp.2 w
      · simp at h
    · simp at h

theorem qval {ob : Option Prop} {x : SV} {s : Sem Value} (h : obT ob → bel S.o.length x = true ∧ ∀ w, s.run P w = .ok (den e x) w) : QOkV G e S P (.val ob x) s :=
  fun ho => ⟨den e x, .inr ⟨rfl, (h ho).1⟩, fun w _ => (h ho).2 w⟩

theorem sBin_int {k : IntKind} {a b : Int} (c : Cfg) (op : BinOp) (t : TypeId) (X Y : Operand) :
    QOkV G e S P (sBin P c op t (.int k a) (.int k b)) (do eqGuard op t X Y (.int k a) (.int k b); binOp op t (.int k a) (.int k b)) := by
  simp only [eqGuard_at_int, pure_bind]
  cases op <;> simp only [sBin, if_true] <;> first
    | trivial
    | (cases c.wrap <;> simp only [Bool.false_eq_true, if_false, if_true] <;> refine qval fun ho => ⟨rfl, fun w => ?_⟩ <;> first | (simp [binOp, Op.intArith, den, wrap_in ho]; done) | (simp [binOp, Op.intArith, den]; done))
    | (refine qval fun ho => ⟨rfl, fun w => ?_⟩; first | (simp [binOp, Op.intDiv, den, wrap_in ho.2, ho.1]; done) | (have ho' : b ≠ 0 := ho; simp [binOp, Op.intDiv, den, ho']; done) | (simp [binOp, Op.intCmp, den]; done) | (simp only [binOp, ne_eq, not_true, if_false]; rfl))

theorem sBin_str {a b : List UInt8} (c : Cfg) (op : BinOp) (t : TypeId) (X Y : Operand) :
    QOkV G e S P (sBin P c op t (.str a) (.str b)) (do eqGuard op t X Y (.string ⟨a.toArray⟩) (.string ⟨b.toArray⟩); binOp op t (.string ⟨a.toArray⟩) (.string ⟨b.toArray⟩)) := by
  simp only [eqGuard_at_string, pure_bind]
  cases op <;> simp only [sBin] <;> first
    | trivial
    | (refine qval fun ho => ⟨rfl, fun w => ?_⟩; first | (simp [binOp, Op.stringOp, den]; done) | skip)
  have ho' : a.length + b.length ≤ 9223372036854775807 := ho
  rw [show binOp .add t (.string ⟨a.toArray⟩) (.string ⟨b.toArray⟩) = Op.stringOp .add ⟨a.toArray⟩ ⟨b.toArray⟩ from by simp [binOp]]
  rw [run_string_add_sum _ _ _ (by show a.toArray.size + b.toArray.size ≤ _; simp; omega), ByteArray.mk_append_mk]
  rfl

theorem sBin_agg {xs ys : List SV} (c : Cfg) (op : BinOp) (t : TypeId) (X Y : Operand) :
    QOkV G e S P (sBin P c op t (.agg xs) (.agg ys)) (do eqGuard op t X Y (.agg (denL e xs).toArray) (.agg (denL e ys).toArray); binOp op t (.agg (denL e xs).toArray) (.agg (denL e ys).toArray)) := by
  cases op <;> simp only [sBin] <;> first | trivial | skip
  all_goals
    split
    · rename_i p b hq
      refine qval fun ho => ⟨rfl, fun w => ?_⟩
      have ho := ClosedB.out ho
      simp only [Bool.and_eq_true, Bool.not_eq_true'] at ho
      have h1 := run_eqGuard_agg (P := P) w .eql t X Y (denL e xs).toArray (denL e ys).toArray ho.1
      have h1' := run_eqGuard_agg (P := P) w .neq t X Y (denL e xs).toArray (denL e ys).toArray ho.1
      have h2 := sEq_ok (e := e) 4 _ _ _ _ _ hq ho.2 10000 (by omega) w
      simp only [den] at h2
      simp only [Sem.run_bind, h1, h1', Result.andThen_ok, run_eql_struct, run_neq_struct, h2]
      rfl
    · trivial

theorem sBin_ok {x y : SV} {v u : Value} (hx : Sat e S.o.length x v) (hy : Sat e S.o.length y u) (c : Cfg) (op : BinOp) (t : TypeId) (X Y : Operand) :
    QOkV G e S P (sBin P c op t x y) (do eqGuard op t X Y v u; binOp op t v u) := by
  generalize hr : sBin P c op t x y = r
  unfold sBin at hr
  split at hr
  · rename_i k a k' b
    have hv := hx.eq (by simp)
    have hu := hy.eq (by simp)
    subst hv; subst hu
    by_cases hk : k = k'
    · subst hk; subst hr
      exact sBin_int c op t X Y
    · subst hr
      split
      · trivial
      · trivial
      · rw [if_neg hk]; trivial
  · rename_i a b
    have hv := hx.eq (by simp)
    have hu := hy.eq (by simp)
    subst hv; subst hu; subst hr
    exact sBin_str c op t X Y
  · rename_i xs ys
    have hv := hx.eq (by simp)
    have hu := hy.eq (by simp)
    subst hv; subst hu; subst hr
    exact sBin_agg c op t X Y
  · subst hr
    split
    · rename_i a b h1 h2 hu
      have hv := hx.eq (by intro h; subst h; simp [boolOf] at h1)
      have hu' := hy.eq (by intro h; subst h; simp [boolOf] at h2)
      rw [boolOf_den h1] at hv; rw [boolOf_den h2] at hu'
      subst hv; subst hu'
      refine qval fun _ => ⟨rfl, fun w => ?_⟩
      have hq : (Op.equalIn 10000 t (.bool a) (.bool b)).run P w = .ok (a == b) w := run_equalIn_bool' w 9999 t a b hu
      simp [binOp, Op.equal, Op.maxDepth, hq, den, eqGuard_at_bool]
    · rename_i a b h1 h2 hu
      have hv := hx.eq (by intro h; subst h; simp [boolOf] at h1)
      have hu' := hy.eq (by intro h; subst h; simp [boolOf] at h2)
      rw [boolOf_den h1] at hv; rw [boolOf_den h2] at hu'
      subst hv; subst hu'
      refine qval fun _ => ⟨rfl, fun w => ?_⟩
      have hq : (Op.equalIn 10000 t (.bool a) (.bool b)).run P w = .ok (a == b) w := run_equalIn_bool' w 9999 t a b hu
      simp [binOp, Op.equal, Op.maxDepth, hq, den, eqGuard_at_bool]
    · trivial

theorem sUn_ok {x : SV} {v : Value} (hx : Sat e S.o.length x v) (c : Cfg) (op : UnOp) : QOkV G e S P (sUn c op x) (Op.unary op v) := by
  unfold sUn
  split
  · have hv := hx.eq (by simp)
    subst hv
    exact qval fun _ => ⟨rfl, fun w => by simp [Op.unary, den]⟩
  · have hv := hx.eq (by simp)
    subst hv
    exact qval fun _ => ⟨rfl, fun w => by simp [Op.unary, den]⟩
  · have hv := hx.eq (by simp)
    subst hv
    split
    · exact qval fun _ => ⟨rfl, fun w => by simp [Op.unary, Op.intArith, den]⟩
    · exact qval fun ho => ⟨rfl, fun w => by simp [Op.unary, Op.intArith, den, wrap_in ho]⟩
  · trivial

theorem sConv_ok {x : SV} {v : Value} (hx : Sat e S.o.length x v) (c : Cfg) (s d : TypeId) : QOkV G e S P (sConv P c s d x) (convert s d v) := by
  unfold sConv
  split
  · rename_i ds k k0 n h1 h2
    have hv := hx.eq (by simp)
    subst hv
    split
    · exact qval fun _ => ⟨rfl, fun w => by simp [convert, run_under h1, run_under h2, den, Conv.intToInt]⟩
    · exact qval fun ho => ⟨rfl, fun w => by simp [convert, run_under h1, run_under h2, den, Conv.intToInt, wrap_in ho]⟩
  · rename_i ds s' h1 h2
    have hv := hx.eq (by simp)
    subst hv
    exact qval fun _ => ⟨rfl, fun w => by simp [convert, run_under h1, run_under h2, den]⟩
  · trivial

theorem sField_ok {x : SV} {v : Value} (hx : Sat e S.o.length x v) (t : TypeId) (f : Nat) : QOkV G e S P (sField P t x f) (Instr.field t v f) := by
  unfold sField
  split
  · rename_i fs cs hu
    have hv := hx.eq (by simp)
    have hb := hx.bel (by simp)
    subst hv
    split
    · rename_i fd hf
      split
      · rename_i y hy
        refine qval fun _ => ⟨bel_part' (by simpa [bel] using hb) hy, fun w => ?_⟩
        simp [Instr.field, run_under hu, hf, den, asAgg, run_part hy]
      · trivial
    · trivial
  · trivial

theorem sExtract_ok {x : SV} {v : Value} (hx : Sat e S.o.length x v) (i : Nat) : QOkV G e S P (sExtract x i) (Instr.extract v i) := by
  unfold sExtract
  split
  · rename_i vs
    have hv := hx.eq (by simp)
    have hb := hx.bel (by simp)
    subst hv
    split
    · rename_i y hy
      refine qval fun _ => ⟨belL_get (by simpa [bel] using hb) hy, fun w => ?_⟩
      simp [Instr.extract, den, denL_get hy]
    · trivial
  · trivial

theorem sIndexAddr_ok {x i : SV} {v j : Value} (hx : Sat e S.o.length x v) (hi : Sat e S.o.length i j) (t : TypeId) : QOkV G e S P (sIndexAddr P S.o t x i) (Instr.indexAt t v j) := by
  unfold sIndexAddr
  split
  · rename_i el a n c k m hu
    have hv := hx.eq (by simp)
    have hj := hi.eq (by simp)
    subst hv; subst hj
    split
    · rename_i inf hin
      rintro v ⟨⟨h0, h1⟩, ad, rfl, rfl⟩
      refine ⟨_, .inr ⟨rfl, rfl⟩, fun w _ => ?_⟩
      simp [Instr.indexAt, den, asIntOf, run_under hu, h0, h1, run_size hin]
    · trivial
  · rename_i el tag c k hu
    have hv := hx.eq (by simp)
    have hj := hi.eq (by simp)
    subst hv; subst hj
    split
    · rename_i inf _ sz n xs hin hg
      split
      · rename_i hsz
        have hsz := Nat.eq_of_beq_eq_true hsz
        rintro ⟨h0, h1⟩
        refine ⟨_, .inr ⟨rfl, hx.bel (by simp)⟩, fun w hw => ?_⟩
        obtain ⟨⟨hn, _⟩, ⟨_, h2, _⟩ | ⟨hl, _⟩⟩ := hw.ob _ _ (getList_some hg)
        · omega
        · have h1' : k < ((e.loc tag).2.1 : Int) := by rw [hn]; exact h1
          simp [Instr.indexAt, den, asIntOf, run_under hu, h0, h1', run_size hin, hl, Addr.add, hsz]
          exact fun h => h.symm
      · trivial
    · trivial
  · trivial

theorem sNil_ok {x : SV} {v : Value} (hx : Sat e S.o.length x v) (X : Operand) (a : Act) (hv : a.eval X = v) (o : Oper) (ho : o.op = .nilCheck X) : QOk G e S P (sNil x) (execOp a.eval o) := by
  unfold sNil
  split
  · have h := hx.eq (by simp)
    refine fun _ => ⟨v, hx, fun w _ => ?_⟩
    simp only [execOp, ho, hv, h, den]
    rfl
  · have h := hx.eq (by simp)
    refine fun _ => ⟨v, hx, fun w _ => ?_⟩
    simp only [execOp, ho, hv, h, den]
    rfl
  · have h := hx.eq (by simp)
    refine fun _ => ⟨v, hx, fun w _ => ?_⟩
    simp only [execOp, ho, hv, h, den]
    rfl
  · have h := hx.eq (by simp)
    refine fun _ => ⟨v, hx, fun w _ => ?_⟩
    simp only [execOp, ho, hv, h, den]
    rfl
  · have h := hx.eq (by simp)
    refine fun _ => ⟨v, hx, fun w _ => ?_⟩
    simp only [execOp, ho, hv, h, den]
    rfl
  · trivial

theorem SatL_den {n : Nat} {a : Act} {ts : List SV} (h : TOk e n ts a.tmps) : ∀ (l : List Operand), noJunk (l.map (ev ts)) = true → l.map a.eval = denL e (l.map (ev ts)) ∧ belL n (l.map (ev ts)) = true
  | [], _ => ⟨rfl, rfl⟩
  | x :: l, hj => by
    have hx := ev_sat h x
    simp only [List.map_cons] at hj ⊢
    generalize ev ts x = y at *
    have hy : y ≠ .junk := by rintro rfl; simp [noJunk] at hj
    have hj' : noJunk (l.map (ev ts)) = true := by cases y <;> first | (exact absurd rfl hy) | simpa [noJunk] using hj
    obtain ⟨h1, h2⟩ := SatL_den h l hj'
    exact ⟨by rw [h1, hx.eq hy]; rfl, by simp [belL, hx.bel hy, h2]⟩

theorem sMinMax_ok (mx : Bool) {vs : List Value} {xs : List SV} (h : noJunk xs = true → vs = denL e xs) (ats : Array TypeId) (ty : TypeId) :
    QOkV G e S P (sMinMax mx xs) (if mx then Builtin.max_ ats ty vs.toArray else Builtin.min_ ats ty vs.toArray) := by
  unfold sMinMax
  split
  · rename_i k a k' b
    split
    · rename_i hk
      subst hk
      have h1 := h rfl
      subst h1
      refine qval fun _ => ⟨rfl, fun w => ?_⟩
      cases mx
      · simp [Builtin.min_, Builtin.min2, denL, den]
        omega
      · simp [Builtin.max_, Builtin.max2, denL, den]
        omega
    · trivial
  · trivial

/-! ### building structs and arrays -/

theorem svc_cells {x : SV} {cs : List SV} (h : svc x = some cs) : x ≠ .junk ∧ (den e x).cells.toList = denL e cs ∧ ∀ n, bel n x = true → belL n cs = true := by
  unfold svc at h
  split at h <;> simp only [Option.some.injEq, reduceCtorEq] at h <;> subst h
  · exact ⟨by simp, by simp [den, Value.cells], fun n hb => by simpa [bel] using hb⟩
  · rename_i h1 h2 h3 h4 h5
    have hv : (den e x).cells = #[den e x] := by
      cases x with
      | val v => cases v <;> first | rfl | exact (h4 _ rfl).elim | exact (h5 _ rfl).elim
      | agg cs => exact (h3 _ rfl).elim
      | _ => rfl
    exact ⟨h1, by rw [hv]; simp [denL], fun n hb => by simpa [belL] using hb⟩

theorem denL_set (cells : List SV) (i : Nat) (c : SV) : denL e (cells.set i c) = (denL e cells).set i (den e c) := by
  simp [denL_eq, List.map_set]

theorem setAll_den (off : Nat) : ∀ (cs cells : List SV) (k : Nat), (denL e (setAll cells (off + k) cs)).toArray = ((denL e cs).zipIdx k).foldl (fun acc (p : Value × Nat) => acc.setIfInBounds (off + p.2) p.1) (denL e cells).toArray
  | [], cells, k => by simp [setAll, denL]
  | c :: cs, cells, k => by
    simp only [setAll, denL, List.zipIdx_cons, List.foldl_cons]
    have := setAll_den off cs (cells.set (off + k) c) (k + 1)
    rw [← Nat.add_assoc] at this
    rw [this, denL_set]
    simp

theorem setAll_length : ∀ (cs cells : List SV) (off : Nat), (setAll cells off cs).length = cells.length
  | [], _, _ => rfl
  | c :: cs, cells, off => by simp [setAll, setAll_length cs]

theorem belL_set {n : Nat} {cells : List SV} {c : SV} (h : belL n cells = true) (hc : bel n c = true) (i : Nat) : belL n (cells.set i c) = true := by
  rw [belL_eq, List.all_eq_true] at *
  intro x hx
  rcases List.mem_or_eq_of_mem_set hx with hx | rfl
  · exact h x hx
  · exact hc

theorem setAll_bel {n : Nat} : ∀ (cs cells : List SV) (off : Nat), belL n cells = true → belL n cs = true → belL n (setAll cells off cs) = true
  | [], _, _, h, _ => h
  | c :: cs, cells, off, h, hc => by
    simp only [belL, Bool.and_eq_true] at hc
    exact setAll_bel cs _ _ (belL_set h hc.1 _) hc.2

/-- Each part, read by its operand. -/
def PartsSat (e : Env) (n : Nat) : List (Nat × SV) → List (Nat × Value) → Prop
  | [], [] => True
  | (i, x) :: l, (j, v) :: r => i = j ∧ Sat e n x v ∧ PartsSat e n l r
  | _, _ => False

theorem sFill_ok {n : Nat} (place : Nat → Option (Nat × Nat)) : ∀ (parts : List (Nat × SV)) (vparts : List (Nat × Value)) (cells res : List SV), PartsSat e n parts vparts → sFill place cells parts = some res → belL n cells = true →
    Instr.fill place (denL e cells).toArray vparts = some (denL e res).toArray ∧ belL n res = true
  | [], [], cells, res, _, h, hb => by
    simp only [sFill, Option.some.injEq] at h
    subst h
    exact ⟨rfl, hb⟩
  | (i, x) :: l, (j, v) :: r, cells, res, hp, h, hb => by
    obtain ⟨rfl, hx, hp⟩ := hp
    simp only [sFill] at h
    split at h
    · rename_i off size cs hpl hc
      obtain ⟨hj, hcells, hbel⟩ := svc_cells (e := e) hc
      have hv := hx.eq hj
      have hbc := hbel n (hx.bel hj)
      subst hv
      split at h
      · rename_i hcond
        simp only [Bool.and_eq_true] at hcond
        have h1 : cs.length = size := Nat.eq_of_beq_eq_true hcond.1
        have h2 : off + cs.length ≤ cells.length := Nat.le_of_ble_eq_true hcond.2
        have hsz : (den e x).cells.size = cs.length := by rw [← Array.length_toList, hcells, denL_length]
        rw [setAllK_eq] at h
        have ih := sFill_ok place l r (setAll cells off cs) res hp h (setAll_bel _ _ _ hb hbc)
        refine ⟨?_, ih.2⟩
        have hs := setAll_den (e := e) off cs cells 0
        simp only [Nat.add_zero] at hs
        have hf : ((den e x).cells.zipIdx.foldl (fun cs (p : Value × Nat) => cs.setIfInBounds (off + p.2) p.1) (denL e cells).toArray) = (denL e (setAll cells off cs)).toArray := by
          rw [hs, ← Array.foldl_toList, Array.toList_zipIdx, hcells]
        unfold Instr.fill
        simp only [hpl, hsz]
        rw [if_neg]
        · rw [← ih.1, ← hf]
        · simp [h1, denL_length]; omega
      · simp at h
    · simp at h
  | [], _ :: _, _, _, hp, _, _ => hp.elim
  | (_, _) :: _, [], _, _, hp, _, _ => hp.elim

theorem zeroCells_den (z : Value) : (denL e (zeroCells z)).toArray = z.cells := by simp [zeroCells, denL_ofC]
theorem zeroCells_bel (n : Nat) (z : Value) : belL n (zeroCells z) = true := belL_ofC n _

theorem sZero_ok {t : TypeId} {z : Value} (h : sZero P t = some z) (w : World) : (zeroValue t).run P w = .ok z w := by
  unfold sZero at h
  split at h
  · rename_i i hi
    simp [zeroValue, run_info hi, h]
  · simp at h

def placeOf (f : Field) : Sem (Nat × Nat) := do pure (f.offset, ← sizeOf f.type)
theorem run_places : ∀ (fs : List Field), infoAll P fs = true → ∀ w, (fs.mapM placeOf).run P w = .ok (fs.map fun f => (f.offset, P.cellsOf f.type)) w
  | [], _, w => by simp
  | f :: fs, h, w => by
    simp only [infoAll, Bool.and_eq_true] at h
    obtain ⟨i, hi⟩ := Option.isSome_iff_exists.1 h.1
    simp [placeOf, run_size hi, run_places fs h.2 w, Program.cellsOf, hi]

theorem sBuild_ok {parts : List (Nat × SV)} {vparts : List (Nat × Value)} (hp : PartsSat e S.o.length parts vparts) (t : TypeId) : QOkV G e S P (sBuild P t parts) (Instr.build t vparts.toArray) := by
  unfold sBuild
  split
  · trivial
  · rename_i z hz
    split
    · rename_i fs hu
      split
      · rename_i hi
        split
        · rename_i cells hf
          obtain ⟨h1, h2⟩ := sFill_ok (e := e) _ parts vparts _ _ hp hf (zeroCells_bel _ z)
          refine qval fun _ => ⟨by simpa [bel] using h2, fun w => ?_⟩
          rw [zeroCells_den] at h1
          have hpl : (fs.mapM placeOf).run P w = .ok (fs.map fun f => (f.offset, P.cellsOf f.type)) w := by
            have := run_places (P := P) fs.toList hi w
            rw [Array.mapM_eq_mapM_toList, Sem.run_map, this]
            obtain ⟨l⟩ := fs
            simp
          have hplace : (fun (i : Nat) => (fs.map fun f : Field => (f.offset, P.cellsOf f.type))[i]?) = structPlace P fs := by
            funext i
            unfold structPlace
            rw [Array.getElem?_map]
            cases fs[i]? <;> rfl
          have hpl' : (fs.mapM fun (f : Field) => (do let s ← sizeOf f.type; pure (f.offset, s) : Sem (Nat × Nat))).run P w = .ok (fs.map fun f => (f.offset, P.cellsOf f.type)) w := hpl
          simp only [Instr.build, Sem.run_bind, sZero_ok hz, Result.andThen_ok, run_under hu, hpl', hplace, h1]
          rfl
        · trivial
      · trivial
    · rename_i len el hu
      split
      · rename_i i hi
        split
        · rename_i cells hf
          obtain ⟨h1, h2⟩ := sFill_ok (e := e) _ parts vparts _ _ hp hf (zeroCells_bel _ z)
          refine qval fun _ => ⟨by simpa [bel] using h2, fun w => ?_⟩
          rw [zeroCells_den] at h1
          simp only [Instr.build, Sem.run_bind, sZero_ok hz, Result.andThen_ok, run_under hu, run_size hi, h1]
          rfl
        · trivial
      · trivial
    · trivial
end Go.Pw
