/-
  A concrete evaluator for Go's IR. Part h2: a string's bytes are appended; where a row of bytes begins; a string over a row of bytes.
-/
import Derived.Test.YtelgaffeihgffaaGreatDoorCh
import Derived.Lib.AppendStr
import Derived.Lib.UnsafeStr
set_option linter.unusedSimpArgs false
set_option linter.unusedVariables false
namespace Go.Cx
open Go Go.RowKit
variable {e : Env} {P : Program} {w : World} {m : Mem} {W0 : Bas}

theorem bytes_den (e : Env) : ∀ s : List Nat, denL e (s.map fun b => CV.int .u8 (.ofNat (b % 256))) = some ((s.map UInt8.ofNat).map fun b => Value.int .u8 b.toNat)
  | [] => rfl
  | b :: s => denL_cons_some (by simp [den]) (bytes_den e s)
theorem bytes_one : ∀ s : List Nat, (s.map fun b => CV.int .u8 (.ofNat (b % 256))).all one = true
  | [] => rfl
  | b :: s => by simp [one]

/-- A string is appended where there is no room. -/
theorem str_grows (t u ty el : TypeId) (i : TypeInfo) (z : Value) (ht : P.underlying t = some (.slice el)) (hu : P.underlying u = some .string) (hi : P.info? el = some i) (hz : i.zero = some z) (hs1 : i.size = 1) (hzs : z.cells.size = 1)
    (b : Addr) (n cap : Nat) (olds : List Value) (hlo : olds.length = n) (holds : ∀ j v, olds[j]? = some v → w.cell? (b.add j) = some v)
    (s : ByteArray) (hg : cap < n + s.size) (h63 : n + s.size ≤ maxLen) (hbytes : (n + s.size) * i.bytes ≤ 140737488355328) :
    ∃ v' w', (Builtin.append_ #[t, u] ty #[.slice (some b) n cap, .string s]).run P w = .ok v' w' ∧ w'.ownsRow w.heap.size el 1 v' (n + s.size) (olds ++ Lib.strCells s) ∧ w.grownBy w' none := by
  have hsmall : n + s.size ≤ 9223372036854775807 := by simp only [maxLen] at h63; omega
  have hlen : (olds ++ Lib.strCells s).length = (n + s.size) * 1 := by rw [List.length_append, hlo, Lib.strCells_length, Nat.mul_one]
  have hge := grownCap_ge w (n + s.size) cap el
  have hcm : grownCap w (n + s.size) cap el ≤ maxLen := grownCap_le_maxLen w (n + s.size) cap el h63
  have hr := Lib.run_append_grow_string (P := P) w t u ty el i z ht hu hi hz b n cap olds (by rw [hs1]; omega) holds s hg (by omega) (growslice_fits hg hbytes)
  refine ⟨_, _, hr, ⟨hlen, .inr ⟨w.heap.size, _, _, rfl, Nat.le_refl _, heap_alloc_new w.drew _, hge, hcm, ?_, ?_⟩⟩, ⟨rfl, rfl, rfl, by simp, fun k hk _ => Go.heap_alloc_old w.drew _ hk⟩⟩
  · simp only [Array.size_append, List.size_toArray, size_zeroCells, hzs, hlo, Lib.strCells_length]
    omega
  · simp only [Array.toList_append, List.append_assoc]
    rw [← List.append_assoc, ← hlen]
    exact List.take_left
/-- The same, onto nil. -/
theorem str_grows_nil (t u ty el : TypeId) (i : TypeInfo) (z : Value) (ht : P.underlying t = some (.slice el)) (hu : P.underlying u = some .string) (hi : P.info? el = some i) (hz : i.zero = some z) (hs1 : i.size = 1) (hzs : z.cells.size = 1)
    (s : ByteArray) (hg : 0 < s.size) (h63 : s.size ≤ maxLen) (hbytes : s.size * i.bytes ≤ 140737488355328) :
    ∃ v' w', (Builtin.append_ #[t, u] ty #[.slice none 0 0, .string s]).run P w = .ok v' w' ∧ w'.ownsRow w.heap.size el 1 v' s.size (Lib.strCells s) ∧ w.grownBy w' none := by
  have hsmall : s.size ≤ 9223372036854775807 := by simp only [maxLen] at h63; omega
  have hlen : (Lib.strCells s).length = s.size * 1 := by rw [Lib.strCells_length, Nat.mul_one]
  have hge := grownCap_ge w s.size 0 el
  have hcm : grownCap w s.size 0 el ≤ maxLen := grownCap_le_maxLen w s.size 0 el h63
  have hr := run_append_nil_string (P := P) w t u ty el i z ht hu hi hz s hg (by omega) (by omega)
  have e1 : (s.data.map fun b => Value.int .u8 b.toNat) = (Lib.strCells s).toArray := by
    apply Array.ext'
    simp [Lib.strCells]
  rw [e1] at hr
  refine ⟨_, _, hr, ⟨hlen, .inr ⟨w.heap.size, _, _, rfl, Nat.le_refl _, heap_alloc_new w.drew _, hge, hcm, ?_, ?_⟩⟩, ⟨rfl, rfl, rfl, by simp, fun k hk _ => Go.heap_alloc_old w.drew _ hk⟩⟩
  · simp only [Array.size_append, List.size_toArray, size_zeroCells, hzs, Lib.strCells_length]
    omega
  · simp only [Array.toList_append]
    rw [← hlen]
    exact List.take_left

theorem cAppendS_ok (h : Rel W0 e m w) {TT : Nat} (hTT : e TT = none ∧ ¬ W0.Z TT) {s : CV} {bs : List Nat} {S : Value} (hs : den e s = some S) (T T2 ty : TypeId) :
    EOk W0 P e m w (cAppendS P TT m T T2 s bs) (Builtin.append_ #[T, T2] ty #[S, .string ⟨(bs.map UInt8.ofNat).toArray⟩]) := by
  unfold cAppendS
  split
  · rename_i elem hu hu2
    split
    · rename_i inf z hi hz
      obtain ⟨iz, zv, hiz, hzz, hzd⟩ := zeroC_some hz
      obtain rfl : inf = iz := by rw [hi] at hiz; cases hiz; rfl
      split
      · rename_i hc
        simp only [Bool.and_eq_true] at hc
        have i1 : inf.size = 1 := Nat.eq_of_beq_eq_true hc.1
        have g4 : zv.cells.size = 1 := by rw [← Nat.eq_of_beq_eq_true hc.2, ← denL_length (hzd e)]; simp
        have g1 : 0 < 1 := by omega
        split
        · rename_i n old hold
          generalize hB : (⟨(bs.map UInt8.ofNat).toArray⟩ : ByteArray) = B
          have hsize : B.size = bs.length := by rw [← hB]; exact size_str bs
          have hus : Lib.strCells B = (bs.map UInt8.ofNat).map fun b => Value.int .u8 b.toNat := by rw [← hB]; simp [Lib.strCells]
          have u1 : denL e (bs.map fun b => CV.int .u8 (.ofNat (b % 256))) = some (Lib.strCells B) := by rw [hus]; exact bytes_den e bs
          have an := bytes_one bs
          obtain ⟨vs, v1, v2, v3, v4⟩ := elems_ok h.ok hold hs
          have ao := elems_all (V := S) h.ok hold
          split
          · rename_i hfit
            simp only [fits, Bool.and_eq_true] at hfit
            have f1 := Nat.le_of_ble_eq_true hfit.1
            have f2 := Nat.le_of_ble_eq_true hfit.2
            have f3 : n + bs.length ≤ maxLen := by simp only [maxLen]; omega
            have f4 : (n + bs.length) * inf.bytes ≤ 140737488355328 := Nat.le_trans (Nat.mul_le_mul f1 f2) (by omega)
            have hfc := Lib.run_firstCells_string (P := P) w 1 B
            have zeroCase : bs.length = 0 → ∀ (b : Option Addr) (k c : Nat), k ≤ c → (Builtin.append_ #[T, T2] ty #[.slice b k c, .string B]).run P w = .ok (.slice b k c) w := fun h0 b k c hkc => by
              have hz0 : Lib.strCells B = [] := List.eq_nil_of_length_eq_zero (by rw [Lib.strCells_length, hsize, h0])
              have hb0 : B.size = 0 := by omega
              rw [hb0, hz0] at hfc
              cases b <;> simp [Builtin.append_, run_under hu, run_under hu2, run_size hi, i1, Builtin.lenOf, hb0, hkc, hfc, storeCells]
            split
            · -- nothing is appended
              rename_i h0
              have h0 : bs.length = 0 := h0
              unfold ap0
              split
              · rename_i t off k c
                split
                · rename_i hkc
                  have hkc := Nat.le_of_ble_eq_true hkc
                  simp only [den, Option.map_eq_some_iff] at hs
                  obtain ⟨b, hb, rfl⟩ := hs
                  exact ⟨_, by simp only [den, hb, Option.map_some], zeroCase h0 _ _ _ hkc⟩
                · trivial
              · rename_i hns
                rcases v4 with ⟨rfl, rfl, _⟩ | ⟨ad, c, rfl, _⟩
                · exact ⟨_, rfl, zeroCase h0 _ _ _ (Nat.le_refl _)⟩
                · refine ⟨_, hs, zeroCase h0 _ _ _ ?_⟩
                  unfold elems at hold
                  split at hold
                  · simp [den] at hs
                  · exact absurd rfl (hns _ _ _ _)
                  · rename_i t k n'
                    split at hold
                    · rename_i ty' sz' cs' ho
                      split at hold
                      · split at hold
                        · rename_i l' ht
                          simp only [Option.some.injEq, Prod.mk.injEq] at hold
                          obtain ⟨rfl, rfl⟩ := hold
                          rename_i hszz _
                          have hszz := Nat.eq_of_beq_eq_true hszz
                          obtain ⟨b, lv, pre, suf, h1, h2, h3, h4, h5, h6, h7, h8, h9⟩ := h.ok _ _ ho
                          simp only [den, Option.map_eq_some_iff] at hs
                          obtain ⟨b', hb', hq⟩ := hs
                          obtain rfl : b = b' := by rw [h1] at hb'; cases hb'; rfl
                          cases hq
                          obtain ⟨q1, _⟩ := takeB_some ht
                          have q2 : cs'.length ≤ b.cap * sz' := by rw [← h8, ← denL_length h5]; simp
                          have q3 : (k + n') * sz' ≤ b.cap * sz' := by rw [hszz, Nat.add_mul]; rw [hszz] at q2; omega
                          have := Nat.le_of_mul_le_mul_right q3 h3
                          omega
                        · cases hold
                      · cases hold
                    · cases hold
                  · simp only [Option.some.injEq, Prod.mk.injEq] at hold
                    obtain ⟨rfl, _⟩ := hold
                    omega
                  · simp only [Option.some.injEq, Prod.mk.injEq] at hold
                    obtain ⟨rfl, _⟩ := hold
                    omega
                  · cases hold
            · -- something is appended
              rename_i k hkk
              have hkk : bs.length = k + 1 := hkk
              have hBk : B.size = k + 1 := by omega
              rw [hkk] at f1 f3 f4
              generalize husd : Lib.strCells B = us at *
              have u2 : us.length = k + 1 := by rw [← husd, Lib.strCells_length, hBk]
              have u3 : ∀ u ∈ us, u.oneCell' = true := by rw [← husd]; exact Lib.strCells_oneCell B
              have hlen : (vs ++ us).length = (n + (k + 1)) * 1 := by rw [List.length_append, v2, u2]; omega
              rw [hBk] at hfc
              have hdd := denL_append v1 u1
              unfold apGo
              split
              · -- nil
                have : n = 0 ∧ vs = [] ∧ old = [] := by
                  simp only [elems, Option.some.injEq, Prod.mk.injEq] at hold
                  obtain ⟨rfl, rfl⟩ := hold
                  exact ⟨rfl, List.eq_nil_of_length_eq_zero (by simpa using v2), rfl⟩
                obtain ⟨rfl, rfl, rfl⟩ := this
                simp only [den, Option.some.injEq] at hs; subst hs
                obtain ⟨v', w', r1, r2, r3⟩ := str_grows_nil (P := P) (w := w) T T2 ty elem inf zv hu hu2 hi hzz i1 g4 B (by omega) (by omega) (by rw [hBk]; simpa using f4)
                rw [hBk, husd] at r2
                obtain ⟨e', q1, q2, q3⟩ := grown_ok h hTT (fun _ _ h => h) rfl g1 hdd (all_append ao an) (k := k + 1) (by omega) (by simpa using hlen) (by simpa using r2) r3
                exact ⟨e', v', w', q1, q2, by simpa using q3, r1⟩
              · -- a slice without room that came in
                rename_i a0
                have : n = 0 ∧ vs = [] ∧ old = [] := by
                  simp only [elems, Option.some.injEq, Prod.mk.injEq] at hold
                  obtain ⟨rfl, rfl⟩ := hold
                  exact ⟨rfl, List.eq_nil_of_length_eq_zero (by simpa using v2), rfl⟩
                obtain ⟨rfl, rfl, rfl⟩ := this
                simp only [den, Option.some.injEq] at hs; subst hs
                obtain ⟨v', w', r1, r2, r3⟩ := str_grows (P := P) (w := w) T T2 ty elem inf zv hu hu2 hi hzz i1 g4 a0 0 0 [] rfl (fun j u hj => by simp at hj) B (by omega) (by omega) (by rw [hBk]; exact f4)
                rw [hBk, husd] at r2
                obtain ⟨e', q1, q2, q3⟩ := grown_ok h hTT (fun _ _ h => h) rfl g1 hdd (all_append ao an) (k := k + 1) (by omega) (by simpa using hlen) (by simpa using r2) r3
                exact ⟨e', v', w', q1, q2, by simpa using q3, r1⟩
              · -- a slice of known room
                rename_i t off n' c
                unfold apSlc
                have hn : n' = n := by
                  unfold elems at hold
                  simp only at hold
                  split at hold
                  · split at hold
                    · simp only [Option.some.injEq, Prod.mk.injEq] at hold; exact hold.1
                    · cases hold
                  · split at hold
                    · simp only [Option.some.injEq, Prod.mk.injEq] at hold; exact hold.1
                    · cases hold
                  · split at hold
                    · simp only [Option.some.injEq, Prod.mk.injEq] at hold; exact hold.1
                    · cases hold
                  · cases hold
                subst hn
                simp only [den, Option.map_eq_some_iff] at hs
                obtain ⟨b, hb, rfl⟩ := hs
                have v5 : ∀ j u, vs[j]? = some u → w.cell? ((⟨b.blk, b.off + off, none⟩ : Addr).add j) = some u := by
                  rcases v4 with ⟨hq, _⟩ | ⟨ad', c', hq, hv⟩
                  · cases hq
                  · cases hq; exact hv
                split
                · rename_i hroom
                  have hroom := Nat.le_of_ble_eq_true hroom
                  split
                  · rename_i m' hw
                    obtain ⟨b', w', k1, k2, k3⟩ := wr_ok (P := P) h hw u1
                    obtain rfl : b = b' := by rw [hb] at k1; cases k1; rfl
                    refine ⟨e, .slice (some ⟨b.blk, b.off + off, none⟩) (n' + (k + 1)) c, w', Env.le.refl e, by simp [den, hb], k3, ?_⟩
                    have ka : (⟨b.blk, b.off + off, none⟩ : Addr).add n' = ⟨b.blk, b.off + (off + n'), none⟩ := by rw [Addr.add_lit, Nat.add_assoc]
                    rw [Nat.mul_one] at k2
                    simp [Builtin.append_, run_under hu, run_under hu2, run_size hi, i1, Builtin.lenOf, hBk, hroom, hfc, ka, k2]
                  · trivial
                · rename_i hroom
                  have hroom : c < n' + (k + 1) := by
                    rcases Nat.lt_or_ge c (n' + (k + 1)) with h1 | h1
                    · exact h1
                    · rw [Nat.ble_eq_true_of_le h1] at hroom; cases hroom
                  obtain ⟨v', w', r1, r2, r3⟩ := str_grows (P := P) (w := w) T T2 ty elem inf zv hu hu2 hi hzz i1 g4 ⟨b.blk, b.off + off, none⟩ n' c vs (by simpa using v2) v5 B (by omega) (by omega) (by rw [hBk]; exact f4)
                  rw [hBk, husd] at r2
                  obtain ⟨e', q1, q2, q3⟩ := grown_ok h hTT (fun _ _ h => h) rfl g1 hdd (all_append ao an) (by omega) hlen r2 r3
                  exact ⟨e', v', w', q1, q2, q3, r1⟩
              · -- a slice of an open row
                rename_i t k0 n'
                unfold apOpn
                split
                · rename_i ty' sz' cs' ho
                  have hold2 := hold
                  unfold elems at hold2
                  simp only [ho] at hold2
                  split at hold2
                  · rename_i hszz
                    have hszz := Nat.eq_of_beq_eq_true hszz
                    subst hszz
                    split at hold2
                    · rename_i l' ht
                      simp only [Option.some.injEq, Prod.mk.injEq] at hold2
                      obtain ⟨rfl, rfl⟩ := hold2
                      have hs0 := hs
                      simp only [den, Option.map_eq_some_iff] at hs
                      obtain ⟨b, hb, rfl⟩ := hs
                      have v5 : ∀ j u, vs[j]? = some u → w.cell? ((⟨b.blk, b.off + k0 * b.sz, none⟩ : Addr).add j) = some u := by
                        rcases v4 with ⟨hq, _⟩ | ⟨ad', c', hq, hv⟩
                        · cases hq
                        · cases hq; exact hv
                      obtain ⟨b', lv, pre, suf, o1, o2, o3, o4, o5, o6, ⟨fr, o7, o7'⟩, o8, o9⟩ := h.ok _ _ ho
                      obtain rfl : b' = b := by rw [o1] at hb; cases hb; rfl
                      obtain ⟨q1, q2⟩ := takeB_some ht
                      have hcl : cs'.length ≤ b'.cap * 1 := by rw [← o8, ← denL_length o5]; simp
                      have room : n' + (k + 1) ≤ b'.cap - k0 → k0 ≤ b'.cap → ∀ w', (storeCells ⟨b'.blk, b'.off + (k0 + n') * 1, none⟩ us).run P w = .ok () w' →
                          (Builtin.append_ #[T, T2] ty #[.slice (some ⟨b'.blk, b'.off + k0 * b'.sz, none⟩) n' (b'.cap - k0), .string B]).run P w = .ok (.slice (some ⟨b'.blk, b'.off + k0 * b'.sz, none⟩) (n' + (k + 1)) (b'.cap - k0)) w' := fun hroom _ w' hst => by
                        have ka : (⟨b'.blk, b'.off + k0 * b'.sz, none⟩ : Addr).add n' = ⟨b'.blk, b'.off + (k0 + n'), none⟩ := by rw [Addr.add_lit, o2, Nat.mul_one, Nat.add_assoc]
                        rw [Nat.mul_one] at hst
                        simp [Builtin.append_, run_under hu, run_under hu2, run_size hi, i1, Builtin.lenOf, hBk, hroom, hfc, ka, hst]
                      split
                      rotate_left
                      · trivial
                      rename_i hty
                      have hty := Nat.eq_of_beq_eq_true hty
                      subst hty
                      split
                      · rename_i hin
                        have hin := Nat.le_of_ble_eq_true hin
                        split
                        · rename_i m' hw
                          obtain ⟨b2, w', k1, k2, k3⟩ := wr_ok (P := P) h hw u1
                          obtain rfl : b' = b2 := by rw [o1] at k1; cases k1; rfl
                          have hk : k0 + n' + (k + 1) ≤ b'.cap := Nat.le_of_mul_le_mul_right (Nat.le_trans hin hcl) g1
                          refine ⟨e, _, w', Env.le.refl e, by simp only [den, o1, Option.map_some], k3, room (by omega) (by omega) w' k2⟩
                        · trivial
                      · have hold3 : k0 * 1 + n' * 1 ≤ cs'.length := q1
                        have hkcap : k0 + n' ≤ b'.cap := Nat.le_of_mul_le_mul_right (by rw [Nat.add_mul]; exact Nat.le_trans hold3 hcl) g1
                        have killed : ∀ t1 o1, (m.kill t).get t1 = some o1 → m.get t1 = some o1 ∧ t1 ≠ t := fun t1 o1 h1 => by
                          rw [Mem.get_kill] at h1
                          by_cases hq : t1 = t
                          · rw [if_pos hq] at h1; cases h1
                          · rw [if_neg hq] at h1; exact ⟨h1, hq⟩
                        by_cases hroom : n' + (k + 1) ≤ b'.cap - k0
                        · -- in place
                          have m1 : (k0 + n') * 1 = k0 * 1 + n' * 1 := Nat.add_mul ..
                          have m2 : (n' + (k + 1)) * 1 = n' * 1 + (k + 1) * 1 := Nat.add_mul ..
                          have m3 : k0 * 1 + n' * 1 + (k + 1) * 1 ≤ b'.cap * 1 := by
                            rw [← Nat.add_mul, ← Nat.add_mul]; exact Nat.mul_le_mul_right _ (by omega)
                          have hL : b'.off + (k0 + n') * 1 + us.length ≤ (pre ++ lv ++ suf).length := by
                            have e1 : (pre ++ lv ++ suf).length = b'.off + b'.cap * 1 := by rw [List.append_assoc, List.length_append, o8, o4]
                            rw [e1, u2, m1]
                            omega
                          obtain ⟨w', r, hh, hwr⟩ := run_storeCells (P := P) (off := b'.off + (k0 + n') * 1) us 0 (pre ++ lv ++ suf) w o7 o7' (by omega) u3
                          have hlv : vs = (lv.drop (k0 * 1)).take (n' * 1) := by
                            have := (denL_part o5 ht).2
                            rw [v1] at this; cases this; rfl
                          have hlvl : k0 * 1 + n' * 1 ≤ lv.length := by rw [denL_length o5]; exact hold3
                          have hrow : putN (pre ++ lv ++ suf) (b'.off + (k0 + n') * 1 + 0) us = (pre ++ lv.take (k0 * 1)) ++ (vs ++ us) ++ (pre ++ lv ++ suf).drop (b'.off + (k0 + n') * 1 + us.length) := by
                            rw [Nat.add_zero, putN_eq _ _ _ hL]
                            have e2 : (pre ++ lv ++ suf).take (b'.off + (k0 + n') * 1) = pre ++ lv.take (k0 * 1) ++ vs := by
                              rw [← o4, List.append_assoc, List.take_length_add_append, List.take_append_of_le_length (by rw [Nat.add_mul]; omega), Nat.add_mul, List.take_add, ← hlv, List.append_assoc]
                            rw [e2]
                            simp
                          obtain ⟨f5, f6⟩ := h.fresh hTT (m1 := m.kill t) (fun t1 o1 h1 => (killed t1 o1 h1).1) rfl (b := ⟨b'.blk, b'.off + k0 * 1, b'.cap - k0, 1⟩) (w' := w') (o := .opn ty' 1 (l' ++ bs.map fun b => .int .u8 (.ofNat (b % 256))))
                            (fun t1 o1' b2 h1 h2 => by
                              obtain ⟨h3, h4⟩ := killed t1 o1' h1
                              have : b2.blk ≠ b'.blk := fun hq => h4 (h.inj t1 t _ _ b2 b' h3 ho rfl h2 o1 hq)
                              exact ⟨this, hwr.block _ this⟩)
                            (h.own t _ b' ho rfl o1)
                            ⟨hwr.os, hwr.tape, hwr.output, Nat.le_of_eq hwr.size.symm, fun i hi2 => hwr.block i (fun hq => h.own t _ b' ho rfl o1 (hq ▸ hi2))⟩
                            ⟨_, vs ++ us, pre ++ lv.take (k0 * 1), (pre ++ lv ++ suf).drop (b'.off + (k0 + n') * 1 + us.length), Env.ext_same .., rfl, g1, by
                              show (pre ++ lv.take (k0 * 1)).length = b'.off + k0 * 1
                              simp [o4]; omega, denL_mono (Env.ext_le hTT.1 _) _ _ hdd, all_append ao an, ⟨fr, by rw [← hrow]; exact hh, by rw [← hrow, putN_length]; exact o7'⟩, by
                              show (vs ++ us ++ (pre ++ lv ++ suf).drop (b'.off + (k0 + n') * 1 + us.length)).length = (b'.cap - k0) * 1
                              have e1 : (pre ++ lv ++ suf).length = b'.off + b'.cap * 1 := by rw [List.append_assoc, List.length_append, o8, o4]
                              rw [List.length_append, List.length_drop, e1, hlen, u2, Nat.sub_mul, m1, m2]
                              omega, by show b'.cap - k0 ≤ maxLen; omega⟩
                          refine ⟨_, .slice (some ⟨b'.blk, b'.off + k0 * b'.sz, none⟩) (n' + (k + 1)) (b'.cap - k0), w', f5, ?_, f6, room hroom (by omega) w' (by simpa using r)⟩
                          show ((e.ext TT _) TT).map _ = _
                          rw [Env.ext_same]
                          simp [o2]
                        · obtain ⟨v', w', r1, r2, r3⟩ := str_grows (P := P) (w := w) T T2 ty ty' inf zv hu hu2 hi hzz i1 g4 ⟨b'.blk, b'.off + k0 * b'.sz, none⟩ n' (b'.cap - k0) vs (by simpa using v2) v5 B (by omega) (by omega) (by rw [hBk]; exact f4)
                          rw [hBk, husd] at r2
                          obtain ⟨e', q3, q4, q5⟩ := grown_ok h hTT (m1 := m.kill t) (fun t1 o1 h1 => (killed t1 o1 h1).1) rfl g1 hdd (all_append ao an) (by omega) hlen r2 r3
                          exact ⟨e', v', w', q3, q4, q5, r1⟩
                    · cases hold2
                  · cases hold2
                · trivial
              · trivial
          · trivial
        · trivial
      · trivial
    · trivial
  · trivial

/-! ### a string over a row of bytes -/

/-- In a row of bytes, n of them lie side by side from a place on. -/
theorem liesAt_bytes_at {el : TypeId} (hc : P.cellsOf el = 1) (count off n : Nat) (hn : off + n ≤ count) : liesAt P P.depth el count off el n = true := by
  have hd : P.depth = (2 * (P.types.size + Made.depth) + 1) + 1 := rfl
  rw [hd]
  simp only [liesAt, Bool.or_eq_true]
  left
  rw [hd]
  simp [rowAt, hc, hn, sameLayout, Nat.mod_one]
theorem run_unsafeString_at (pt it ty el : TypeId) (hp : P.underlying pt = some (.pointer el)) (hc : P.cellsOf el = 1) (g off cells : Nat) (hsh : w.shape? g = some (el, cells)) (l : List UInt8) (h0 : l ≠ []) (hn : off + l.length ≤ cells) (h63 : l.length ≤ 9223372036854775807)
    (hcell : ∀ j x, l[j]? = some x → w.cell? ((⟨g, off, none⟩ : Addr).add j) = some (.int .u8 x.toNat)) :
    (Builtin.unsafeString_ #[pt, it] ty #[.pointer (some ⟨g, off, none⟩), .int .i64 l.length]).run P w = .ok (.string ⟨l.toArray⟩) (w.freeze ⟨g, off, none⟩ l.length) := by
  have hl : l.length ≠ 0 := by simpa using h0
  have hlb := Lib.run_loadBytes (P := P) w l ⟨g, off, none⟩ .empty hcell
  have hlies := liesAt_bytes_at (P := P) hc (cells / P.cellsOf el) off l.length (by rw [hc]; simpa using hn)
  have h63' : ¬ (9223372036854775807 : Int) < (l.length : Int) := by omega
  have hdef : Builtin.unsafeString_ #[pt, it] ty #[.pointer (some ⟨g, off, none⟩), .int .i64 l.length] =
      (do
        let n ← asInt (.int .i64 l.length)
        if n < 0 then runtimePanic (.error "unsafe.String: len out of range")
        if n > IntKind.i64.max then unsupported (.unsafePointer "String: a length above the largest int")
        if n = 0 then pure (.string .empty)
        else if ← variablesAt ⟨g, off, none⟩ (← elemOf pt) n.toNat then do
          let s ← loadBytes ⟨g, off, none⟩ .empty n.toNat
          freeze ⟨g, off, none⟩ n.toNat
          pure (.string s)
        else unsupported (.unsafePointer "String: not so many bytes at ptr")) := rfl
  rw [hdef]
  have hmax : IntKind.i64.max = 9223372036854775807 := rfl
  have hneg : ¬ (l.length : Int) < 0 := by omega
  simp [asInt, asIntOf, hmax, h63', hneg, hl, variablesAt, hsh, elemOf, run_under hp, hlies, hlb]

theorem cSliceData_ok (h : Rel W0 e m w) {x : CV} {X : Value} (hx : den e x = some X) (ts : Array TypeId) (ty : TypeId) : VOk P e w (cSliceData m x) (Builtin.unsafeSliceData_ ts ty #[X]) := by
  unfold cSliceData
  split
  · simp only [den, Option.some.injEq] at hx; subst hx
    exact ⟨_, rfl, Lib.run_unsafeSliceData_nil (P := P) w ts ty 0 0⟩
  · rename_i t off n c
    simp only [den, Option.map_eq_some_iff] at hx
    obtain ⟨b, hb, rfl⟩ := hx
    exact ⟨.pointer (some ⟨b.blk, b.off + off, none⟩), by simp only [den, hb, Option.map_some], Lib.run_unsafeSliceData_row (P := P) w ts ty _ _ _ (by omega)⟩
  · rename_i t n
    split
    · rename_i ty' sz c0 cs0 ho
      obtain ⟨b, l, pre, suf, h1, h2, h3, h4, h5, h6, h7, h8, h9⟩ := h.ok _ _ ho
      simp only [den, h1, Option.map_some, Option.some.injEq] at hx
      subst hx
      refine ⟨.pointer (some ⟨b.blk, b.off + 0, none⟩), by simp only [den, h1, Option.map_some], ?_⟩
      have hc : b.cap - 0 ≠ 0 := by
        intro h0
        have hb0 : b.cap = 0 := by omega
        rw [hb0, Nat.zero_mul, List.length_append] at h8
        have := denL_length h5
        simp at this
        omega
      have := Lib.run_unsafeSliceData_row (P := P) w ts ty ⟨b.blk, b.off + 0 * b.sz, none⟩ (n + 1) (b.cap - 0) hc
      simpa using this
    · trivial
  · trivial
end Go.Cx
