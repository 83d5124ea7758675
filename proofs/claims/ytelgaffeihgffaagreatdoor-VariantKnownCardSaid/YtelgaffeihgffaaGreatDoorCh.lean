/-
  A concrete evaluator for Go's IR. Part h: append, copy, make, maps.
-/
import Derived.Test.YtelgaffeihgffaaGreatDoorCg
set_option linter.unusedSimpArgs false
set_option linter.unusedVariables false
namespace Go.Cx
open Go Go.RowKit
variable {e : Env} {P : Program} {w : World} {m : Mem} {W0 : Bas}

theorem putN_eq : ∀ (us vs : List Value) (off : Nat), off + us.length ≤ vs.length → putN vs off us = vs.take off ++ us ++ vs.drop (off + us.length)
  | [], vs, off, h => by simp [putN]
  | u :: us, vs, off, h => by
    simp only [List.length_cons] at h
    simp only [putN]
    rw [putN_eq us _ (off + 1) (by simp; omega)]
    have h1 : (vs.set off u).take (off + 1) = vs.take off ++ [u] := by
      rw [List.take_add_one, List.take_set_of_le (Nat.le_refl _)]
      simp [show off < vs.length by omega]
    have h2 : (vs.set off u).drop (off + 1 + us.length) = vs.drop (off + (u :: us).length) := by
      rw [List.drop_set_of_lt (by omega)]
      congr 1
      simp; omega
    rw [h1, h2]
    simp

/-- The elements of a slice, where they lie. -/
theorem elems_ok (hm : Mok e m w) {sz n : Nat} {x : CV} {l : List CV} {V : Value} (h : elems m sz x = some (n, l)) (hx : den e x = some V) :
    ∃ us, denL e l = some us ∧ us.length = n * sz ∧ (∀ u ∈ us, u.oneCell' = true) ∧ ((x = .nils ∧ V = .slice none 0 0 ∧ n = 0) ∨ ∃ ad c, V = .slice (some ad) n c ∧ ∀ j u, us[j]? = some u → w.cell? (ad.add j) = some u) := by
  unfold elems at h
  split at h
  · simp only [Option.some.injEq, Prod.mk.injEq] at h
    obtain ⟨rfl, rfl⟩ := h
    simp only [den, Option.some.injEq] at hx
    exact ⟨[], rfl, by simp, by simp, .inl ⟨rfl, hx.symm, rfl⟩⟩
  · rename_i t off k c
    split at h
    · rename_i ty cs ho
      split at h
      · rename_i l' ht
        simp only [Option.some.injEq, Prod.mk.injEq] at h
        obtain ⟨rfl, rfl⟩ := h
        obtain ⟨b, lv, h1, h2, h3, h4, h5⟩ := hm _ _ ho
        simp only [den, Option.map_eq_some_iff] at hx
        obtain ⟨b', hb', rfl⟩ := hx
        obtain rfl : b = b' := by rw [h1] at hb'; cases hb'; rfl
        obtain ⟨k1, k2⟩ := denL_part h3 ht
        refine ⟨_, k2, by simp; omega, fun u hu => all_den h4 h3 u (List.mem_of_mem_drop (List.mem_of_mem_take hu)), .inr ⟨_, _, rfl, fun j u hj => ?_⟩⟩
        rw [Addr.add_lit, cell_of_heap h5, h2]
        rw [List.getElem?_take] at hj
        split at hj
        · rw [List.getElem?_drop] at hj; simpa using hj
        · cases hj
      · cases h
    · rename_i ty sz' cs ho
      split at h
      · rename_i l' ht
        simp only [Option.some.injEq, Prod.mk.injEq] at h
        obtain ⟨rfl, rfl⟩ := h
        obtain ⟨b, lv, pre, suf, h1, h2, h3, h4, h5, h6, ⟨fr, h7, h7'⟩, h8, h9⟩ := hm _ _ ho
        simp only [den, Option.map_eq_some_iff] at hx
        obtain ⟨b', hb', rfl⟩ := hx
        obtain rfl : b = b' := by rw [h1] at hb'; cases hb'; rfl
        obtain ⟨k1, k2⟩ := denL_part h5 ht
        refine ⟨_, k2, by simp; omega, fun u hu => all_den h6 h5 u (List.mem_of_mem_drop (List.mem_of_mem_take hu)), .inr ⟨_, _, rfl, fun j u hj => ?_⟩⟩
        rw [Addr.add_lit, cell_of_heap h7, ← h4]
        rw [List.getElem?_take] at hj
        split at hj
        · rw [List.getElem?_drop] at hj
          have hlt : off + j < lv.length := (List.getElem?_eq_some_iff.1 hj).1
          rw [List.getElem?_toArray, List.append_assoc, Nat.add_assoc, List.getElem?_append_right (by omega), Nat.add_sub_cancel_left, List.getElem?_append_left hlt, hj]
        · cases hj
      · cases h
    · rename_i cs ho
      split at h
      · rename_i l' ht
        simp only [Option.some.injEq, Prod.mk.injEq] at h
        obtain ⟨rfl, rfl⟩ := h
        obtain ⟨b, lv, pre, suf, ty, fr, h1, h2, h3, h4, h5, _⟩ := hm _ _ ho
        simp only [den, Option.map_eq_some_iff] at hx
        obtain ⟨b', hb', rfl⟩ := hx
        obtain rfl : b = b' := by rw [h1] at hb'; cases hb'; rfl
        obtain ⟨k1, k2⟩ := denL_part h3 ht
        refine ⟨_, k2, by simp; omega, fun u hu => all_den h4 h3 u (List.mem_of_mem_drop (List.mem_of_mem_take hu)), .inr ⟨_, _, rfl, fun j u hj => ?_⟩⟩
        rw [Addr.add_lit, cell_of_heap h5, ← h2]
        rw [List.getElem?_take] at hj
        split at hj
        · rw [List.getElem?_drop] at hj
          have hlt : off + j < lv.length := (List.getElem?_eq_some_iff.1 hj).1
          rw [List.getElem?_toArray, List.append_assoc, Nat.add_assoc, List.getElem?_append_right (by omega), Nat.add_sub_cancel_left, List.getElem?_append_left hlt, hj]
        · cases hj
      · cases h
    · cases h
  · rename_i t k k2
    split at h
    · rename_i ty sz' cs ho
      split at h
      · rename_i hsz
        have hsz := Nat.eq_of_beq_eq_true hsz
        split at h
        · rename_i l' ht
          simp only [Option.some.injEq, Prod.mk.injEq] at h
          obtain ⟨rfl, rfl⟩ := h
          obtain ⟨b, lv, pre, suf, h1, h2, h3, h4, h5, h6, ⟨fr, h7, h7'⟩, h8, h9⟩ := hm _ _ ho
          simp only [den, Option.map_eq_some_iff] at hx
          obtain ⟨b', hb', rfl⟩ := hx
          obtain rfl : b = b' := by rw [h1] at hb'; cases hb'; rfl
          obtain ⟨k1, k2⟩ := denL_part h5 ht
          refine ⟨_, k2, by simp; omega, fun u hu => all_den h6 h5 u (List.mem_of_mem_drop (List.mem_of_mem_take hu)), .inr ⟨_, _, rfl, fun j u hj => ?_⟩⟩
          rw [Addr.add_lit, cell_of_heap h7, ← h4, h2, hsz]
          rw [List.getElem?_take] at hj
          split at hj
          · rw [List.getElem?_drop] at hj
            have hlt : k * sz + j < lv.length := (List.getElem?_eq_some_iff.1 hj).1
            rw [List.getElem?_toArray, List.append_assoc, Nat.add_assoc, List.getElem?_append_right (by omega), Nat.add_sub_cancel_left, List.getElem?_append_left hlt, hj]
          · cases hj
        · cases h
      · cases h
    · cases h
  · simp only [Option.some.injEq, Prod.mk.injEq] at h
    obtain ⟨rfl, rfl⟩ := h
    simp only [den, Option.map_eq_some_iff] at hx
    obtain ⟨b, _, rfl⟩ := hx
    refine ⟨[], rfl, by simp, by simp, .inr ?_⟩
    split
    · exact ⟨_, _, rfl, by simp⟩
    · exact ⟨_, _, rfl, by simp⟩
  · simp only [Option.some.injEq, Prod.mk.injEq] at h
    obtain ⟨rfl, rfl⟩ := h
    simp only [den, Option.some.injEq] at hx
    subst hx
    exact ⟨[], rfl, by simp, by simp, .inr ⟨_, _, rfl, by simp⟩⟩
  · cases h

theorem run_first (sz n : Nat) (ad : Addr) (k c : Nat) (us : List Value) (hl : us.length = n * sz) (h : ∀ j u, us[j]? = some u → w.cell? (ad.add j) = some u) :
    (Builtin.firstCells sz n (.slice (some ad) k c)).run P w = .ok us.toArray w := by
  simp only [Builtin.firstCells]
  rw [← hl]
  exact run_loadCells_list w ad us h

/-- A new row behind an append that had no room. -/
theorem grown_ok (h : Rel W0 e m w) {T : Nat} (hT : e T = none ∧ ¬ W0.Z T) {m1 : Mem} (hm : ∀ t o, m1.get t = some o → m.get t = some o) (hn : m1.nxt = m.nxt) {elem : TypeId} {sz k : Nat} (hsz : 0 < sz) {cs : List CV} {us : List Value} (hu : denL e cs = some us) (ha : cs.all one = true)
    {v' : Value} {w' : World} (hk : 0 < k) (hlen : us.length = k * sz) (hown : w'.ownsRow w.heap.size elem sz v' k us) (hg : w.grownBy w' none) :
    ∃ e', Env.le e e' ∧ den e' (.opn T 0 k) = some v' ∧ Rel W0 e' (m1.newAt T (.opn elem sz cs)) w' := by
  obtain ⟨_, ⟨_, h0⟩ | ⟨g, cap, cur, rfl, hge, hh, hc1, hc2, hc3, hc4⟩⟩ := hown
  · omega
  · have hs := h.frm.size
    have hrow : cur = (([] : List Value) ++ us ++ cur.toList.drop (k * sz)).toArray := by
      rw [List.nil_append, ← hc4, List.take_append_drop]
    obtain ⟨h1, h2⟩ := h.fresh hT (m1 := m1) hm hn (b := ⟨g, 0, cap, sz⟩) (w' := w') (o := .opn elem sz cs)
      (fun t o1 b' ht hb' => by
        obtain ⟨bb, x2, k1, k2⟩ := objOk_env (h.ok t o1 (hm t o1 ht))
        have hbe : bb = b' := by rw [k1] at hb'; exact Option.some.inj hb'
        rw [hbe] at k2
        have hlt := heap_lt k2
        exact ⟨fun hq => by
          have hq : b'.blk = g := hq
          omega, hg.block _ hlt (by simp)⟩)
      (h.nF (by show w.heap.size ≤ g; omega)) ⟨hg.os, hg.tape, hg.output, hg.size, fun i hi => hg.block i (h.frF hi) (by simp)⟩
      ⟨_, us, [], cur.toList.drop (k * sz), Env.ext_same .., rfl, hsz, rfl, denL_mono (Env.ext_le hT.1 _) _ _ hu, ha, ⟨(0, 0), by rw [← hrow]; exact hh, NoFr.zero _⟩, by
        show (us ++ cur.toList.drop (k * sz)).length = cap * sz
        have h3 : cur.toList.length = cap * sz := by simpa using hc3
        have h4 : k * sz ≤ cap * sz := Nat.mul_le_mul_right _ hc1
        rw [List.length_append, List.length_drop, hlen, h3]; omega, hc2⟩
    refine ⟨_, h1, ?_, h2⟩
    show ((e.ext T _) T).map _ = _
    rw [Env.ext_same]
    simp

theorem all_append {a b : List CV} (h1 : a.all one = true) (h2 : b.all one = true) : (a ++ b).all one = true := by rw [List.all_append, h1, h2]; rfl
theorem elems_all (hm : Mok e m w) {sz n : Nat} {x : CV} {l : List CV} {V : Value} (h : elems m sz x = some (n, l)) : l.all one = true := by
  have tk : ∀ {cs l : List CV} {off k : Nat}, cs.all one = true → takeB cs off k = some l → l.all one = true := fun hc ht => by
    obtain ⟨_, rfl⟩ := takeB_some ht
    rw [List.all_eq_true] at *
    exact fun x hx => hc x (List.mem_of_mem_drop (List.mem_of_mem_take hx))
  unfold elems at h
  split at h
  · simp only [Option.some.injEq, Prod.mk.injEq] at h; obtain ⟨_, rfl⟩ := h; rfl
  · split at h
    · rename_i ho
      split at h
      · rename_i l' ht
        simp only [Option.some.injEq, Prod.mk.injEq] at h; obtain ⟨_, rfl⟩ := h
        obtain ⟨_, _, _, _, _, h4, _⟩ := hm _ _ ho
        exact tk h4 ht
      · cases h
    · rename_i ho
      split at h
      · rename_i l' ht
        simp only [Option.some.injEq, Prod.mk.injEq] at h; obtain ⟨_, rfl⟩ := h
        obtain ⟨_, _, _, _, _, _, _, _, _, h4, _⟩ := hm _ _ ho
        exact tk h4 ht
      · cases h
    · rename_i ho
      split at h
      · rename_i l' ht
        simp only [Option.some.injEq, Prod.mk.injEq] at h; obtain ⟨_, rfl⟩ := h
        obtain ⟨_, _, _, _, _, _, _, _, _, h4, _⟩ := hm _ _ ho
        exact tk h4 ht
      · cases h
    · cases h
  · split at h
    · rename_i ho
      split at h
      · split at h
        · rename_i l' ht
          simp only [Option.some.injEq, Prod.mk.injEq] at h; obtain ⟨_, rfl⟩ := h
          obtain ⟨_, _, _, _, _, _, _, _, _, h4, _⟩ := hm _ _ ho
          exact tk h4 ht
        · cases h
      · cases h
    · cases h
  · simp only [Option.some.injEq, Prod.mk.injEq] at h; obtain ⟨_, rfl⟩ := h; rfl
  · simp only [Option.some.injEq, Prod.mk.injEq] at h; obtain ⟨_, rfl⟩ := h; rfl
  · cases h

theorem cAppend_ok (h : Rel W0 e m w) {TT : Nat} (hTT : e TT = none ∧ ¬ W0.Z TT) {s x : CV} {S X : Value} (hs : den e s = some S) (hx : den e x = some X) (T T2 ty : TypeId) :
    EOk W0 P e m w (cAppend P TT m T T2 s x) (Builtin.append_ #[T, T2] ty #[S, X]) := by
  unfold cAppend
  split
  · trivial
  rename_i hT
  obtain rfl := Nat.eq_of_beq_eq_true hT
  split
  · rename_i elem hu
    split
    · rename_i inf z hi hz
      obtain ⟨iz, zv, hiz, hzz, hzd⟩ := zeroC_some hz
      obtain rfl : inf = iz := by rw [hi] at hiz; cases hiz; rfl
      split
      · rename_i hc
        simp only [Bool.and_eq_true] at hc
        have g1 : 0 < inf.size := by simpa [Nat.blt_eq] using hc.1
        have g4 : zv.cells.size = inf.size := by rw [← Nat.eq_of_beq_eq_true hc.2, ← denL_length (hzd e)]; simp
        split
        · rename_i nx new n old hnew hold
          obtain ⟨us, u1, u2, u3, u4⟩ := elems_ok h.ok hnew hx
          obtain ⟨vs, v1, v2, v3, v4⟩ := elems_ok h.ok hold hs
          have an := elems_all (V := X) h.ok hnew
          have ao := elems_all (V := S) h.ok hold
          split
          · rename_i hfit
            simp only [fits, Bool.and_eq_true] at hfit
            have f1 := Nat.le_of_ble_eq_true hfit.1
            have f2 := Nat.le_of_ble_eq_true hfit.2
            have f3 : n + nx ≤ maxLen := by simp only [maxLen]; omega
            have f4 : (n + nx) * inf.bytes ≤ 140737488355328 := Nat.le_trans (Nat.mul_le_mul f1 f2) (by omega)
            have zeroCase : nx = 0 → ∀ (b : Option Addr) (k c : Nat), k ≤ c → (Builtin.append_ #[T, T] ty #[.slice b k c, X]).run P w = .ok (.slice b k c) w := fun h0 b k c hkc => by
              subst h0
              rcases u4 with ⟨_, rfl, _⟩ | ⟨ad, cx, rfl, hcell⟩
              · cases b <;> simp [Builtin.append_, run_under hu, run_size hi, Builtin.lenOf, hkc, Builtin.firstCells, storeCells]
              · have hus : us = [] := List.eq_nil_of_length_eq_zero (by simpa using u2)
                have hf := run_first (P := P) (w := w) inf.size 0 ad 0 cx [] (by simp) (by simp)
                cases b <;> simp [Builtin.append_, run_under hu, run_size hi, Builtin.lenOf, hkc, hf, storeCells]
            split
            · -- nothing is appended
              unfold ap0
              split
              · rename_i t off k c
                split
                · rename_i hkc
                  have hkc := Nat.le_of_ble_eq_true hkc
                  simp only [den, Option.map_eq_some_iff] at hs
                  obtain ⟨b, hb, rfl⟩ := hs
                  exact ⟨_, by simp only [den, hb, Option.map_some], zeroCase rfl _ _ _ hkc⟩
                · trivial
              · rename_i hns
                rcases v4 with ⟨rfl, rfl, _⟩ | ⟨ad, c, rfl, _⟩
                · exact ⟨_, rfl, zeroCase rfl _ _ _ (Nat.le_refl _)⟩
                · refine ⟨_, hs, zeroCase rfl _ _ _ ?_⟩
                  unfold elems at hold
                  split at hold
                  · simp [den] at hs
                  · exact absurd rfl (hns _ _ _ _)
                  · rename_i t k n'
                    split at hold
                    · rename_i ty' sz' cs' ho
                      split at hold
                      · split at hold
                        · rename_i l' ht
                          simp only [Option.some.injEq, Prod.mk.injEq] at hold
                          obtain ⟨rfl, rfl⟩ := hold
                          rename_i hszz _
                          have hszz := Nat.eq_of_beq_eq_true hszz
                          obtain ⟨b, lv, pre, suf, h1, h2, h3, h4, h5, h6, h7, h8, h9⟩ := h.ok _ _ ho
                          simp only [den, Option.map_eq_some_iff] at hs
                          obtain ⟨b', hb', hq⟩ := hs
                          obtain rfl : b = b' := by rw [h1] at hb'; cases hb'; rfl
                          cases hq
                          obtain ⟨q1, _⟩ := takeB_some ht
                          have q2 : cs'.length ≤ b.cap * sz' := by rw [← h8, ← denL_length h5]; simp
                          have q3 : (k + n') * sz' ≤ b.cap * sz' := by rw [hszz, Nat.add_mul]; rw [hszz] at q2; omega
                          have := Nat.le_of_mul_le_mul_right q3 h3
                          omega
                        · cases hold
                      · cases hold
                    · cases hold
                  · simp only [Option.some.injEq, Prod.mk.injEq] at hold
                    obtain ⟨rfl, _⟩ := hold
                    omega
                  · simp only [Option.some.injEq, Prod.mk.injEq] at hold
                    obtain ⟨rfl, _⟩ := hold
                    omega
                  · cases hold
            · -- something is appended
              rename_i k
              simp only [Nat.succ_eq_add_one] at hnew u2 f1 f3 f4 zeroCase
              have hX : ∃ ad cx, X = .slice (some ad) (k + 1) cx ∧ ∀ j u, us[j]? = some u → w.cell? (ad.add j) = some u := by
                rcases u4 with ⟨_, _, h0⟩ | hq
                · exact absurd h0 (by omega)
                · exact hq
              obtain ⟨ad, cx, rfl, hcell⟩ := hX
              have hlen : (vs ++ us).length = (n + (k + 1)) * inf.size := by rw [List.length_append, v2, u2]; exact (Nat.add_mul ..).symm
              have hdd := denL_append v1 u1
              unfold apGo
              split
              · -- nil
                have : n = 0 ∧ vs = [] ∧ old = [] := by
                  simp only [elems, Option.some.injEq, Prod.mk.injEq] at hold
                  obtain ⟨rfl, rfl⟩ := hold
                  exact ⟨rfl, List.eq_nil_of_length_eq_zero (by simpa using v2), rfl⟩
                obtain ⟨rfl, rfl, rfl⟩ := this
                simp only [den, Option.some.injEq] at hs; subst hs
                obtain ⟨v', w', r1, r2, r3, r4⟩ := run_append_own (P := P) w w.heap.size T ty elem inf zv inf.size inf.bytes hu hi hzz rfl rfl g4 g1 (.slice none 0 0) 0 [] (World.ownsRow_nil w _ elem inf.size) ad (k + 1) cx us u2 hcell u3 f3 f4 (Nat.le_refl _)
                obtain ⟨e', q1, q2, q3⟩ := grown_ok h hTT (fun _ _ h => h) rfl g1 hdd (all_append ao an) (k := k + 1) (by omega) (by simpa using hlen) (by simpa using r2) (by simpa [Value.ownBlock] using r3)
                exact ⟨e', v', w', q1, q2, by simpa using q3, r1⟩
              · -- a slice without room that came in
                rename_i a0
                have : n = 0 ∧ vs = [] ∧ old = [] := by
                  simp only [elems, Option.some.injEq, Prod.mk.injEq] at hold
                  obtain ⟨rfl, rfl⟩ := hold
                  exact ⟨rfl, List.eq_nil_of_length_eq_zero (by simpa using v2), rfl⟩
                obtain ⟨rfl, rfl, rfl⟩ := this
                simp only [den, Option.some.injEq] at hs; subst hs
                obtain ⟨v', w', r1, r2, r3⟩ := run_append_arg_grows (P := P) w T ty elem inf zv inf.size inf.bytes hu hi hzz rfl rfl g4 g1 a0 0 0 [] (by simp) (fun j u hj => by simp at hj) ad (k + 1) cx us u2 hcell (by omega) f3 f4
                obtain ⟨e', q1, q2, q3⟩ := grown_ok h hTT (fun _ _ h => h) rfl g1 hdd (all_append ao an) (k := k + 1) (by omega) (by simpa using hlen) (by simpa using r2) r3
                exact ⟨e', v', w', q1, q2, by simpa using q3, r1⟩
              · -- a slice of known room
                rename_i t off n' c
                unfold apSlc
                have hn : n' = n := by
                  unfold elems at hold
                  simp only at hold
                  split at hold
                  · split at hold
                    · simp only [Option.some.injEq, Prod.mk.injEq] at hold; exact hold.1
                    · cases hold
                  · split at hold
                    · simp only [Option.some.injEq, Prod.mk.injEq] at hold; exact hold.1
                    · cases hold
                  · split at hold
                    · simp only [Option.some.injEq, Prod.mk.injEq] at hold; exact hold.1
                    · cases hold
                  · cases hold
                subst hn
                simp only [den, Option.map_eq_some_iff] at hs
                obtain ⟨b, hb, rfl⟩ := hs
                have v5 : ∀ j u, vs[j]? = some u → w.cell? ((⟨b.blk, b.off + off, none⟩ : Addr).add j) = some u := by
                  rcases v4 with ⟨hq, _⟩ | ⟨ad', c', hq, hv⟩
                  · cases hq
                  · cases hq; exact hv
                split
                · rename_i hroom
                  have hroom := Nat.le_of_ble_eq_true hroom
                  split
                  · rename_i m' hw
                    obtain ⟨b', w', k1, k2, k3⟩ := wr_ok (P := P) h hw u1
                    obtain rfl : b = b' := by rw [hb] at k1; cases k1; rfl
                    refine ⟨e, .slice (some ⟨b.blk, b.off + off, none⟩) (n' + (k + 1)) c, w', Env.le.refl e, by simp [den, hb], k3, ?_⟩
                    have hf := run_first (P := P) (w := w) inf.size (k + 1) ad (k + 1) cx us u2 hcell
                    have ka : (⟨b.blk, b.off + off, none⟩ : Addr).add (n' * inf.size) = ⟨b.blk, b.off + (off + n' * inf.size), none⟩ := by rw [Addr.add_lit, Nat.add_assoc]
                    simp [Builtin.append_, run_under hu, run_size hi, Builtin.lenOf, hroom, hf, ka, k2]
                  · trivial
                · rename_i hroom
                  have hroom : c < n' + (k + 1) := by
                    rcases Nat.lt_or_ge c (n' + (k + 1)) with h1 | h1
                    · exact h1
                    · rw [Nat.ble_eq_true_of_le h1] at hroom; cases hroom
                  obtain ⟨v', w', r1, r2, r3⟩ := run_append_arg_grows (P := P) w T ty elem inf zv inf.size inf.bytes hu hi hzz rfl rfl g4 g1 ⟨b.blk, b.off + off, none⟩ n' c vs v2 v5 ad (k + 1) cx us u2 hcell hroom f3 f4
                  obtain ⟨e', q1, q2, q3⟩ := grown_ok h hTT (fun _ _ h => h) rfl g1 hdd (all_append ao an) (by omega) hlen r2 r3
                  exact ⟨e', v', w', q1, q2, q3, r1⟩
              · -- a slice of an open row
                rename_i t k0 n'
                unfold apOpn
                split
                · rename_i ty' sz' cs' ho
                  have hold2 := hold
                  unfold elems at hold2
                  simp only [ho] at hold2
                  split at hold2
                  · rename_i hszz
                    have hszz := Nat.eq_of_beq_eq_true hszz
                    subst hszz
                    split at hold2
                    · rename_i l' ht
                      simp only [Option.some.injEq, Prod.mk.injEq] at hold2
                      obtain ⟨rfl, rfl⟩ := hold2
                      have hs0 := hs
                      simp only [den, Option.map_eq_some_iff] at hs
                      obtain ⟨b, hb, rfl⟩ := hs
                      have v5 : ∀ j u, vs[j]? = some u → w.cell? ((⟨b.blk, b.off + k0 * b.sz, none⟩ : Addr).add j) = some u := by
                        rcases v4 with ⟨hq, _⟩ | ⟨ad', c', hq, hv⟩
                        · cases hq
                        · cases hq; exact hv
                      obtain ⟨b', lv, pre, suf, o1, o2, o3, o4, o5, o6, ⟨fr, o7, o7'⟩, o8, o9⟩ := h.ok _ _ ho
                      obtain rfl : b' = b := by rw [o1] at hb; cases hb; rfl
                      obtain ⟨q1, q2⟩ := takeB_some ht
                      have hcl : cs'.length ≤ b'.cap * inf.size := by rw [← o8, ← denL_length o5]; simp
                      have hfr := run_first (P := P) (w := w) inf.size (k + 1) ad (k + 1) cx us u2 hcell
                      have room : n' + (k + 1) ≤ b'.cap - k0 → k0 ≤ b'.cap → ∀ w', (storeCells ⟨b'.blk, b'.off + (k0 + n') * inf.size, none⟩ us).run P w = .ok () w' →
                          (Builtin.append_ #[T, T] ty #[.slice (some ⟨b'.blk, b'.off + k0 * b'.sz, none⟩) n' (b'.cap - k0), .slice (some ad) (k + 1) cx]).run P w = .ok (.slice (some ⟨b'.blk, b'.off + k0 * b'.sz, none⟩) (n' + (k + 1)) (b'.cap - k0)) w' := fun hroom _ w' hst => by
                        have ka : (⟨b'.blk, b'.off + k0 * b'.sz, none⟩ : Addr).add (n' * inf.size) = ⟨b'.blk, b'.off + (k0 + n') * inf.size, none⟩ := by rw [Addr.add_lit, o2, Nat.add_mul, Nat.add_assoc]
                        simp [Builtin.append_, run_under hu, run_size hi, Builtin.lenOf, hroom, hfr, ka, hst]
                      split
                      rotate_left
                      · trivial
                      rename_i hty
                      have hty := Nat.eq_of_beq_eq_true hty
                      subst hty
                      split
                      · rename_i hin
                        have hin := Nat.le_of_ble_eq_true hin
                        split
                        · rename_i m' hw
                          obtain ⟨b2, w', k1, k2, k3⟩ := wr_ok (P := P) h hw u1
                          obtain rfl : b' = b2 := by rw [o1] at k1; cases k1; rfl
                          have hk : k0 + n' + (k + 1) ≤ b'.cap := Nat.le_of_mul_le_mul_right (Nat.le_trans hin hcl) g1
                          refine ⟨e, _, w', Env.le.refl e, by simp only [den, o1, Option.map_some], k3, room (by omega) (by omega) w' k2⟩
                        · trivial
                      · have hold3 : k0 * inf.size + n' * inf.size ≤ cs'.length := q1
                        have hkcap : k0 + n' ≤ b'.cap := Nat.le_of_mul_le_mul_right (by rw [Nat.add_mul]; exact Nat.le_trans hold3 hcl) g1
                        have killed : ∀ t1 o1, (m.kill t).get t1 = some o1 → m.get t1 = some o1 ∧ t1 ≠ t := fun t1 o1 h1 => by
                          rw [Mem.get_kill] at h1
                          by_cases hq : t1 = t
                          · rw [if_pos hq] at h1; cases h1
                          · rw [if_neg hq] at h1; exact ⟨h1, hq⟩
                        by_cases hroom : n' + (k + 1) ≤ b'.cap - k0
                        · -- in place
                          have m1 : (k0 + n') * inf.size = k0 * inf.size + n' * inf.size := Nat.add_mul ..
                          have m2 : (n' + (k + 1)) * inf.size = n' * inf.size + (k + 1) * inf.size := Nat.add_mul ..
                          have m3 : k0 * inf.size + n' * inf.size + (k + 1) * inf.size ≤ b'.cap * inf.size := by
                            rw [← Nat.add_mul, ← Nat.add_mul]; exact Nat.mul_le_mul_right _ (by omega)
                          have hL : b'.off + (k0 + n') * inf.size + us.length ≤ (pre ++ lv ++ suf).length := by
                            have e1 : (pre ++ lv ++ suf).length = b'.off + b'.cap * inf.size := by rw [List.append_assoc, List.length_append, o8, o4]
                            rw [e1, u2, m1]
                            omega
                          obtain ⟨w', r, hh, hwr⟩ := run_storeCells (P := P) (off := b'.off + (k0 + n') * inf.size) us 0 (pre ++ lv ++ suf) w o7 o7' (by omega) u3
                          have hlv : vs = (lv.drop (k0 * inf.size)).take (n' * inf.size) := by
                            have := (denL_part o5 ht).2
                            rw [v1] at this; cases this; rfl
                          have hlvl : k0 * inf.size + n' * inf.size ≤ lv.length := by rw [denL_length o5]; exact hold3
                          have hrow : putN (pre ++ lv ++ suf) (b'.off + (k0 + n') * inf.size + 0) us = (pre ++ lv.take (k0 * inf.size)) ++ (vs ++ us) ++ (pre ++ lv ++ suf).drop (b'.off + (k0 + n') * inf.size + us.length) := by
                            rw [Nat.add_zero, putN_eq _ _ _ hL]
                            have e2 : (pre ++ lv ++ suf).take (b'.off + (k0 + n') * inf.size) = pre ++ lv.take (k0 * inf.size) ++ vs := by
                              rw [← o4, List.append_assoc, List.take_length_add_append, List.take_append_of_le_length (by rw [Nat.add_mul]; omega), Nat.add_mul, List.take_add, ← hlv, List.append_assoc]
                            rw [e2]
                            simp
                          obtain ⟨f5, f6⟩ := h.fresh hTT (m1 := m.kill t) (fun t1 o1 h1 => (killed t1 o1 h1).1) rfl (b := ⟨b'.blk, b'.off + k0 * inf.size, b'.cap - k0, inf.size⟩) (w' := w') (o := .opn ty' inf.size (l' ++ new))
                            (fun t1 o1' b2 h1 h2 => by
                              obtain ⟨h3, h4⟩ := killed t1 o1' h1
                              have : b2.blk ≠ b'.blk := fun hq => h4 (h.inj t1 t _ _ b2 b' h3 ho rfl h2 o1 hq)
                              exact ⟨this, hwr.block _ this⟩)
                            (h.own t _ b' ho rfl o1)
                            ⟨hwr.os, hwr.tape, hwr.output, Nat.le_of_eq hwr.size.symm, fun i hi2 => hwr.block i (fun hq => h.own t _ b' ho rfl o1 (hq ▸ hi2))⟩
                            ⟨_, vs ++ us, pre ++ lv.take (k0 * inf.size), (pre ++ lv ++ suf).drop (b'.off + (k0 + n') * inf.size + us.length), Env.ext_same .., rfl, g1, by
                              show (pre ++ lv.take (k0 * inf.size)).length = b'.off + k0 * inf.size
                              simp [o4]; omega, denL_mono (Env.ext_le hTT.1 _) _ _ hdd, all_append ao an, ⟨fr, by rw [← hrow]; exact hh, by rw [← hrow, putN_length]; exact o7'⟩, by
                              show (vs ++ us ++ (pre ++ lv ++ suf).drop (b'.off + (k0 + n') * inf.size + us.length)).length = (b'.cap - k0) * inf.size
                              have e1 : (pre ++ lv ++ suf).length = b'.off + b'.cap * inf.size := by rw [List.append_assoc, List.length_append, o8, o4]
                              rw [List.length_append, List.length_drop, e1, hlen, u2, Nat.sub_mul, m1, m2]
                              omega, by show b'.cap - k0 ≤ maxLen; omega⟩
                          refine ⟨_, .slice (some ⟨b'.blk, b'.off + k0 * b'.sz, none⟩) (n' + (k + 1)) (b'.cap - k0), w', f5, ?_, f6, room hroom (by omega) w' (by simpa using r)⟩
                          show ((e.ext TT _) TT).map _ = _
                          rw [Env.ext_same]
                          simp [o2]
                        · obtain ⟨v', w', r1, r2, r3⟩ := run_append_arg_grows (P := P) w T ty ty' inf zv inf.size inf.bytes hu hi hzz rfl rfl g4 g1 ⟨b'.blk, b'.off + k0 * b'.sz, none⟩ n' (b'.cap - k0) vs v2 v5 ad (k + 1) cx us u2 hcell (by omega) f3 f4
                          obtain ⟨e', q3, q4, q5⟩ := grown_ok h hTT (m1 := m.kill t) (fun t1 o1 h1 => (killed t1 o1 h1).1) rfl g1 hdd (all_append ao an) (by omega) hlen r2 r3
                          exact ⟨e', v', w', q3, q4, q5, r1⟩
                    · cases hold2
                  · cases hold2
                · trivial
              · trivial
          · trivial
        · trivial
      · trivial
    · trivial
  · trivial
end Go.Cx
