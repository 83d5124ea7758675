/-
  A concrete evaluator for Go's IR. Part e, on: arithmetic.
-/
import Derived.Test.YtelgaffeihgffaaGreatDoorCe
set_option linter.unusedSimpArgs false
set_option linter.unusedVariables false
namespace Go.Cx
open Go Go.RowKit
variable {e : Env} {P : Program} {w : World} {m : Mem}

theorem same_ok {f : IntKind → Int → Int → COut} {k k' : IntKind} {a b : Int} {s : Sem Value} (h : k = k' → VOk P e w (f k a b) s) : VOk P e w (same f k k' a b) s := by
  unfold same
  split
  · rename_i hk; exact h (kEq_true hk)
  · trivial

theorem intOp_ok {k k' : IntKind} {a b : Int} (op : BinOp) (t : TypeId) (X Y : Operand) :
    VOk P e w (intOp op k k' a b) (do eqGuard op t X Y (.int k a) (.int k' b); binOp op t (.int k a) (.int k' b)) := by
  simp only [eqGuard_at_int, pure_bind]
  cases op <;> simp only [intOp, anyK]
  case shl =>
    unfold binShl
    split
    · trivial
    · rename_i h
      rw [ilt_eq] at h
      have h : ¬ b < 0 := by simpa using h
      exact ⟨_, rfl, by simp [binOp, Op.shift, h]⟩
  case shr =>
    unfold binShr
    split
    · trivial
    · rename_i h
      rw [ilt_eq] at h
      have h : ¬ b < 0 := by simpa using h
      exact ⟨_, rfl, by simp [binOp, Op.shift, h]⟩
  all_goals
    refine same_ok fun hk => ?_
    subst hk
  case quo =>
    unfold binQuo
    split
    · trivial
    · rename_i h
      rw [ieq_eq] at h
      have h : ¬ b = 0 := by simpa using h
      exact ⟨_, rfl, by simp [binOp, Op.intDiv, h, wrapC_eq]⟩
  case rem =>
    unfold binRem
    split
    · trivial
    · rename_i h
      rw [ieq_eq] at h
      have h : ¬ b = 0 := by simpa using h
      exact ⟨_, rfl, by simp [binOp, Op.intDiv, h]⟩
  case add => exact ⟨_, rfl, by simp [binOp, Op.intArith, wrapC_eq]⟩
  case sub => exact ⟨_, rfl, by simp [binOp, Op.intArith, wrapC_eq]⟩
  case mul => exact ⟨_, rfl, by simp [binOp, Op.intArith, wrapC_eq]⟩
  case and => exact ⟨_, rfl, by simp only [binOp, ne_eq, not_true, if_false]; rfl⟩
  case or => exact ⟨_, rfl, by simp only [binOp, ne_eq, not_true, if_false]; rfl⟩
  case xor => exact ⟨_, rfl, by simp only [binOp, ne_eq, not_true, if_false]; rfl⟩
  case andNot => exact ⟨_, rfl, by simp only [binOp, ne_eq, not_true, if_false]; rfl⟩
  case eql => exact ⟨_, rfl, by simp [binOp, Op.intCmp, ieq_eq]⟩
  case neq => exact ⟨_, rfl, by simp [binOp, Op.intCmp, ieq_eq, bne]⟩
  case lss => exact ⟨_, rfl, by simp [binOp, Op.intCmp, ilt_eq]⟩
  case gtr => exact ⟨_, rfl, by simp [binOp, Op.intCmp, ilt_eq]⟩
  case leq =>
    refine ⟨_, rfl, ?_⟩
    have : (!ilt b a) = decide (a ≤ b) := by
      rw [ilt_eq]
      by_cases h : b < a
      · have : ¬ a ≤ b := by omega
        simp [h, this]
      · have : a ≤ b := by omega
        simp [h, this]
    simp [binOp, Op.intCmp, this]
  case geq =>
    refine ⟨_, rfl, ?_⟩
    have : (!ilt a b) = decide (a ≥ b) := by
      rw [ilt_eq]
      by_cases h : a < b
      · have : ¬ b ≤ a := by omega
        simp [h, this]
      · have : b ≤ a := by omega
        simp [h, this]
    simp [binOp, Op.intCmp, this]

theorem strOp_ok {a b : List Nat} (op : BinOp) (t : TypeId) (X Y : Operand) :
    VOk P e w (strOp op a b) (do eqGuard op t X Y (.string ⟨(a.map UInt8.ofNat).toArray⟩) (.string ⟨(b.map UInt8.ofNat).toArray⟩); binOp op t (.string ⟨(a.map UInt8.ofNat).toArray⟩) (.string ⟨(b.map UInt8.ofNat).toArray⟩)) := by
  simp only [eqGuard_at_string, pure_bind]
  cases op <;> simp only [strOp] <;> first
    | trivial
    | (refine ⟨_, rfl, ?_⟩; simp [binOp, Op.stringOp, beqL_eq, ltL_eq]; done)
    | skip
  unfold strAdd
  split
  · rename_i h
    have h := Nat.le_of_ble_eq_true h
    refine ⟨_, rfl, ?_⟩
    rw [show binOp .add t (.string ⟨(a.map UInt8.ofNat).toArray⟩) (.string ⟨(b.map UInt8.ofNat).toArray⟩) = Op.stringOp .add ⟨(a.map UInt8.ofNat).toArray⟩ ⟨(b.map UInt8.ofNat).toArray⟩ from by simp [binOp]]
    rw [run_string_add_sum _ _ _ (by show (a.map UInt8.ofNat).toArray.size + (b.map UInt8.ofNat).toArray.size ≤ _; simp; omega), ByteArray.mk_append_mk]
    simp
  · trivial

theorem cBin_ok {op : BinOp} {t : TypeId} {x y : CV} {V U : Value} (hx : den e x = some V) (hy : den e y = some U) (X Y : Operand) :
    VOk P e w (cBin P (litO X || litO Y) op t x y) (do eqGuard op t X Y V U; binOp op t V U) := by
  unfold cBin
  split
  · obtain rfl := den_int hx
    obtain rfl := den_int hy
    exact intOp_ok op t X Y
  · obtain rfl := den_str hx
    obtain rfl := den_str hy
    exact strOp_ok op t X Y
  · trivial
  · trivial
  · trivial
  · rename_i g1 g2 g3 h1 h2
    have hV := nonum hx (fun k n h => g1 k n h) (fun s h => g2 s h) (fun z k r h q => g3 z k r h q)
    cases op <;> simp only [otherOp] <;> first
      | trivial
      | exact cEq_ok (neg := false) hx hy hV X Y
      | exact cEq_ok (neg := true) hx hy hV X Y

theorem cUn_ok {op : UnOp} {x : CV} {V : Value} (hx : den e x = some V) : VOk P e w (cUn op x) (Op.unary op V) := by
  unfold cUn
  split
  · obtain rfl := den_bool hx
    exact ⟨_, rfl, by simp [Op.unary]⟩
  · obtain rfl := den_int hx
    exact ⟨_, rfl, by simp [Op.unary, Op.intArith, wrapC_eq]⟩
  · trivial

theorem bound_some {x : Option CV} {d n : Nat} (h : bound x d = some n) : (x = none ∧ n = d) ∨ ∃ k, x = some (.int k (.ofNat n)) := by
  unfold bound at h
  split at h
  · simp at h; exact .inl ⟨rfl, h.symm⟩
  · simp at h; subst h; exact .inr ⟨_, rfl⟩
  · simp at h
def DenO (e : Env) : Option CV → Option Value → Prop
  | none, none => True
  | some x, some v => den e x = some v
  | _, _ => False
theorem run_sliceBounds {isS : Bool} {len cap : Nat} {lo hi : Option CV} {lv hv : Option Value} (h1 : DenO e lo lv) (h2 : DenO e hi hv) {a b : Nat} (ha : bound lo 0 = some a) (hb : bound hi len = some b)
    (hab : a ≤ b) (hbc : b ≤ cap) (w : World) : (Instr.sliceBounds isS len cap lv hv none).run P w = .ok (a, b, cap) w := by
  have e1 : (match hv with | some v => Instr.sliceBound v cap (if isS then .sliceAcap else .sliceAlen) | none => pure len).run P w = .ok b w := by
    rcases bound_some hb with ⟨rfl, hy⟩ | ⟨k, rfl⟩
    · cases hv with
      | none => simp; omega
      | some v => exact h2.elim
    · cases hv with
      | none => exact h2.elim
      | some v =>
        obtain rfl := den_int (show den e _ = some v from h2)
        simp [Instr.sliceBound, asIntOf, hbc]
  have e2 : (match lv with | some v => Instr.sliceBound v b (if (none : Option Value).isSome then .slice3C else .sliceB) | none => pure 0).run P w = .ok a w := by
    rcases bound_some ha with ⟨rfl, hy⟩ | ⟨k, rfl⟩
    · cases lv with
      | none => simp; omega
      | some v => exact h1.elim
    · cases lv with
      | none => exact h1.elim
      | some v =>
        obtain rfl := den_int (show den e _ = some v from h1)
        simp [Instr.sliceBound, asIntOf, hab]
  unfold Instr.sliceBounds
  cases hv <;> cases lv <;> simp_all

theorem str_slice (s : List Nat) (a b : Nat) : (⟨(s.map UInt8.ofNat).toArray⟩ : ByteArray).extract a b = ⟨(((s.drop a).take (b - a)).map UInt8.ofNat).toArray⟩ := by
  have := Lib.extract_data ⟨(s.map UInt8.ofNat).toArray⟩ a b
  generalize (⟨(s.map UInt8.ofNat).toArray⟩ : ByteArray).extract a b = z at this
  obtain ⟨⟨z⟩⟩ := z
  simp at this
  simp [this, List.map_take, List.map_drop]

theorem run_sliceBounds3 {isS : Bool} {len cap : Nat} {lo : Option CV} {lv : Option Value} {kh km : IntKind} (h1 : DenO e lo lv) {a b c : Nat} (ha : bound lo 0 = some a) (hab : a ≤ b) (hbc : b ≤ c) (hcc : c ≤ cap) (w : World) :
    (Instr.sliceBounds isS len cap lv (some (.int kh (b : Int))) (some (.int km (c : Int)))).run P w = .ok (a, b, c) w := by
  have e0 : (Instr.sliceBound (.int km (c : Int)) cap (if isS then .slice3Acap else .slice3Alen)).run P w = .ok c w := by
    simp [Instr.sliceBound, asIntOf, hcc]
  have e1 : (Instr.sliceBound (.int kh (b : Int)) c .slice3B).run P w = .ok b w := by
    simp [Instr.sliceBound, asIntOf, hbc]
  have e2 : (match lv with | some v => Instr.sliceBound v b .slice3C | none => pure 0).run P w = .ok a w := by
    rcases bound_some ha with ⟨rfl, hy⟩ | ⟨k, rfl⟩
    · cases lv with
      | none => simp; omega
      | some v => exact h1.elim
    · cases lv with
      | none => exact h1.elim
      | some v =>
        obtain rfl := den_int (show den e _ = some v from h1)
        simp [Instr.sliceBound, asIntOf, hab]
  unfold Instr.sliceBounds
  cases lv <;> simp_all

theorem cSliceF_ok (hm : Mok e m w) {x c : CV} {V C : Value} (hx : den e x = some V) {lo hi : Option CV} {lv hv : Option Value} (h1 : DenO e lo lv) (h2 : DenO e hi hv) (h3 : den e c = some C) (t : TypeId) :
    VOk P e w (cSliceF P m t x lo hi c) (Instr.sliceAt t V lv hv (some C)) := by
  unfold cSliceF
  split
  · rename_i kh b km mx
    cases hv with
    | none => exact h2.elim
    | some hv =>
    obtain rfl := den_int (show den e _ = some hv from h2)
    obtain rfl := den_int h3
    split
    · rename_i elem hu
      split
      · rename_i inf hinf
        unfold slFull
        split
        · rename_i tag off n c
          unfold slSlcF
          split
          · rename_i a ha
            split
            · rename_i hc
              simp only [Bool.and_eq_true] at hc
              have hab := Nat.le_of_ble_eq_true hc.1
              have hbm := Nat.le_of_ble_eq_true hc.2.1
              have hmc := Nat.le_of_ble_eq_true hc.2.2
              simp only [den, Option.map_eq_some_iff] at hx
              obtain ⟨bl, hbl, rfl⟩ := hx
              have := run_sliceBounds3 (P := P) (isS := true) (len := n) (cap := c) (kh := kh) (km := km) h1 ha hab hbm hmc w
              by_cases hca : mx = a
              · subst hca
                refine ⟨.slice (some ⟨bl.blk, bl.off + off, none⟩) (b - mx) (mx - mx), ?_, ?_⟩
                · rw [show Nat.beq mx mx = true from beqT rfl]
                  show (e tag).map _ = _
                  rw [hbl]; rfl
                · simp [Instr.sliceAt, run_under hu, Instr.slice, this, run_size hinf]
              · refine ⟨.slice (some ⟨bl.blk, bl.off + (off + a * inf.size), none⟩) (b - a) (mx - a), ?_, ?_⟩
                · rw [show Nat.beq mx a = false from beqF hca]
                  show (e tag).map _ = _
                  rw [hbl]; rfl
                · simp [Instr.sliceAt, run_under hu, Instr.slice, this, run_size hinf, hca, Addr.add_lit, Nat.add_assoc]
            · trivial
          · trivial
        · rename_i tag k n
          split
          · rename_i ty sz cs ho
            unfold slOpnF
            split
            · rename_i a ha
              split
              · rename_i hc
                simp only [Bool.and_eq_true] at hc
                have hab := Nat.le_of_ble_eq_true hc.1
                have hbm := Nat.le_of_ble_eq_true hc.2.1
                have hlen := Nat.le_of_ble_eq_true hc.2.2.1
                have hsz : sz = inf.size := Nat.eq_of_beq_eq_true hc.2.2.2.1
                obtain ⟨bl, l, pre, suf, k1, k2, k3, k4, k5, k6, k7, k8, k9⟩ := hm _ _ ho
                simp only [den, Option.map_eq_some_iff] at hx
                obtain ⟨bl', hbl, rfl⟩ := hx
                obtain rfl : bl = bl' := by rw [k1] at hbl; cases hbl; rfl
                have hcl : cs.length ≤ bl.cap * sz := by rw [← k8, ← denL_length k5]; simp
                have hkb : k + mx ≤ bl.cap := Nat.le_of_mul_le_mul_right (Nat.le_trans hlen hcl) k3
                have := run_sliceBounds3 (P := P) (isS := true) (len := n) (cap := bl.cap - k) (kh := kh) (km := km) h1 ha hab hbm (by omega) w
                have hsz' : inf.size = bl.sz := by rw [k2, hsz]
                by_cases hca : mx = a
                · subst hca
                  refine ⟨.slice (some ⟨bl.blk, bl.off + k * sz, none⟩) (b - mx) (mx - mx), ?_, ?_⟩
                  · rw [show Nat.beq mx mx = true from beqT rfl]
                    show (e tag).map _ = _
                    rw [hbl]; rfl
                  · simp [Instr.sliceAt, run_under hu, Instr.slice, this, run_size hinf, k2]
                · refine ⟨.slice (some ⟨bl.blk, bl.off + (k + a) * sz, none⟩) (b - a) (mx - a), ?_, ?_⟩
                  · rw [show Nat.beq mx a = false from beqF hca]
                    show (e tag).map _ = _
                    rw [hbl]; rfl
                  · simp [Instr.sliceAt, run_under hu, Instr.slice, this, run_size hinf, hca, Addr.add_lit, hsz', k2, Nat.add_mul, Nat.add_assoc]
              · trivial
            · trivial
          · trivial
        · unfold slNilF
          split
          · rename_i ha
            simp only [den, Option.some.injEq] at hx; subst hx
            have := run_sliceBounds3 (P := P) (isS := true) (len := 0) (cap := 0) (kh := kh) (km := km) h1 ha (Nat.le_refl _) (Nat.le_refl _) (Nat.le_refl _) w
            rw [show ((0 : Nat) : Int) = 0 from rfl] at this
            exact ⟨_, rfl, by simp [Instr.sliceAt, run_under hu, Instr.slice, this, run_size hinf]⟩
          · trivial
        · unfold slVoidF
          split
          · rename_i ha
            simp only [den, Option.some.injEq] at hx; subst hx
            have := run_sliceBounds3 (P := P) (isS := true) (len := 0) (cap := 0) (kh := kh) (km := km) h1 ha (Nat.le_refl _) (Nat.le_refl _) (Nat.le_refl _) w
            rw [show ((0 : Nat) : Int) = 0 from rfl] at this
            exact ⟨_, rfl, by simp [Instr.sliceAt, run_under hu, Instr.slice, this, run_size hinf]⟩
          · trivial
        · trivial
      · trivial
    · trivial
  · trivial

theorem cSlice_ok (hm : Mok e m w) {x : CV} {V : Value} (hx : den e x = some V) {lo hi mx : Option CV} {lv hv mv : Option Value} (h1 : DenO e lo lv) (h2 : DenO e hi hv) (h3 : DenO e mx mv) (t : TypeId) :
    VOk P e w (cSlice P m t x lo hi mx) (Instr.sliceAt t V lv hv mv) := by
  unfold cSlice
  split
  · cases mv with
    | none => exact h3.elim
    | some C => exact cSliceF_ok hm hx h1 h2 h3 t
  · have hmv : mv = none := by cases mv with | none => rfl | some _ => exact h3.elim
    subst hmv
    split
    · rename_i hu
      unfold slStr
      split
      · rename_i s
        split
        · rename_i a b ha hb
          split
          · rename_i hc
            simp only [Bool.and_eq_true] at hc
            obtain rfl := den_str hx
            have := run_sliceBounds (P := P) (isS := false) (len := s.length) (cap := s.length) h1 h2 ha hb (Nat.le_of_ble_eq_true hc.1) (Nat.le_of_ble_eq_true hc.2) w
            refine ⟨_, rfl, ?_⟩
            simp [Instr.sliceAt, run_under hu, Instr.slice, size_str, this, str_slice]
          · trivial
        · trivial
      · trivial
    · rename_i elem hu
      split
      · rename_i inf hinf
        unfold slSlice
        split
        · rename_i tag off n c
          unfold slSlc
          split
          · rename_i a b ha hb
            split
            · rename_i hc
              simp only [Bool.and_eq_true] at hc
              have hbc := Nat.le_of_ble_eq_true hc.2
              have hab := Nat.le_of_ble_eq_true hc.1
              simp only [den, Option.map_eq_some_iff] at hx
              obtain ⟨bl, hbl, rfl⟩ := hx
              have := run_sliceBounds (P := P) (isS := true) (len := n) (cap := c) h1 h2 ha hb hab hbc w
              by_cases hca : c = a
              · subst hca
                refine ⟨.slice (some ⟨bl.blk, bl.off + off, none⟩) (b - c) (c - c), ?_, ?_⟩
                · rw [show Nat.beq c c = true from beqT rfl]
                  show (e tag).map _ = _
                  rw [hbl]; rfl
                · simp [Instr.sliceAt, run_under hu, Instr.slice, this, run_size hinf]
              · refine ⟨.slice (some ⟨bl.blk, bl.off + (off + a * inf.size), none⟩) (b - a) (c - a), ?_, ?_⟩
                · rw [show Nat.beq c a = false from beqF hca]
                  show (e tag).map _ = _
                  rw [hbl]; rfl
                · simp [Instr.sliceAt, run_under hu, Instr.slice, this, run_size hinf, hca, Addr.add_lit, Nat.add_assoc]
            · trivial
          · trivial
        · rename_i tag k n
          split
          · rename_i ty sz cs ho
            unfold slOpn
            split
            · rename_i a b ha hb
              split
              · rename_i hc
                simp only [Bool.and_eq_true] at hc
                have hab := Nat.le_of_ble_eq_true hc.1
                have hlen := Nat.le_of_ble_eq_true hc.2.1
                have hsz : sz = inf.size := Nat.eq_of_beq_eq_true hc.2.2.1
                obtain ⟨bl, l, pre, suf, k1, k2, k3, k4, k5, k6, k7, k8, k9⟩ := hm _ _ ho
                simp only [den, Option.map_eq_some_iff] at hx
                obtain ⟨bl', hbl, rfl⟩ := hx
                obtain rfl : bl = bl' := by rw [k1] at hbl; cases hbl; rfl
                have hcl : cs.length ≤ bl.cap * sz := by rw [← k8, ← denL_length k5]; simp
                have hkb : k + b ≤ bl.cap := Nat.le_of_mul_le_mul_right (Nat.le_trans hlen hcl) k3
                have := run_sliceBounds (P := P) (isS := true) (len := n) (cap := bl.cap - k) h1 h2 ha hb hab (by omega) w
                have hsz' : inf.size = bl.sz := by rw [k2, hsz]
                split
                · rename_i hq
                  simp only [Bool.or_eq_true] at hq
                  have hne : a = 0 ∨ ¬ (bl.cap - k = a) := by
                    rcases hq with hq | hq
                    · exact .inl (Nat.eq_of_beq_eq_true hq)
                    · right
                      have h4 : (k + a) * sz < cs.length := by simpa [Nat.blt_eq] using hq
                      have h5 : k + a < bl.cap := Nat.lt_of_mul_lt_mul_right (Nat.lt_of_lt_of_le h4 hcl)
                      omega
                  refine ⟨.slice (some ⟨bl.blk, bl.off + (k + a) * bl.sz, none⟩) (b - a) (bl.cap - (k + a)), ?_, ?_⟩
                  · show (e tag).map _ = _
                    rw [hbl]; rfl
                  · rcases hne with rfl | hne
                    · by_cases hz : bl.cap - k = 0
                      · rw [hz] at this
                        have hb0 : b = 0 := by omega
                        subst hb0
                        have hk : bl.cap - (k + 0) = 0 := by omega
                        simp [Instr.sliceAt, run_under hu, Instr.slice, this, run_size hinf, hz]
                      · simp [Instr.sliceAt, run_under hu, Instr.slice, this, run_size hinf, hz, Addr.add_lit]
                    · simp [Instr.sliceAt, run_under hu, Instr.slice, this, run_size hinf, hne, Addr.add_lit, hsz', Nat.add_mul, Nat.add_assoc, Nat.sub_sub]
                · rename_i hq
                  simp only [Bool.or_eq_false_iff] at hq
                  have h4 : ¬ (k + a) * sz < cs.length := by
                    intro h
                    have : Nat.blt ((k + a) * sz) cs.length = true := by simpa [Nat.blt_eq] using h
                    rw [this] at hq; cases hq.2
                  have hba : b = a := by
                    have h5 : (k + b) * sz ≤ (k + a) * sz := by omega
                    have h6 : k + b ≤ k + a := Nat.le_of_mul_le_mul_right h5 k3
                    omega
                  subst hba
                  by_cases hcap : bl.cap = k + b
                  · refine ⟨.slice (some ⟨bl.blk, bl.off + k * bl.sz, none⟩) 0 0, ?_, ?_⟩
                    · show (e tag).map _ = _
                      rw [hbl]; simp [hcap]
                    · have h0 : bl.cap - k = b := by omega
                      rw [h0] at this
                      simp [Instr.sliceAt, run_under hu, Instr.slice, this, run_size hinf, h0]
                  · refine ⟨.slice (some ⟨bl.blk, bl.off + (k + b) * bl.sz, none⟩) 0 (bl.cap - (k + b)), ?_, ?_⟩
                    · show (e tag).map _ = _
                      rw [hbl]; simp [hcap]
                    · have h0 : ¬ (bl.cap - k = b) := by omega
                      simp [Instr.sliceAt, run_under hu, Instr.slice, this, run_size hinf, h0, Addr.add_lit, hsz', Nat.add_mul, Nat.add_assoc, Nat.sub_sub]
              · trivial
            · trivial
          · trivial
        · unfold slNil
          split
          · rename_i ha hb
            simp only [den, Option.some.injEq] at hx; subst hx
            have := run_sliceBounds (P := P) (isS := true) (len := 0) (cap := 0) h1 h2 ha hb (Nat.le_refl _) (Nat.le_refl _) w
            exact ⟨_, rfl, by simp [Instr.sliceAt, run_under hu, Instr.slice, this, run_size hinf]⟩
          · trivial
        · unfold slVoid
          split
          · rename_i ha hb
            simp only [den, Option.some.injEq] at hx; subst hx
            have := run_sliceBounds (P := P) (isS := true) (len := 0) (cap := 0) h1 h2 ha hb (Nat.le_refl _) (Nat.le_refl _) w
            exact ⟨_, rfl, by simp [Instr.sliceAt, run_under hu, Instr.slice, this, run_size hinf]⟩
          · trivial
        · trivial
      · trivial
    · rename_i n elem hu
      split
      · rename_i inf hinf
        unfold slArr
        split
        · rename_i tag off
          unfold slSlc
          split
          · rename_i a b ha hb
            split
            · rename_i hc
              simp only [Bool.and_eq_true] at hc
              have hbc := Nat.le_of_ble_eq_true hc.2
              have hab := Nat.le_of_ble_eq_true hc.1
              simp only [den, Option.map_eq_some_iff] at hx
              obtain ⟨bl, hbl, rfl⟩ := hx
              have := run_sliceBounds (P := P) (isS := false) (len := n) (cap := n) h1 h2 ha hb hab hbc w
              by_cases hca : n = a
              · subst hca
                refine ⟨.slice (some ⟨bl.blk, bl.off + off, none⟩) (b - n) (n - n), ?_, ?_⟩
                · rw [show Nat.beq n n = true from beqT rfl]
                  show (e tag).map _ = _
                  rw [hbl]; rfl
                · simp [Instr.sliceAt, run_under hu, Instr.sureAddr, this, run_size hinf]
              · refine ⟨.slice (some ⟨bl.blk, bl.off + (off + a * inf.size), none⟩) (b - a) (n - a), ?_, ?_⟩
                · rw [show Nat.beq n a = false from beqF hca]
                  show (e tag).map _ = _
                  rw [hbl]; rfl
                · simp [Instr.sliceAt, run_under hu, Instr.sureAddr, this, run_size hinf, hca, Addr.add_lit, Nat.add_assoc]
            · trivial
          · trivial
        · trivial
      · trivial
    · trivial

theorem cMinMax_ok (mx : Bool) {l : List CV} {vs : List Value} (h : denL e l = some vs) (ats : Array TypeId) (ty : TypeId) :
    VOk P e w (cMinMax mx l) (if mx then Builtin.max_ ats ty vs.toArray else Builtin.min_ ats ty vs.toArray) := by
  unfold cMinMax
  split
  · rename_i k a k' b
    split
    · rename_i hk
      obtain rfl := kEq_true hk
      obtain ⟨v1, l1, hv1, hl1, rfl⟩ := denL_cons h
      obtain ⟨v2, l2, hv2, hl2, rfl⟩ := denL_cons hl1
      simp only [denL, Option.some.injEq] at hl2; subst hl2
      obtain rfl := den_int hv1
      obtain rfl := den_int hv2
      cases mx
      · have h0 := ilt_eq b a
        cases hq : ilt b a <;> rw [hq] at h0
        · have h1 : ¬ b < a := by simpa using h0.symm
          exact ⟨.int k a, by simp [den, hq], by simp [Builtin.min_, Builtin.min2]; omega⟩
        · have h1 : b < a := by simpa using h0.symm
          exact ⟨.int k b, by simp [den, hq], by simp [Builtin.min_, Builtin.min2]; omega⟩
      · have h0 := ilt_eq a b
        cases hq : ilt a b <;> rw [hq] at h0
        · have h1 : ¬ a < b := by simpa using h0.symm
          exact ⟨.int k a, by simp [den, hq], by simp [Builtin.max_, Builtin.max2]; omega⟩
        · have h1 : a < b := by simpa using h0.symm
          exact ⟨.int k b, by simp [den, hq], by simp [Builtin.max_, Builtin.max2]; omega⟩
    · trivial
  · trivial
end Go.Cx
