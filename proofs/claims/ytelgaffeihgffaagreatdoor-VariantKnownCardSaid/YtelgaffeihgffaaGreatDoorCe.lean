/-
  A concrete evaluator for Go's IR. Part e: comparisons, arithmetic, slices, values that are built.
-/
import Derived.Test.YtelgaffeihgffaaGreatDoorCd
import Derived.ChangeKeysEq
import Derived.LaidEql
set_option linter.unusedSimpArgs false
set_option linter.unusedVariables false
namespace Go.Cx
open Go Go.RowKit
variable {e : Env} {P : Program} {w : World} {m : Mem}

theorem kEq_true {a b : IntKind} (h : kEq a b = true) : a = b := by
  cases a <;> cases b <;> first | rfl | (simp [kEq, kNum] at h)
theorem wrapC_eq (k : IntKind) (n : Int) : wrapC k n = k.wrap n := by
  unfold wrapC
  split
  · rename_i a
    split
    · rename_i h
      have h : a < kTop k := by simpa [Nat.blt_eq] using h
      have h0 : (0 : Int) ≤ Int.ofNat a := Int.natCast_nonneg a
      have h1 : (Int.ofNat a : Int) = (a : Int) := rfl
      cases k <;> simp only [kTop] at h <;> simp [IntKind.wrap, IntKind.bits, IntKind.signed] <;> omega
    · rfl
  · rfl
theorem ieq_eq (a b : Int) : ieq a b = (a == b) := by
  have h : ieq a b = true ↔ a = b := by
    cases a <;> cases b <;> simp [ieq] <;> omega
  exact Bool.eq_iff_iff.2 (by rw [h]; simp)
theorem ilt_eq (a b : Int) : ilt a b = decide (a < b) := by
  have h : ilt a b = true ↔ a < b := by
    cases a <;> cases b <;> simp [ilt, Nat.blt_eq] <;> omega
  exact Bool.eq_iff_iff.2 (by rw [h]; simp)
theorem beqL_eq : ∀ (a b : List Nat), beqL a b = (a.map UInt8.ofNat == b.map UInt8.ofNat)
  | [], [] => rfl
  | [], _ :: _ => rfl
  | _ :: _, [] => rfl
  | a :: x, b :: y => by
    have h : (UInt8.ofNat a == UInt8.ofNat b) = Nat.beq (a % 256) (b % 256) := by
      by_cases h : a % 256 = b % 256
      · rw [beqT h]; simp [← UInt8.toNat_inj, h]
      · rw [beqF h]; simp [← UInt8.toNat_inj, h]
    simp only [beqL, List.map_cons]
    rw [List.cons_beq_cons, h, ← beqL_eq x y]
    cases Nat.beq (a % 256) (b % 256) <;> rfl
theorem ltL_eq : ∀ (a b : List Nat), ltL a b = Op.bytesLess (a.map UInt8.ofNat) (b.map UInt8.ofNat)
  | [], [] => rfl
  | [], _ :: _ => rfl
  | _ :: _, [] => rfl
  | a :: x, b :: y => by
    have h : (UInt8.ofNat a == UInt8.ofNat b) = Nat.beq (a % 256) (b % 256) := by
      by_cases h : a % 256 = b % 256
      · rw [beqT h]; simp [← UInt8.toNat_inj, h]
      · rw [beqF h]; simp [← UInt8.toNat_inj, h]
    have h2 : decide (UInt8.ofNat a < UInt8.ofNat b) = Nat.blt (a % 256) (b % 256) := by
      by_cases h : a % 256 < b % 256
      · rw [show Nat.blt (a % 256) (b % 256) = true by simpa [Nat.blt_eq] using h]; simp [UInt8.lt_iff_toNat_lt, h]
      · rw [show Nat.blt (a % 256) (b % 256) = false by (cases hb : Nat.blt (a % 256) (b % 256) with | false => rfl | true => exact absurd (by simpa [Nat.blt_eq] using hb) h)]; simp [UInt8.lt_iff_toNat_lt, h]
    simp only [ltL, List.map_cons, Op.bytesLess]
    rw [h, h2, ← ltL_eq x y]
    cases Nat.blt (a % 256) (b % 256) <;> cases Nat.beq (a % 256) (b % 256) <;> rfl

theorem den_agg {cs : List CV} {V : Value} (h : den e (.agg cs) = some V) : ∃ l, denL e cs = some l ∧ V = .agg l.toArray := by
  simp only [den, Option.map_eq_some_iff] at h
  obtain ⟨l, hl, rfl⟩ := h
  exact ⟨l, hl, rfl⟩

theorem ceqF_ok {eq : TypeId → CV → CV → Option Bool} {D : Nat} (heq : ∀ t x y b X Y, eq t x y = some b → den e x = some X → den e y = some Y → ∀ w, (Op.equalIn D t X Y).run P w = .ok b w) {xs ys : List CV} {lx ly : List Value}
    (hx : denL e xs = some lx) (hy : denL e ys = some ly) : ∀ (fs : List Field) (b : Bool), ceqF P eq xs ys fs = some b → ∀ w, (Op.eqFields D lx.toArray ly.toArray fs).run P w = .ok b w
  | [], b, h, w => by
    simp only [ceqF, Option.some.injEq] at h
    simp [Op.eqFields, ← h]
  | f :: fs, b, h, w => by
    unfold ceqF at h
    split at h
    · cases h
    · rename_i hn
      have hn' : f.name ≠ "_" := by simpa using hn
      split at h
      · rename_i a a' ha ha'
        obtain ⟨A, hA, rA, _⟩ := part_den hx ha
        obtain ⟨A', hA', rA', _⟩ := part_den hy ha'
        split at h
        · rename_i hab
          have e1 := heq _ _ _ _ _ _ hab hA hA' w
          have e2 := ceqF_ok heq hx hy fs b h w
          simp [Op.eqFields, hn', rA, rA', e1, e2]
        · rename_i r hr
          have e1 := heq _ _ _ b _ _ h hA hA' w
          cases b with
          | true => exact absurd h (by simpa using hr)
          | false => simp [Op.eqFields, hn', rA, rA', e1]
      · cases h

theorem ceqA_ok {eq : TypeId → CV → CV → Option Bool} {D : Nat} (heq : ∀ t x y b X Y, eq t x y = some b → den e x = some X → den e y = some Y → ∀ w, (Op.equalIn D t X Y).run P w = .ok b w) {xs ys : List CV} {lx ly : List Value} {el : TypeId} {sz : Nat}
    (hx : denL e xs = some lx) (hy : denL e ys = some ly) : ∀ (n i : Nat) (b : Bool), ceqA P eq el sz xs ys i n = some b → ∀ w, (Op.eqItems D el sz lx.toArray ly.toArray (List.range' i n)).run P w = .ok b w
  | 0, i, b, h, w => by
    simp only [ceqA, Option.some.injEq] at h
    simp [Op.eqItems, ← h]
  | n + 1, i, b, h, w => by
    unfold ceqA at h
    split at h
    · rename_i a a' ha ha'
      obtain ⟨A, hA, rA, _⟩ := part_den hx ha
      obtain ⟨A', hA', rA', _⟩ := part_den hy ha'
      rw [List.range'_succ]
      split at h
      · rename_i hab
        have e1 := heq _ _ _ _ _ _ hab hA hA' w
        have e2 := ceqA_ok heq hx hy n (i + 1) b h w
        simp [Op.eqItems, rA, rA', e1, e2]
      · rename_i r hr
        have e1 := heq _ _ _ b _ _ h hA hA' w
        cases b with
        | true => exact absurd h (by simpa using hr)
        | false => simp [Op.eqItems, rA, rA', e1]
    · cases h

theorem den_int {k : IntKind} {n : Int} {V : Value} (h : den e (.int k n) = some V) : V = .int k n := by simpa [den] using h.symm
theorem den_str {s : List Nat} {V : Value} (h : den e (.str s) = some V) : V = .string ⟨(s.map UInt8.ofNat).toArray⟩ := by simpa [den] using h.symm
theorem den_bool {b : Bool} {V : Value} (h : den e (.bool b) = some V) : V = .bool b := by simpa [den] using h.symm

theorem ceq_ok : ∀ (d : Nat) (t : TypeId) (x y : CV) (b : Bool) (X Y : Value), ceq P d t x y = some b → den e x = some X → den e y = some Y → ∀ D, d ≤ D → ∀ w, (Op.equalIn D t X Y).run P w = .ok b w
  | 0, t, x, y, b, X, Y, h, _, _, _, _, _ => by simp [ceq] at h
  | d + 1, t, x, y, b, X, Y, h, hx, hy, D, hD, w => by
    obtain ⟨D, rfl⟩ : ∃ k, D = k + 1 := ⟨D - 1, by omega⟩
    have ih : ∀ t x y b X Y, ceq P d t x y = some b → den e x = some X → den e y = some Y → ∀ w, (Op.equalIn D t X Y).run P w = .ok b w := fun t x y b X Y h1 h2 h3 w => ceq_ok d t x y b X Y h1 h2 h3 D (by omega) w
    change (match P.underlying t with
      | some (.int _) => eqInt
      | some .string => eqStr
      | some .bool => eqBool
      | some (.pointer el) => eqPtr P el
      | some (.interface _) => eqIfc P (ceq P d)
      | some (.slice _) => eqSlc
      | some (.func _ _ _) => eqFn
      | some (.map _ _) => eqMap
      | some (.struct fs) => eqStruct P (ceq P d) t fs.toList
      | some (.array n el) => eqArr P (ceq P d) el n
      | _ => fun _ _ => none) x y = some b at h
    generalize hu : P.underlying t = u at h
    split at h
    · rename_i k
      unfold eqInt at h
      split at h
      · split at h
        · rename_i hk
          obtain rfl := kEq_true hk
          obtain rfl := den_int hx
          obtain rfl := den_int hy
          simp only [Option.some.injEq] at h; subst h
          rw [ieq_eq]
          exact run_equalIn_int w D t _ _ _ _ hu
        · cases h
      · cases h
    · unfold eqStr at h
      split at h
      · rename_i sa sb
        obtain rfl := den_str hx
        obtain rfl := den_str hy
        simp only [Option.some.injEq] at h; subst h
        rw [beqL_eq]
        have := run_equalIn_string (P := P) w D t ⟨(sa.map UInt8.ofNat).toArray⟩ ⟨(sb.map UInt8.ofNat).toArray⟩ hu
        simpa using this
      · cases h
    · unfold eqBool at h
      split at h
      · rename_i a c
        obtain rfl := den_bool hx
        obtain rfl := den_bool hy
        simp only [Option.some.injEq] at h; subst h
        have := run_equalIn_bool' (P := P) w D t a c hu
        rw [this]
        cases a <;> cases c <;> rfl
      · cases h
    · rename_i el
      unfold eqPtr at h
      split at h
      · simp only [Option.some.injEq] at h; subst h
        simp only [den, Option.some.injEq] at hx hy
        subst hx; subst hy; simp [Op.equalIn, run_under hu]
      · simp only [Option.some.injEq] at h; subst h
        simp only [den, Option.some.injEq, Option.map_eq_some_iff] at hx hy
        obtain ⟨b, _, rfl⟩ := hx; subst hy; simp [Op.equalIn, run_under hu]
      · simp only [Option.some.injEq] at h; subst h
        simp only [den, Option.some.injEq, Option.map_eq_some_iff] at hx hy
        obtain ⟨b, _, rfl⟩ := hy; subst hx; simp [Op.equalIn, run_under hu]
      · split at h
        · rename_i a1 b1 a2 b2 _ j hb hj
          simp only [Bool.and_eq_true] at hb
          obtain rfl := Nat.eq_of_beq_eq_true hb.1
          obtain rfl := Nat.eq_of_beq_eq_true hb.2
          simp only [Option.some.injEq] at h; subst h
          rw [hx] at hy
          obtain rfl := Option.some.inj hy
          simp only [den, Option.map_eq_some_iff] at hx
          obtain ⟨b, _, rfl⟩ := hx
          simp [Op.equalIn, run_under hu, sizeOf, typeInfo, hj, run_sameAddr_same]
        · cases h
      · cases h
    · rename_i ms
      unfold eqIfc at h
      split at h
      · simp only [Option.some.injEq] at h; subst h
        simp only [den, Option.some.injEq, Option.map_eq_some_iff] at hx hy
        subst hx; subst hy; simp [Op.equalIn, run_under hu]
      · simp only [Option.some.injEq] at h; subst h
        simp only [den, Option.some.injEq, Option.map_eq_some_iff] at hx hy
        obtain ⟨b, _, rfl⟩ := hy; subst hx; simp [Op.equalIn, run_under hu]
      · simp only [Option.some.injEq] at h; subst h
        simp only [den, Option.some.injEq, Option.map_eq_some_iff] at hx hy
        obtain ⟨b, _, rfl⟩ := hx; subst hy; simp [Op.equalIn, run_under hu]
      · rename_i ta va tb vb
        simp only [den, Option.map_eq_some_iff] at hx hy
        obtain ⟨VA, hVA, rfl⟩ := hx
        obtain ⟨VB, hVB, rfl⟩ := hy
        split at h
        · rename_i htt
          have htt := Nat.eq_of_beq_eq_true htt
          subst htt
          unfold eqSameI at h
          split at h
          · rename_i i hi
            split at h
            · rename_i hcmp
              have hrec := ih ta va vb b VA VB h hVA hVB w
              have hnc : ¬ ((!i.comparable) = true) := by rw [hcmp]; simp
              simp only [Op.equalIn, Sem.run_bind, run_under hu, Result.andThen_ok]
              rw [if_neg (by simp)]
              simp only [Sem.run_bind, run_info hi, Result.andThen_ok]
              rw [if_neg hnc]
              exact hrec
            · cases h
          · cases h
        · rename_i htt
          simp only [Option.some.injEq] at h; subst h
          have hne : ta ≠ tb := fun hq => by rw [beqT hq] at htt; cases htt
          simp [Op.equalIn, run_under hu, hne]
      · cases h
    · rename_i el
      unfold eqSlc at h
      split at h <;> simp only [Option.some.injEq, reduceCtorEq] at h <;> subst h <;> simp only [den, Option.some.injEq, Option.map_eq_some_iff] at hx hy
      · subst hx; subst hy; simp [Op.equalIn, run_under hu]
      · obtain ⟨b, _, rfl⟩ := hx; subst hy; simp [Op.equalIn, run_under hu]
      · obtain ⟨b, _, rfl⟩ := hx; subst hy; simp [Op.equalIn, run_under hu]
      · obtain ⟨b, _, rfl⟩ := hx; subst hy; split <;> simp [Op.equalIn, run_under hu]
      · subst hx; subst hy; simp [Op.equalIn, run_under hu]
    · rename_i p1 p2 p3
      unfold eqFn at h
      split at h <;> simp only [Option.some.injEq, reduceCtorEq] at h <;> subst h <;> simp only [den, Option.some.injEq, Option.map_eq_some_iff, Option.bind_eq_some_iff] at hx hy
      · obtain ⟨_, _, _, _, rfl⟩ := hx; subst hy; simp [Op.equalIn, run_under hu]
      · subst hx; subst hy; simp [Op.equalIn, run_under hu]
    · rename_i p1 p2
      unfold eqMap at h
      split at h <;> simp only [Option.some.injEq, reduceCtorEq] at h <;> subst h <;> simp only [den, Option.some.injEq, Option.map_eq_some_iff] at hx hy
      · obtain ⟨b, _, rfl⟩ := hx; subst hy; simp [Op.equalIn, run_under hu]
      · subst hx; subst hy; simp [Op.equalIn, run_under hu]
    · rename_i fs
      unfold eqStruct at h
      split at h
      · split at h
        · cases h
        · rename_i hp
          obtain ⟨lx, hlx, rfl⟩ := den_agg hx
          obtain ⟨ly, hly, rfl⟩ := den_agg hy
          have hf : P.fieldsOf t = fs := by unfold Program.fieldsOf; rw [hu]
          have := run_equalIn_struct (P := P) w D t lx.toArray ly.toArray (by rw [hf]; exact hu) hp
          rw [hf] at this
          rw [this]
          exact ceqF_ok ih hlx hly _ _ h w
      · cases h
    · rename_i n el
      unfold eqArr at h
      split at h
      · split at h
        · rename_i inf hi
          obtain ⟨lx, hlx, rfl⟩ := den_agg hx
          obtain ⟨ly, hly, rfl⟩ := den_agg hy
          rw [run_equalIn_array w D lx.toArray ly.toArray hu hi, show P.cellsOf el = inf.size by simp [Program.cellsOf, hi], List.range_eq_range']
          exact ceqA_ok ih hlx hly n 0 b h w
        · cases h
      · cases h
    · cases h

def NoNum (V : Value) : Prop := (∀ k n, V ≠ .int k n) ∧ (∀ k n, V ≠ .float k n) ∧ (∀ k a b, V ≠ .complex k a b) ∧ (∀ s, V ≠ .string s)
theorem bin_eql {V U : Value} (h : NoNum V) (t : TypeId) : binOp .eql t V U = (do pure (.bool (← Op.equal t V U))) := by
  cases V <;> first
    | rfl
    | exact absurd rfl (h.1 _ _)
    | exact absurd rfl (h.2.1 _ _)
    | exact absurd rfl (h.2.2.1 _ _ _)
    | exact absurd rfl (h.2.2.2 _)
    | (cases U <;> rfl)
theorem bin_neq {V U : Value} (h : NoNum V) (t : TypeId) : binOp .neq t V U = (do pure (.bool (!(← Op.equal t V U)))) := by
  cases V <;> first
    | rfl
    | exact absurd rfl (h.1 _ _)
    | exact absurd rfl (h.2.1 _ _)
    | exact absurd rfl (h.2.2.1 _ _ _)
    | exact absurd rfl (h.2.2.2 _)
    | (cases U <;> rfl)

theorem eqGuard_other {op : BinOp} {t : TypeId} {X Y : Operand} {V U : Value} (h1 : ¬ (V = .nilIface ∧ U = .nilIface)) (h2 : ¬ ((∃ a, V = .agg a) ∧ ∃ b, U = .agg b)) : eqGuard op t X Y V U = pure () := by
  cases V <;> first
    | (cases op <;> rfl)
    | (cases U <;> first
        | exact absurd ⟨rfl, rfl⟩ h1
        | exact absurd ⟨⟨_, rfl⟩, _, rfl⟩ h2
        | (cases op <;> rfl))

theorem ofB_ok {neg : Bool} {t : TypeId} {x y : CV} {V U : Value} (hx : den e x = some V) (hy : den e y = some U) (hV : NoNum V) {X Y : Operand}
    (hg : ∀ op, (eqGuard op t X Y V U).run P w = .ok () w) :
    VOk P e w (ofB neg (ceq P 40 t x y)) (do eqGuard (match neg with | true => .neq | false => .eql) t X Y V U; binOp (match neg with | true => .neq | false => .eql) t V U) := by
  cases hc : ceq P 40 t x y with
  | none => cases neg <;> trivial
  | some b =>
    have h := ceq_ok (e := e) 40 t x y b V U hc hx hy 10000 (by omega) w
    cases neg
    · refine ⟨.bool b, rfl, ?_⟩
      simp only [Sem.run_bind, hg, Result.andThen_ok, bin_eql hV, Op.equal, Op.maxDepth, h]
      rfl
    · refine ⟨.bool (!b), rfl, ?_⟩
      simp only [Sem.run_bind, hg, Result.andThen_ok, bin_neq hV, Op.equal, Op.maxDepth, h]
      rfl

theorem nonum {x : CV} {V : Value} (hx : den e x = some V) (h1 : ∀ k n, x ≠ .int k n) (h2 : ∀ s, x ≠ .str s) (h3 : ∀ z k r h, x ≠ .res z k r h) : NoNum V := by
  cases x <;> simp only [den, Option.some.injEq, Option.map_eq_some_iff, Option.bind_eq_some_iff] at hx <;> first
    | exact absurd rfl (h1 _ _)
    | exact absurd rfl (h2 _)
    | exact absurd rfl (h3 _ _ _ _)
    | (subst hx; exact ⟨by simp, by simp, by simp, by simp⟩)
    | (obtain ⟨_, _, rfl⟩ := hx; first | (split <;> exact ⟨by simp, by simp, by simp, by simp⟩) | exact ⟨by simp, by simp, by simp, by simp⟩)
    | (obtain ⟨_, _, _, _, rfl⟩ := hx; exact ⟨by simp, by simp, by simp, by simp⟩)

theorem den_nili {x : CV} (hx : den e x = some .nilIface) : x = .nili := by
  cases x <;> simp only [den, Option.some.injEq, Option.map_eq_some_iff, Option.bind_eq_some_iff, reduceCtorEq, and_false, exists_false] at hx <;> first
    | rfl
    | (obtain ⟨b, _, h⟩ := hx; split at h <;> cases h)
theorem den_isagg {x : CV} {a : Array Value} (hx : den e x = some (.agg a)) : ∃ l, x = .agg l := by
  cases x <;> simp only [den, Option.some.injEq, Option.map_eq_some_iff, Option.bind_eq_some_iff, reduceCtorEq, and_false, exists_false] at hx <;> first
    | exact ⟨_, rfl⟩
    | (obtain ⟨b, _, h⟩ := hx; split at h <;> cases h)

theorem eqGuard_lit {X Y : Operand} (h : (litO X || litO Y) = true) (op : BinOp) (t : TypeId) (w : World) : (eqGuard op t X Y .nilIface .nilIface).run P w = .ok () w := by
  cases X <;> cases Y <;> first
    | (simp [litO] at h; done)
    | (cases op <;> simp [eqGuard])
theorem cEq_ok {neg : Bool} {t : TypeId} {x y : CV} {V U : Value} (hx : den e x = some V) (hy : den e y = some U) (hV : NoNum V) (X Y : Operand) :
    VOk P e w (cEq P (litO X || litO Y) neg t x y) (do eqGuard (match neg with | true => .neq | false => .eql) t X Y V U; binOp (match neg with | true => .neq | false => .eql) t V U) := by
  unfold cEq
  split
  · rename_i hk
    split
    · rename_i hl
      refine ofB_ok hx hy hV fun op => ?_
      unfold eqKind at hk
      split at hk <;> try cases hk
      simp only [den, Option.some.injEq] at hx hy
      subst hx; subst hy
      exact eqGuard_lit hl op t w
    · trivial
  · rename_i hk
    split
    · trivial
    · rename_i hg
      refine ofB_ok hx hy hV fun op => ?_
      unfold eqKind at hk
      split at hk <;> try cases hk
      obtain ⟨l, _, rfl⟩ := den_agg hx
      obtain ⟨l', _, rfl⟩ := den_agg hy
      exact run_eqGuard_agg w op t X Y _ _ hg
  · rename_i h0 h1
    refine ofB_ok hx hy hV fun op => ?_
    rw [eqGuard_other]
    · rfl
    · rintro ⟨rfl, rfl⟩
      rw [den_nili hx, den_nili hy] at h0
      exact h0 rfl
    · rintro ⟨⟨a, rfl⟩, b, rfl⟩
      obtain ⟨l, rfl⟩ := den_isagg hx
      obtain ⟨l', rfl⟩ := den_isagg hy
      exact h1 rfl

end Go.Cx
