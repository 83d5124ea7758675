/-
  A concrete evaluator for Go's IR. Part g: literals, rows, append, copy.
-/
import Derived.Test.YtelgaffeihgffaaGreatDoorCf
set_option linter.unusedSimpArgs false
set_option linter.unusedVariables false
namespace Go.Cx
open Go Go.RowKit
variable {e : Env} {P : Program} {w : World} {m : Mem} {W0 : Bas}

inductive PartsOk (e : Env) : List (Nat × CV) → List (Nat × Value) → Prop where
  | nil : PartsOk e [] []
  | cons {i : Nat} {x : CV} {v : Value} {l : List (Nat × CV)} {r : List (Nat × Value)} : den e x = some v → PartsOk e l r → PartsOk e ((i, x) :: l) ((i, v) :: r)

theorem putN_fold (off : Nat) : ∀ (us vs : List Value) (k : Nat), (putN vs (off + k) us).toArray = (us.zipIdx k).foldl (fun acc (p : Value × Nat) => acc.setIfInBounds (off + p.2) p.1) vs.toArray
  | [], _, _ => rfl
  | u :: us, vs, k => by
    simp only [putN, List.zipIdx_cons, List.foldl_cons]
    have := putN_fold off us (vs.set (off + k) u) (k + 1)
    rw [← Nat.add_assoc] at this
    rw [this]
    simp

theorem fillC_ok (place : Nat → Option (Nat × Nat)) : ∀ {parts : List (Nat × CV)} {vparts : List (Nat × Value)} {cells res : List CV} {cs : List Value}, PartsOk e parts vparts → denL e cells = some cs → fillC place cells parts = some res →
    ∃ rs, denL e res = some rs ∧ rs.length = cs.length ∧ Instr.fill place cs.toArray vparts = some rs.toArray
  | [], _, cells, res, cs, .nil, hc, h => by
    simp only [fillC, Option.some.injEq] at h; subst h
    exact ⟨cs, hc, rfl, rfl⟩
  | (i, x) :: l, _, cells, res, cs, .cons (v := v) (r := r) hx hp, hc, h => by
    unfold fillC at h
    split at h
    · rename_i off size vs hpl hvs
      split at h
      · rename_i hcond
        simp only [Bool.and_eq_true] at hcond
        obtain ⟨us, hu, hV⟩ := cvCells_den hvs hx
        have h1 : us.length = size := by rw [denL_length hu]; exact Nat.eq_of_beq_eq_true hcond.1
        have h2 : off + us.length ≤ cs.length := by rw [denL_length hu, denL_length hc]; exact Nat.le_of_ble_eq_true hcond.2
        obtain ⟨rs, k1, k2, k3⟩ := fillC_ok place hp (denL_wr hc hu) h
        refine ⟨rs, k1, by rw [k2, putN_length], ?_⟩
        have hsz : v.cells.size = us.length := by rw [← Array.length_toList, hV]
        unfold Instr.fill
        simp only [hpl, hsz]
        rw [if_neg (by simp [h1]; omega)]
        rw [← k3]
        congr 1
        have := putN_fold off us cs 0
        rw [Nat.add_zero] at this
        rw [this, ← Array.foldl_toList, Array.toList_zipIdx, hV]
      · cases h
    · cases h

def placeOf (f : Field) : Sem (Nat × Nat) := do pure (f.offset, ← sizeOf f.type)
theorem run_places : ∀ (fs : List Field), infoAll P fs = true → ∀ w, (fs.mapM placeOf).run P w = .ok (fs.map fun f => (f.offset, P.cellsOf f.type)) w
  | [], _, w => by simp
  | f :: fs, h, w => by
    simp only [infoAll, Bool.and_eq_true] at h
    obtain ⟨i, hi⟩ := Option.isSome_iff_exists.1 h.1
    simp [placeOf, run_size hi, run_places fs h.2 w, Program.cellsOf, hi]

theorem cBuild_ok {parts : List (Nat × CV)} {vparts : List (Nat × Value)} (hp : PartsOk e parts vparts) (t : TypeId) : VOk P e w (cBuild P t parts) (Instr.build t vparts.toArray) := by
  unfold cBuild
  split
  · trivial
  · rename_i z hz
    obtain ⟨iz, zv, hiz, hzz, hzd⟩ := zeroC_some hz
    split
    · rename_i fs hu
      split
      · rename_i hi
        split
        · rename_i cs hf
          obtain ⟨rs, k1, _, k3⟩ := fillC_ok _ hp (hzd e) hf
          refine ⟨.agg rs.toArray, by simp [den, k1], ?_⟩
          have hpl : (fs.mapM placeOf).run P w = .ok (fs.map fun f => (f.offset, P.cellsOf f.type)) w := by
            have := run_places (P := P) fs.toList hi w
            rw [Array.mapM_eq_mapM_toList, Sem.run_map, this]
            obtain ⟨l⟩ := fs
            simp
          have hplace : (fun (i : Nat) => (fs.map fun f : Field => (f.offset, P.cellsOf f.type))[i]?) = structPlace P fs := by
            funext i
            unfold structPlace
            rw [nth_eq, Array.getElem?_map, ← Array.getElem?_toList]
            cases fs.toList[i]? <;> rfl
          have hpl' : (fs.mapM fun (f : Field) => (do let s ← sizeOf f.type; pure (f.offset, s) : Sem (Nat × Nat))).run P w = .ok (fs.map fun f => (f.offset, P.cellsOf f.type)) w := hpl
          have hza : zv.cells.toList.toArray = zv.cells := by simp
          rw [hza] at k3
          simp only [Instr.build, Sem.run_bind, run_zero hiz hzz, Result.andThen_ok, run_under hu, hpl', hplace, k3]
          rfl
        · trivial
      · trivial
    · rename_i len el hu
      split
      · rename_i i hi
        split
        · rename_i cs hf
          obtain ⟨rs, k1, _, k3⟩ := fillC_ok _ hp (hzd e) hf
          refine ⟨.agg rs.toArray, by simp [den, k1], ?_⟩
          have hza : zv.cells.toList.toArray = zv.cells := by simp
          rw [hza] at k3
          simp only [Instr.build, Sem.run_bind, run_zero hiz hzz, Result.andThen_ok, run_under hu, run_size hi, k3]
          rfl
        · trivial
      · trivial
    · trivial

theorem rep_length (z : List CV) : ∀ n, (rep z n).length = n * z.length
  | 0 => by simp [rep]
  | n + 1 => by simp [rep, rep_length z n, Nat.add_mul]; omega
def repV (z : List Value) : Nat → List Value
  | 0 => []
  | n + 1 => z ++ repV z n
theorem repV_length (z : List Value) : ∀ n, (repV z n).length = n * z.length
  | 0 => by simp [repV]
  | n + 1 => by simp [repV, repV_length z n, Nat.add_mul]; omega
theorem rep_den {z : List CV} {zv : List Value} (h : denL e z = some zv) : ∀ n, denL e (rep z n) = some (repV zv n)
  | 0 => rfl
  | n + 1 => denL_append h (rep_den h n)
theorem repV_get (z : List Value) (hz : 0 < z.length) : ∀ (n i : Nat), i < n * z.length → (repV z n)[i]? = z[i % z.length]?
  | 0, i, h => by simp at h
  | n + 1, i, h => by
    simp only [repV]
    by_cases hi : i < z.length
    · rw [List.getElem?_append_left hi, Nat.mod_eq_of_lt hi]
    · rw [List.getElem?_append_right (by omega), repV_get z hz n (i - z.length) (by rw [Nat.add_mul] at h; omega)]
      congr 1
      rw [← Nat.mod_eq_sub_mod (by omega)]
theorem range_rep (z : Array Value) (n : Nat) (hz : 0 < z.size) : (Array.range (n * z.size)).map (fun j => z[j % z.size]!) = (repV z.toList n).toArray := by
  apply Array.ext_getElem?
  intro i
  rw [Array.getElem?_map]
  by_cases hi : i < n * z.size
  · rw [Array.getElem?_range, if_pos hi]
    have h1 := repV_get z.toList (by simpa using hz) n i (by simpa using hi)
    simp only [List.getElem?_toArray, h1, Option.map_some]
    have hm : i % z.size < z.size := Nat.mod_lt _ hz
    simp [hm, getElem!_pos]
  · rw [Array.getElem?_range, if_neg hi]
    have h1 : (repV z.toList n).length ≤ i := by rw [repV_length]; simpa using hi
    simp [h1]

theorem cBuildSlice_ok (h : Rel W0 e m w) {T : Nat} (hT : e T = none ∧ ¬ W0.Z T) {parts : List (Nat × CV)} {vparts : List (Nat × Value)} (hp : PartsOk e parts vparts) (t : TypeId) (len : Nat) : EOk W0 P e m w (cBuildSlice P T m t len parts) (Instr.buildSlice t len vparts.toArray) := by
  unfold cBuildSlice
  split
  · rename_i elem hu
    split
    · rename_i i z hi hz
      obtain ⟨iz, zv, hiz, hzz, hzd⟩ := zeroC_some hz
      obtain rfl : i = iz := by rw [hi] at hiz; cases hiz; rfl
      split
      · rename_i hcond
        simp only [Bool.and_eq_true] at hcond
        have g1 : 0 < i.size := by simpa [Nat.blt_eq] using hcond.1
        have g2 : len * i.size ≤ 100000 := Nat.le_of_ble_eq_true hcond.2.1
        have g3 : z.length = i.size := Nat.eq_of_beq_eq_true hcond.2.2
        have g4 : zv.cells.size = i.size := by rw [← g3, ← denL_length (hzd e)]; simp
        split
        · rename_i cs hf
          split
          · rename_i ha
            obtain ⟨rs, k1, k2, k3⟩ := fillC_ok _ hp (rep_den (hzd e) len) hf
            obtain ⟨h1, h2⟩ := h.alloc hT (o := .cells elem cs) (x := .cells rs.toArray elem (0, 0)) ⟨w.heap.size, 0, 0, 0⟩ rfl
              ⟨_, rs, Env.ext_same .., rfl, denL_mono (Env.ext_le hT.1 _) _ _ k1, ha, by rw [heap_push, if_pos rfl]⟩
            refine ⟨_, .slice (some ⟨w.heap.size, 0, none⟩) len len, _, h1, ?_, h2, ?_⟩
            · show ((e.ext T _) T).map _ = _
              rw [Env.ext_same]; rfl
            · have hg : ¬ len * i.size > 2 ^ 24 := by omega
              have hr := range_rep zv.cells len (by omega)
              rw [g4] at hr
              rw [← hr] at k3
              by_cases h0 : len * i.size = 0
              · have hr0 : (Array.range (len * i.size)).map (fun j => (#[] : Array Value)[j % (#[] : Array Value).size]!) = (Array.range (len * i.size)).map (fun j => zv.cells[j % i.size]!) := by simp [h0]
                simp only [Instr.buildSlice, Sem.run_bind, run_under hu, Result.andThen_ok, run_size hi, if_neg hg, Sem.run_pure, if_pos h0, hr0, k3, newRow, run_newObj]
                rfl
              · simp only [Instr.buildSlice, Sem.run_bind, run_under hu, Result.andThen_ok, run_size hi, if_neg hg, Sem.run_pure, if_neg h0, run_zero hi hzz, g4, k3, newRow, run_newObj]
                rfl
          · trivial
        · trivial
      · trivial
    · trivial
  · trivial
end Go.Cx
