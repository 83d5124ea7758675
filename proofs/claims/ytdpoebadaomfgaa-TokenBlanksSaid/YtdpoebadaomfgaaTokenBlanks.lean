/-
  For every text and all numbers the law TokenBlanks answers true. Conditions: none.
-/
import Derived.Test.YtdpoebadaomfgaaKr
import Derived.Test.YtdpoebadaomfgaaVs
import Derived.Test.YtdpoebadaomfgaaRows
set_option linter.unusedSimpArgs false
set_option linter.unusedVariables false
namespace Go.Proofs.Ytdpoebadaomfgaa
open Go Go.Pw Go.ChangeShapes Go.WideShapes Go.ChangeAt Go.RowKit
open Go.ChangeMaps (open_string shut_string)

section
variable {H : Type} {enc : TypeId × Value → H} {P : Program}
theorem cell_lt {w : World} {a : Addr} {v : Value} (h : w.cell? a = some v) : a.block < w.heap.size := by
  unfold World.cell? at h
  split at h
  · rename_i c ty fr hc
    exact (Array.getElem?_eq_some_iff.1 hc).1
  · cases h
theorem cell_rd {w : World} {a : Addr} {k : Int} (h : w.cell? a = some (.int .i64 k)) : HRd1 (fun b => w.heap[b]?) a (.int .i64 k) := by
  refine ⟨World.cell?_spot h, ?_⟩
  unfold World.cell? at h
  split at h
  · rename_i c ty fr hc
    split at h
    · cases h
    · exact ⟨c, ty, fr, _, hc, h, fun e => rfl, rfl⟩
  · cases h
theorem in64_of_wf {n : Int} (h : (Lit.int .i64 n).wf = true) : -9223372036854775808 ≤ n ∧ n ≤ 9223372036854775807 := by
  simp only [Lit.wf, Bool.and_eq_true, decide_eq_true_eq] at h
  have h1 : IntKind.i64.min = -9223372036854775808 := by decide
  have h2 : IntKind.i64.max = 9223372036854775807 := by decide
  omega
theorem shut_nil_slice {w : World} {base : Nat} {sp : Nat → Bool} {hd : Bool} {t e : TypeId} (ht : P.underlying t = some (.slice e)) : DataW.Trod enc P w base sp hd t (.slice none 0 0) .nil [] := by
  refine ⟨1, ?_⟩
  show DataW.trod enc P w base sp hd 1 t [.slice none 0 0] = _
  rw [DataW.trod_step]
  simp [DataW.trodStep, ht]
end

theorem Try.own : ownKnob Try.prog.godebug = none := by kernel_rfl

set_option maxRecDepth 100000 in
theorem tokenBlanks_lifted (os : Os) (started : os.Started) (H : Type) (enc : TypeId × Value → H) :
    ReturnsInHanded {} Try.checked os 5 .any (Rows.tokenBlanksSpec.pre6 enc Try.prog Try.f5 Rows.tokenBlanksRow.domain false) (Rows.tokenBlanksSpec.post enc Try.prog Try.f5 false true false false) := by
  refine returnsInHanded_of_change (C := Try.checked) Try.own started (by kernel_rfl) Try.func5
    (ChangeSpec.witness6 (enc := enc) (C := Try.checked) false ⟨#[], #[.string ⟨#[]⟩, .slice none 0 0], []⟩ 8 (by kernel_rfl) (by kernel_rfl) (by kernel_rfl) (by kernel_rfl)) ?_
  intro W base args ds gs before hval0 hW _ _
  have hval : ∀ (j : Nat) t v, Try.f5.params[j]? = some t → args[j]? = some v → Value.okWide Try.prog W .any base t v := hval0
  have hW' := hW
  obtain ⟨p, q, hA0, hV, rfl, hfz, hnd⟩ := hW
  have hA : DataW.TrodAll enc Try.prog W 0 (fun _ => true) true Try.f5.params.toList args.toList ds p := hA0
  rw [Try.params5] at hA hval
  obtain ⟨v0, v1, d0, d1, p0, p1, rfl, rfl, rfl, h0, h1⟩ := trodAll_two hA
  obtain ⟨rfl, rfl⟩ := trodVars_none hV
  obtain ⟨s, rfl, rfl, rfl, ws⟩ := open_string Try.underlying9 (hval 0 9 v0 rfl rfl) h0
  obtain ⟨a0, len0, cap0, rfl⟩ := okWide_slice Try.underlying37 (hval 1 37 v1 rfl rfl)
  have hs : (⟨s.data.toList.toArray⟩ : ByteArray) = s := by cases s; simp
  have hc1 : Try.prog.cellsOf 3 = 1 := by kernel_rfl
  obtain ⟨fuel, hf⟩ := h1
  rcases open_ints Try.underlying37 Try.underlying3 hc1 hf with ⟨hcs, hx⟩ | ⟨a, len, cap, zs, hcs, hb, hle, hmax, hz, hx, hcell, hwf⟩
  · simp [Value.cells] at hcs
    obtain ⟨rfl, rfl, rfl⟩ := hcs
    simp only [Prod.mk.injEq] at hx
    obtain ⟨rfl, rfl⟩ := hx
    clear hA0 hval0
    simp only [List.append_nil] at hW'
    have hwalk := (TokenBlanks_c s.data.toList none 0 0 (fun _ => none) (Nat.zero_le _) (fun i hi => by omega)).law (fun _ _ _ h => h.1) (w := W) (fun b y hb => by cases hb)
    simp only [denL, den, hs] at hwalk
    refine hwalk.mono fun e W' ⟨he, hw⟩ => ?_
    subst he
    exact ⟨_, rfl, post_below (pa := []) (pv := []) hW' (fun _ _ _ => trodAll_mk1 (shut_bool Try.underlying4 _)) (fun sp _ => trodAll_mk2 (shut_string Try.underlying9 ws) (shut_nil_slice Try.underlying37)) (fun _ _ => rfl) rfl
      hw (ok_one (by kernel_rfl) rfl (okWide_bool_mk Try.underlying4 _))⟩
  · simp [Value.cells] at hcs
    obtain ⟨rfl, rfl, rfl⟩ := hcs
    simp only [Prod.mk.injEq] at hx
    obtain ⟨rfl, rfl⟩ := hx
    clear hA0 hval0
    simp only [List.append_nil, List.nil_append] at hW'
    simp only [if_true] at hz
    have hk : ∀ i, i < len0 → ∃ b k, some a = some b ∧ -9223372036854775808 ≤ k ∧ k ≤ 9223372036854775807 ∧ HRd1 (fun b => W.heap[b]?) (b.add i) (.int .i64 k) := by
      intro i hi
      have hc := hcell i (by omega)
      have hm : zs.getD i 0 ∈ zs := by
        have hg : zs.getD i 0 = zs[i]'(by omega) := by simp [List.getD, show i < zs.length by omega]
        rw [hg]; exact List.getElem_mem _
      have hw := in64_of_wf (hwf _ hm)
      exact ⟨a, _, rfl, hw.1, hw.2, cell_rd hc⟩
    have hwalk := (TokenBlanks_c s.data.toList (some a) len0 cap0 (fun b => W.heap[b]?) (by omega) hk).law (fun _ _ _ h => h.1) (w := W) (fun b y hb => hb)
    simp only [denL, den, hs] at hwalk
    refine hwalk.mono fun e W' ⟨he, hw⟩ => ?_
    subst he
    exact ⟨_, rfl, post_below (pa := MemPlace.row a zs.length) (pv := []) hW' (fun _ _ _ => trodAll_mk1 (shut_bool Try.underlying4 _))
      (fun sp hsp => trodAll_mk2 (shut_string Try.underlying9 ws) ⟨2, shut_ints 0 Try.underlying37 Try.underlying3 hc1 hb hle hmax (by
        by_cases h0 : zs.length = 0
        · split <;> omega
        · have := hsp (.cell a.block (a.off + 0)) (MemPlace.mem_row.2 ⟨0, by omega, rfl⟩)
          have h2 : sp a.block = true := this
          rw [if_pos h2]; exact hz) (fun i hi => by rw [hw.cell (cell_lt (hcell i hi))]; exact hcell i hi) hwf⟩) (fun _ _ => rfl) (by simp)
      hw (ok_one (by kernel_rfl) rfl (okWide_bool_mk Try.underlying4 _))⟩

theorem tokenBlanks_holds : Rows.TokenBlanksSaid :=
  OpenClaim.holds_of_wide 5 Try.f5 rfl rfl rfl rfl rfl rfl rfl ⟨rfl, rfl, rfl, rfl, rfl⟩ rfl rfl rfl rfl rfl (by kernel_rfl) Try.func5 (by kernel_rfl)
    (of_decide_eq_true (by kernel_rfl)) (by unfold Func.isWrapper; first | (rw [if_pos (by decide +kernel)]; kernel_rfl) | (rw [if_neg (by decide +kernel)]; exact ⟨rfl, rfl⟩))
    (fun os started H enc _ => tokenBlanks_lifted os started H enc)
end Go.Proofs.Ytdpoebadaomfgaa
