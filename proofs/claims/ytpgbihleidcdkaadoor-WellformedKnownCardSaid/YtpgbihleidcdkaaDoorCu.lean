/-
  A concrete evaluator for Go's IR. Part u: a whole call without arguments.
-/
import Derived.Test.YtpgbihleidcdkaaDoorCt
import Derived.Test.YtpgbihleidcdkaaDoorCw
import Derived.Lib.LaidU8
import Derived.Lib.LaidTab
import Derived.Below
set_option linter.unusedSimpArgs false
set_option linter.unusedVariables false
namespace Go.Cx
open Go Go.RowKit
variable {P : Program}

def base0 (W : World) : Bas := ⟨W, fun k => k < W.heap.size, fun k => k < W.heap.size, fun _ => False, fun _ h => h, fun _ h => h⟩
def env0 : Env := fun t => if t < 64 then some ⟨t, 0, 0, 0⟩ else none
theorem env0_lt {t : Nat} (h : t < 64) : env0 t = some ⟨t, 0, 0, 0⟩ := if_pos h
/-- The rows that package variables hold. -/
def RowsOk (W : World) (l : List (Nat × List CV)) : Prop := ∀ g cs, (g, cs) ∈ l → g < 64 ∧ cs.all one = true ∧ ∃ vs ty fr, denL env0 cs = some vs ∧ W.heap[g]? = some (.cells vs.toArray ty fr)
noncomputable def mem0 : List (Nat × List CV) → Mem
  | [] => ⟨64, .nil⟩
  | (g, cs) :: r => (mem0 r).put g (.ro cs)
theorem mem0_nxt : ∀ l, (mem0 l).nxt = 64
  | [] => rfl
  | (g, cs) :: r => mem0_nxt r
theorem mem0_get : ∀ {l : List (Nat × List CV)} {t : Nat} {o : CO}, (mem0 l).get t = some o → ∃ cs, (t, cs) ∈ l ∧ o = .ro cs
  | [], t, o, h => by simp [mem0, Mem.get, Tr.get_nil] at h
  | (g, cs) :: r, t, o, h => by
    unfold mem0 at h
    rw [Mem.get_put] at h
    by_cases hq : t = g
    · rw [if_pos hq] at h; cases h
      exact ⟨cs, by rw [hq]; exact List.mem_cons_self .., rfl⟩
    · rw [if_neg hq] at h
      obtain ⟨cs', h1, h2⟩ := mem0_get h
      exact ⟨cs', List.mem_cons_of_mem _ h1, h2⟩

theorem rel0 {W : World} {l : List (Nat × List CV)} (h : RowsOk W l) : Rel (base0 W) env0 (mem0 l) W := by
  refine ⟨fun t o ho => ?_, fun t t' o o' b b' h1 h2 hb hb' hq => ?_, fun t o b h1 hro hb => ?_, fun t o b h1 hro hb => ?_, fun g hg => env0_lt hg, fun t ht => ?_, Keep.refl _ _, fun t ht => ht.elim, fun t ht => ht.elim⟩
  · obtain ⟨cs, h1, rfl⟩ := mem0_get ho
    obtain ⟨h2, h3, vs, ty, fr, h4, h5⟩ := h t cs h1
    exact ⟨_, vs, ty, fr, env0_lt h2, rfl, h4, h3, h5⟩
  · have e1 : ∀ t b, env0 t = some b → b.blk = t := fun t b hb => by
      unfold env0 at hb
      split at hb
      · cases hb; rfl
      · cases hb
    rw [← e1 t b hb, ← e1 t' b' hb', hq]
  · obtain ⟨cs, h2, rfl⟩ := mem0_get h1
    cases hro
  · obtain ⟨cs, h2, rfl⟩ := mem0_get h1
    obtain ⟨h3, h4, vs, ty, fr, h5, h6⟩ := h t cs h2
    rw [env0_lt h3] at hb; cases hb
    exact heap_lt h6
  · rw [mem0_nxt] at ht
    exact if_neg (by omega)

noncomputable def isTrue : Res → Bool
  | .ret (.bool true) _ => true
  | _ => false
theorem isTrue_spec {r : Res} (h : isTrue r = true) : ∃ m, r = .ret (.bool true) m := by
  unfold isTrue at h
  split at h
  · exact ⟨_, rfl⟩
  · cases h

/-- A call without arguments that the run shows to return true. -/
theorem closed_calls {X : Ext} (hX : ExtOk P X) (hm : P.follows .mixedOrders = true) {n : Nat} {f : FuncId} {l : List (Nat × List CV)} (hrun : isTrue (runF P X n (.call f [] (mem0 l))) = true) {W : World} (h : RowsOk W l) :
    Calls P f #[] W fun en w' => en = .returned (.bool true) ∧ Below W.heap.size W w' := by
  rw [runF_eq] at hrun
  obtain ⟨m, hr⟩ := isTrue_spec hrun
  refine (run_calls hX hm hr (show denL env0 [] = some [] from rfl) (rel0 h)).mono ?_
  rintro en w' ⟨e', V, _, hV, rfl, hrel⟩
  refine ⟨by rw [den_bool hV], hrel.frm.os, hrel.frm.tape, hrel.frm.output, hrel.frm.size, hrel.frm.block⟩

theorem noExt : ExtOk P (fun _ => none) := fun f g h => by cases h

/-! ### package variables -/
section
variable {W : World} {n : String} {g : Nat} {t e : TypeId} {k : Nat}

theorem heap_of_var {cs : Array Value} (hg : P.globalNamed n = some g) (hv : W.var? P n = some cs) : ∃ ty fr, W.heap[g]? = some (.cells cs ty fr) := by
  unfold World.var? at hv
  rw [hg] at hv
  simp only [Option.bind_some] at hv
  split at hv
  · rename_i cs' ty fr h
    cases hv
    exact ⟨ty, fr, h⟩
  · cases hv

theorem cells_of_strings {H : Type} {enc : TypeId × Value → H} {w : World} {base : Nat} {sp : Nat → Bool} {held : Bool} {fuel : Nat} {t e : TypeId} {n : Nat} {cs : List Value} {ss : List (List UInt8)} {p : List MemPlace}
    (ht : P.underlying t = some (.array n e)) (he : P.underlying e = some .string) (hce : P.cellsOf e = 1) (hct : P.cellsOf t = n)
    (h : DataW.trod enc P w base sp held fuel t cs = some (.agg (ss.map fun s => .lit (.string s)), p)) : cs = ss.map fun s => Value.string ⟨s.toArray⟩ := by
  cases fuel with
  | zero => simp [DataW.trod] at h
  | succ fuel =>
    simp only [DataW.trod, ht, hce, hct, Nat.mul_one] at h
    split at h
    · rename_i hl
      obtain ⟨xs, hm, hx⟩ := Option.map_eq_some_iff.1 h
      have hxs : xs.map (·.1) = ss.map fun s => (DataW.lit (.string s) : DataW H) := by
        have := congrArg Prod.fst hx
        simpa using this
      have hxl : xs.length = n := by simpa using Lib.mapM_length hm
      have hsl : ss.length = n := by
        have := congrArg List.length hxs
        simp at this
        omega
      apply List.ext_getElem?
      intro i
      by_cases hi : i < n
      · obtain ⟨b, hb, hf⟩ := Lib.mapM_at hm i i (by simp [hi])
        obtain ⟨s, hc, rfl, _⟩ := DataW.trod_string he hf
        have h1 : cs[i]? = some (.string s) := by
          have := congrArg (·[0]?) hc
          simpa [List.getElem?_take, List.getElem?_drop] using this
        have h2 : (xs.map (·.1))[i]? = some (DataW.lit (.string s.data.toList) : DataW H) := by simp [hb]
        rw [hxs] at h2
        simp only [List.getElem?_map, Option.map_eq_some_iff, DataW.lit.injEq, Lit.string.injEq] at h2
        obtain ⟨z', hz', hz2⟩ := h2
        rw [h1, List.getElem?_map, hz', Option.map_some, hz2]
      · have hl' : cs.length = n := by first | simpa using hl | omega
        rw [List.getElem?_eq_none (by omega), List.getElem?_eq_none (by simp; omega)]
    · cases h

theorem row_strings {ss : List (List UInt8)} (hg : P.globalNamed n = some g) (hty : (P.globals[g]?).map (·.type) = some t) (ht : P.underlying t = some (.array k e)) (he : P.underlying e = some .string) (hce : P.cellsOf e = 1) (hct : P.cellsOf t = k)
    (h : Lib.VarReads P W n (.agg (ss.map fun s => .lit (.string s)))) : ∃ vs ty fr, denL env0 (ss.map fun s => CV.str (s.map UInt8.toNat)) = some vs ∧ W.heap[g]? = some (.cells vs.toArray ty fr) := by
  obtain ⟨g', t', cs, fuel, p, h1, h2, h3, h4⟩ := h
  obtain rfl := Option.some.inj (hg.symm.trans h1)
  obtain rfl := Option.some.inj (hty.symm.trans h2)
  have hcs := cells_of_strings ht he hce hct h4
  obtain ⟨ty, fr, h5⟩ := heap_of_var hg h3
  refine ⟨ss.map fun s => Value.string ⟨s.toArray⟩, ty, fr, ?_, by rw [h5, ← hcs]⟩
  clear h4 hcs
  induction ss with
  | nil => rfl
  | cons s r ih => exact denL_cons_some (by simp only [den, u8_back]) ih

theorem row_ints {ik : IntKind} {zs : List Int} (hg : P.globalNamed n = some g) (hty : (P.globals[g]?).map (·.type) = some t) (ht : P.underlying t = some (.array k e)) (he : P.underlying e = some (.int ik)) (hce : P.cellsOf e = 1) (hct : P.cellsOf t = k)
    (h : Lib.VarReads P W n (.agg (zs.map fun z => .lit (.int ik z)))) : ∃ vs ty fr, denL env0 (zs.map fun z => CV.int ik z) = some vs ∧ W.heap[g]? = some (.cells vs.toArray ty fr) := by
  obtain ⟨g', t', cs, fuel, p, h1, h2, h3, h4⟩ := h
  obtain rfl := Option.some.inj (hg.symm.trans h1)
  obtain rfl := Option.some.inj (hty.symm.trans h2)
  have hcs := Lib.cells_of_tab ht he hce hct h4
  obtain ⟨ty, fr, h5⟩ := heap_of_var hg h3
  refine ⟨zs.map fun z => Value.int ik z, ty, fr, ?_, by rw [h5, ← hcs]⟩
  clear h4 hcs
  induction zs with
  | nil => rfl
  | cons s r ih => exact denL_cons_some rfl ih
end

theorem rowsOk_nil (W : World) : RowsOk W [] := fun g cs h => by cases h
theorem rowsOk_cons {W : World} {g : Nat} {cs : List CV} {l : List (Nat × List CV)} (hg : g < 64) (ha : cs.all one = true) (h : ∃ vs ty fr, denL env0 cs = some vs ∧ W.heap[g]? = some (.cells vs.toArray ty fr)) (hl : RowsOk W l) : RowsOk W ((g, cs) :: l) := fun g' cs' hm => by
  rcases List.mem_cons.1 hm with hm | hm
  · cases hm; exact ⟨hg, ha, h⟩
  · exact hl g' cs' hm
end Go.Cx
