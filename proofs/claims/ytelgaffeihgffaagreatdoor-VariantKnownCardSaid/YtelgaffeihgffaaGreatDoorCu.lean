/-
  A concrete evaluator for Go's IR. Part u: a whole call without arguments.
-/
import Derived.Test.YtelgaffeihgffaaGreatDoorCt
import Derived.Test.YtelgaffeihgffaaGreatDoorCw
import Derived.Lib.LaidU8
import Derived.Lib.LaidTab
import Derived.Below
import Derived.LaidLaws
set_option linter.unusedSimpArgs false
set_option linter.unusedVariables false
namespace Go.Cx
open Go Go.RowKit
variable {P : Program}

def base0 (W : World) : Bas := ⟨W, fun k => k < W.heap.size, fun k => k < W.heap.size, fun _ => False, fun _ h => h, fun _ h => h⟩
/-- Tags below 64 are package variables; those from 64 on name blocks that package variables lead to. -/
def env0 (bs : List Blk) : Env := fun t => if t < 64 then some ⟨t, 0, 0, 0⟩ else bs[t - 64]?
theorem env0_lt {bs : List Blk} {t : Nat} (h : t < 64) : env0 bs t = some ⟨t, 0, 0, 0⟩ := if_pos h
/-- The rows that package variables hold. -/
def RowsOk (W : World) (bs : List Blk) (l : List (Nat × List CV)) : Prop := ∀ g cs, (g, cs) ∈ l → g < 64 ∧ cs.all one = true ∧ ∃ vs ty fr, denL (env0 bs) cs = some vs ∧ W.heap[g]? = some (.cells vs.toArray ty fr)
/-- Rows, of package variables or of what came in. -/
def RowsG (W : World) (bs : List Blk) (l : List (Nat × List CV)) : Prop := ∀ g cs, (g, cs) ∈ l → cs.all one = true ∧ ∃ b vs pre suf ty fr, env0 bs g = some b ∧ pre.length = b.off ∧ denL (env0 bs) cs = some vs ∧ W.heap[b.blk]? = some (.cells (pre ++ vs ++ suf).toArray ty fr) ∧ (g < 64 → suf = [])
theorem RowsOk.G {W : World} {bs : List Blk} {l : List (Nat × List CV)} (h : RowsOk W bs l) : RowsG W bs l := fun g cs hm => by
  obtain ⟨h1, h2, vs, ty, fr, h3, h4⟩ := h g cs hm
  exact ⟨h2, _, vs, [], [], ty, fr, env0_lt h1, rfl, h3, by simpa using h4, fun _ => rfl⟩
noncomputable def mem0 (k : Nat) : List (Nat × List CV) → Mem
  | [] => ⟨k, .nil⟩
  | (g, cs) :: r => (mem0 k r).put g (.ro cs)
theorem mem0_nxt {k : Nat} : ∀ l, (mem0 k l).nxt = k
  | [] => rfl
  | (g, cs) :: r => mem0_nxt r
theorem mem0_get {k : Nat} : ∀ {l : List (Nat × List CV)} {t : Nat} {o : CO}, (mem0 k l).get t = some o → ∃ cs, (t, cs) ∈ l ∧ o = .ro cs
  | [], t, o, h => by simp [mem0, Mem.get, Tr.get_nil] at h
  | (g, cs) :: r, t, o, h => by
    unfold mem0 at h
    rw [Mem.get_put] at h
    by_cases hq : t = g
    · rw [if_pos hq] at h; cases h
      exact ⟨cs, by rw [hq]; exact List.mem_cons_self .., rfl⟩
    · rw [if_neg hq] at h
      obtain ⟨cs', h1, h2⟩ := mem0_get h
      exact ⟨cs', List.mem_cons_of_mem _ h1, h2⟩

theorem relG {W : World} {bs : List Blk} {l : List (Nat × List CV)} (h : RowsG W bs l) : Rel (base0 W) (env0 bs) (mem0 (64 + bs.length) l) W := by
  refine ⟨fun t o ho => ?_, fun t t' o o' b b' h1 h2 hr1 hr2 hb hb' hq => ?_, fun t o b h1 hro hb => ?_, fun t o b h1 hro hb => ?_, fun g hg => env0_lt hg, fun t ht => ?_, Keep.refl _ _, fun t ht => ht.elim, fun t ht => ht.elim⟩
  · obtain ⟨cs, h1, rfl⟩ := mem0_get ho
    obtain ⟨h3, b, vs, pre, suf, ty, fr, h2, h4, h5, h6, h7⟩ := h t cs h1
    exact ⟨b, vs, pre, suf, ty, fr, h2, h4, h5, h3, h6, h7⟩
  · obtain ⟨cs, h2, rfl⟩ := mem0_get h1
    cases hr1
  · obtain ⟨cs, h2, rfl⟩ := mem0_get h1
    cases hro
  · obtain ⟨cs, h2, rfl⟩ := mem0_get h1
    obtain ⟨h3, b', vs, pre, suf, ty, fr, h4, h5, h6, h7, _⟩ := h t cs h2
    rw [h4] at hb; cases hb
    exact heap_lt h7
  · rw [mem0_nxt] at ht
    unfold env0
    rw [if_neg (by omega)]
    exact List.getElem?_eq_none (by omega)
theorem rel0 {W : World} {bs : List Blk} {l : List (Nat × List CV)} (h : RowsOk W bs l) : Rel (base0 W) (env0 bs) (mem0 (64 + bs.length) l) W := relG h.G

noncomputable def isTrue : Res → Bool
  | .ret (.bool true) _ => true
  | _ => false
theorem isTrue_spec {r : Res} (h : isTrue r = true) : ∃ m, r = .ret (.bool true) m := by
  unfold isTrue at h
  split at h
  · exact ⟨_, rfl⟩
  · cases h

/-- A call without arguments that the run shows to return true. -/
theorem closed_calls {X : Ext} (hX : ExtOk P X) (hm : P.follows .mixedOrders = true) {n : Nat} {f : FuncId} {l : List (Nat × List CV)} {bs : List Blk} {k : Nat} (hk : k = 64 + bs.length) (hrun : isTrue (runF P X n (.call f [] (mem0 k l))) = true) {W : World} (h : RowsOk W bs l) :
    Calls P f #[] W fun en w' => en = .returned (.bool true) ∧ Below W.heap.size W w' := by
  subst hk
  rw [runF_eq] at hrun
  obtain ⟨m, hr⟩ := isTrue_spec hrun
  refine (run_calls hX hm hr (fun _ _ h => by cases h) (show denL (env0 bs) [] = some [] from rfl) (rel0 h)).mono ?_
  rintro en w' ⟨e', V, _, hV, rfl, hrel⟩
  refine ⟨by rw [den_bool hV], hrel.frm.os, hrel.frm.tape, hrel.frm.output, hrel.frm.size, hrel.frm.block⟩

theorem noExt : ExtOk P (fun _ => none) := fun f g h => by cases h

/-! ### package variables -/
section
variable {W : World} {n : String} {g : Nat} {t e : TypeId} {k : Nat} {bs : List Blk}

theorem heap_of_var {cs : Array Value} (hg : P.globalNamed n = some g) (hv : W.var? P n = some cs) : ∃ ty fr, W.heap[g]? = some (.cells cs ty fr) := by
  unfold World.var? at hv
  rw [hg] at hv
  simp only [Option.bind_some] at hv
  split at hv
  · rename_i cs' ty fr h
    cases hv
    exact ⟨ty, fr, h⟩
  · cases hv

theorem cells_of_strings {H : Type} {enc : TypeId × Value → H} {w : World} {base : Nat} {sp : Nat → Bool} {held : Bool} {fuel : Nat} {t e : TypeId} {n : Nat} {cs : List Value} {ss : List (List UInt8)} {p : List MemPlace}
    (ht : P.underlying t = some (.array n e)) (he : P.underlying e = some .string) (hce : P.cellsOf e = 1) (hct : P.cellsOf t = n)
    (h : DataW.trod enc P w base sp held fuel t cs = some (.agg (ss.map fun s => .lit (.string s)), p)) : cs = ss.map fun s => Value.string ⟨s.toArray⟩ := by
  cases fuel with
  | zero => simp [DataW.trod] at h
  | succ fuel =>
    simp only [DataW.trod, ht, hce, hct, Nat.mul_one] at h
    split at h
    · rename_i hl
      obtain ⟨xs, hm, hx⟩ := Option.map_eq_some_iff.1 h
      have hxs : xs.map (·.1) = ss.map fun s => (DataW.lit (.string s) : DataW H) := by
        have := congrArg Prod.fst hx
        simpa using this
      have hxl : xs.length = n := by simpa using Lib.mapM_length hm
      have hsl : ss.length = n := by
        have := congrArg List.length hxs
        simp at this
        omega
      apply List.ext_getElem?
      intro i
      by_cases hi : i < n
      · obtain ⟨b, hb, hf⟩ := Lib.mapM_at hm i i (by simp [hi])
        obtain ⟨s, hc, rfl, _⟩ := DataW.trod_string he hf
        have h1 : cs[i]? = some (.string s) := by
          have := congrArg (·[0]?) hc
          simpa [List.getElem?_take, List.getElem?_drop] using this
        have h2 : (xs.map (·.1))[i]? = some (DataW.lit (.string s.data.toList) : DataW H) := by simp [hb]
        rw [hxs] at h2
        simp only [List.getElem?_map, Option.map_eq_some_iff, DataW.lit.injEq, Lit.string.injEq] at h2
        obtain ⟨z', hz', hz2⟩ := h2
        rw [h1, List.getElem?_map, hz', Option.map_some, hz2]
      · have hl' : cs.length = n := by first | simpa using hl | omega
        rw [List.getElem?_eq_none (by omega), List.getElem?_eq_none (by simp; omega)]
    · cases h

theorem row_strings {ss : List (List UInt8)} (hg : P.globalNamed n = some g) (hty : (P.globals[g]?).map (·.type) = some t) (ht : P.underlying t = some (.array k e)) (he : P.underlying e = some .string) (hce : P.cellsOf e = 1) (hct : P.cellsOf t = k)
    (h : Lib.VarReads P W n (.agg (ss.map fun s => .lit (.string s)))) : ∃ vs ty fr, denL (env0 bs) (ss.map fun s => CV.str (s.map UInt8.toNat)) = some vs ∧ W.heap[g]? = some (.cells vs.toArray ty fr) := by
  obtain ⟨g', t', cs, fuel, p, h1, h2, h3, h4⟩ := h
  obtain rfl := Option.some.inj (hg.symm.trans h1)
  obtain rfl := Option.some.inj (hty.symm.trans h2)
  have hcs := cells_of_strings ht he hce hct h4
  obtain ⟨ty, fr, h5⟩ := heap_of_var hg h3
  refine ⟨ss.map fun s => Value.string ⟨s.toArray⟩, ty, fr, ?_, by rw [h5, ← hcs]⟩
  clear h4 hcs
  induction ss with
  | nil => rfl
  | cons s r ih => exact denL_cons_some (by simp only [den, u8_back]) ih

theorem row_ints {ik : IntKind} {zs : List Int} (hg : P.globalNamed n = some g) (hty : (P.globals[g]?).map (·.type) = some t) (ht : P.underlying t = some (.array k e)) (he : P.underlying e = some (.int ik)) (hce : P.cellsOf e = 1) (hct : P.cellsOf t = k)
    (h : Lib.VarReads P W n (.agg (zs.map fun z => .lit (.int ik z)))) : ∃ vs ty fr, denL (env0 bs) (zs.map fun z => CV.int ik z) = some vs ∧ W.heap[g]? = some (.cells vs.toArray ty fr) := by
  obtain ⟨g', t', cs, fuel, p, h1, h2, h3, h4⟩ := h
  obtain rfl := Option.some.inj (hg.symm.trans h1)
  obtain rfl := Option.some.inj (hty.symm.trans h2)
  have hcs := Lib.cells_of_tab ht he hce hct h4
  obtain ⟨ty, fr, h5⟩ := heap_of_var hg h3
  refine ⟨zs.map fun z => Value.int ik z, ty, fr, ?_, by rw [h5, ← hcs]⟩
  clear h4 hcs
  induction zs with
  | nil => rfl
  | cons s r ih => exact denL_cons_some rfl ih

/-- A listed variable's reading, with what is known of an interface in its one cell. -/
def VarReads2 (P : Program) (w : World) (n : String) (d : DataW Unit) : Prop :=
  ∃ g t cs fuel p, P.globalNamed n = some g ∧ (P.globals[g]?).map (·.type) = some t ∧ w.var? P n = some cs ∧ DataW.trod (fun _ => ()) P w 0 (fun _ => true) false fuel t cs.toList = some (d, p) ∧ ∀ u v, cs.toList = [.iface u v] → Value.okWide P w .any 0 u v
theorem LaidVars_reads2 {w : World} : ∀ {l : List (String × DataW Unit)} {ps : List MemPlace}, DataW.LaidVars P w l ps → (∀ b off, MemPlace.cell b off ∈ ps → ∀ u v, w.cell? ⟨b, off, none⟩ = some (.iface u v) → Value.okWide P w .any 0 u v) → ∀ n d, (n, d) ∈ l → VarReads2 P w n d
  | [], _, _, _, _, _, hm => by cases hm
  | (n', d') :: r, ps, h, hr, n, d, hm => by
    obtain ⟨g, t, cs, fuel, p, q, h1, h2, h3, h4, h5, rfl⟩ := h
    rcases List.mem_cons.1 hm with e | e
    · cases e
      refine ⟨g, t, cs, fuel, p, h1, h2, h3, h4, fun u v hc => hr g 0 ?_ u v ?_⟩
      · have hs : cs.size = 1 := by rw [← Array.length_toList, hc]; rfl
        rw [hs]
        simp [MemPlace.row]
      · have hc0 : cs[0]? = some (.iface u v) := by rw [← Array.getElem?_toList, hc]; rfl
        rw [← hc0]
        exact World.var?_cell h1 h3 0
    · exact LaidVars_reads2 h5 (fun b off hb => hr b off (List.mem_append.2 (.inr hb))) n d e
theorem reads2 {w : World} {l : List (String × DataW Unit)} (h : laidMet P l w) {n : String} {d : DataW Unit} (hm : (n, d) ∈ l) : VarReads2 P w n d :=
  let ⟨_, hv, _, hr⟩ := h
  LaidVars_reads2 hv (fun b off hb => (hr b off hb).2) n d hm

theorem row_sentinel {tp te ts : TypeId} {ms : Array (String × TypeId)} {f : Field} {nm : String} {text : List UInt8} (hg : P.globalNamed n = some g) (hty : (P.globals[g]?).map (·.type) = some t) (hi : P.underlying t = some (.interface ms)) (hrow : ∀ u, P.typeName? 3 u = some nm → u = tp)
    (hp : P.underlying tp = some (.pointer te)) (he : P.underlying te = some (.struct #[f])) (hft : f.type = ts) (hfo : f.offset = 0) (hs : P.underlying ts = some .string) (hc : P.cellsOf te = 1) (hcs : P.cellsOf ts = 1)
    (h : VarReads2 P W n (.iface nm (.ptr (.agg [.lit (.string text)])))) : ∃ b : Blk, ∃ ty fr, W.heap[g]? = some (.cells #[.iface tp (.pointer (some ⟨b.blk, b.off, none⟩))] ty fr) := by
  obtain ⟨g', t', cs, fuel, p, h1, h2, h3, h4, h5⟩ := h
  obtain rfl := Option.some.inj (hg.symm.trans h1)
  obtain rfl := Option.some.inj (hty.symm.trans h2)
  obtain ⟨a, s, hq, hcell, _⟩ := errorString_of_trod hi hrow hp he hft hfo hs hc hcs h4 h5
  obtain ⟨ty, fr, h6⟩ := heap_of_var hg h3
  have hsp := World.cell?_spot hcell
  obtain ⟨ab, ao, asp⟩ := a
  simp only at hsp
  subst hsp
  refine ⟨⟨ab, ao, 0, 0⟩, ty, fr, ?_⟩
  rw [h6]
  have : cs = #[.iface tp (.pointer (some ⟨ab, ao, none⟩))] := by rw [← Array.toList_inj]; exact hq
  rw [this]
end

theorem rowsOk_nil (W : World) (bs : List Blk) : RowsOk W bs [] := fun g cs h => by cases h
theorem rowsOk_cons {W : World} {g : Nat} {cs : List CV} {l : List (Nat × List CV)} {bs : List Blk} (hg : g < 64) (ha : cs.all one = true) (h : ∃ vs ty fr, denL (env0 bs) cs = some vs ∧ W.heap[g]? = some (.cells vs.toArray ty fr)) (hl : RowsOk W bs l) : RowsOk W bs ((g, cs) :: l) := fun g' cs' hm => by
  rcases List.mem_cons.1 hm with hm | hm
  · cases hm; exact ⟨hg, ha, h⟩
  · exact hl g' cs' hm
end Go.Cx
