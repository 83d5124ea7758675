import Derived.Test.YtlfhikphdkpfgaaGreatDoorGa
import Derived.Test.YtlfhikphdkpfgaaGreatDoorGc
import Derived.Lib.LaidU8
import Derived.Lib.LaidTab
import Derived.Below
import Derived.LaidLaws
set_option linter.unusedSimpArgs false
set_option linter.unusedVariables false
namespace Go.Cx
open Go
end Go.Cx
namespace Go.Cx
open Go Go.RowKit
variable {P : Program}
def zyY (W : World) : Bas := ⟨W, fun k => k < W.heap.size, fun k => k < W.heap.size, fun _ => False, fun _ h => h, fun _ h => h⟩
def zuN (bs : List Blk) : Env := fun t => if t < 64 then some ⟨t, 0, 0, 0⟩ else bs[t - 64]?
theorem zt6 {bs : List Blk} {t : Nat} (h : t < 64) : zuN bs t = some ⟨t, 0, 0, 0⟩ := if_pos h
def zAQ (W : World) (bs : List Blk) (l : List (Nat × List CV)) : Prop := ∀ g cs, (g, cs) ∈ l -> cs.all one = true /\ ∃ b vs pre suf ty fr, zuN bs g = some b /\ pre.length = b.off /\ denL (zuN bs) cs = some vs /\ W.heap[b.blk]? = some (.cells (pre ++ vs ++ suf).toArray ty fr)
noncomputable def zl5 (k : Nat) : List (Nat × List CV) -> Mem
 | [] => ⟨k, .nil⟩
 | (g, cs) :: r => (zl5 k r).put g (.ro cs)
theorem zkE {k : Nat} : ∀ l, (zl5 k l).nxt = k
 | [] => rfl
 | (g, cs) :: r => zkE r
theorem zf6 {k : Nat} : ∀ {l : List (Nat × List CV)} {t : Nat} {o : CO}, (zl5 k l).get t = some o -> ∃ cs, (t, cs) ∈ l /\ o = .ro cs
 | [], t, o, h => by simp [zl5, Mem.get, Tr.get_nil] at h
 | (g, cs) :: r, t, o, h => by
  unfold zl5 at h
  rw [Mem.get_put] at h
  by_cases hq : t = g
  ·rw [if_pos hq] at h; cases h
   exact ⟨cs, by rw [hq]; exact List.mem_cons_self .., rfl⟩
  ·rw [if_neg hq] at h
   obtain ⟨cs', h1, h2⟩ := zf6 h
   exact ⟨cs', List.mem_cons_of_mem _ h1, h2⟩
theorem zBi {W : World} {bs : List Blk} {l : List (Nat × List CV)} (h : zAQ W bs l) : Rel (zyY W) (zuN bs) (zl5 (64 + bs.length) l) W := by
 refine ⟨fun t o ho => ?_, fun t t' o o' b b' h1 h2 hr1 hr2 hb hb' hq => ?_, fun t o b h1 hro hb => ?_, fun t o b h1 hro hb => ?_, fun g hg => zt6 hg, fun t ht => ?_, Keep.refl _ _, fun t ht => ht.elim, fun t ht => ht.elim⟩
 ·obtain ⟨cs, h1, rfl⟩ := zf6 ho
  obtain ⟨h3, b, vs, pre, suf, ty, fr, h2, h4, h5, h6⟩ := h t cs h1
  exact ⟨b, vs, pre, suf, ty, fr, h2, h4, h5, h3, h6⟩
 ·obtain ⟨cs, h2, rfl⟩ := zf6 h1
  cases hr1
 ·obtain ⟨cs, h2, rfl⟩ := zf6 h1
  cases hro
 ·obtain ⟨cs, h2, rfl⟩ := zf6 h1
  obtain ⟨h3, b', vs, pre, suf, ty, fr, h4, h5, h6, h7⟩ := h t cs h2
  rw [h4] at hb; cases hb
  exact zcI h7
 ·rw [zkE] at ht
  unfold zuN
  rw [if_neg (by omega)]
  exact List.getElem?_eq_none (by omega)
theorem zAC : zuS P (fun _ => none) := fun f g h => by cases h
section
variable {W : World} {n : String} {g : Nat} {t e : TypeId} {k : Nat} {bs : List Blk}
theorem zoD {cs : Array Value} (hg : P.globalNamed n = some g) (hv : W.var? P n = some cs) : ∃ ty fr, W.heap[g]? = some (.cells cs ty fr) := by
 unfold World.var? at hv
 rw [hg] at hv
 simp only [Option.bind_some] at hv
 split at hv
 ·rename_i cs' ty fr h
  cases hv
  exact ⟨ty, fr, h⟩
 ·cases hv
theorem zhy {H : Type} {enc : TypeId × Value -> H} {w : World} {base : Nat} {sp : Nat -> Bool} {held : Bool} {fuel : Nat} {t e : TypeId} {n : Nat} {cs : List Value} {ss : List (List UInt8)} {p : List MemPlace}
  (ht : P.underlying t = some (.array n e)) (he : P.underlying e = some .string) (hce : P.cellsOf e = 1) (hct : P.cellsOf t = n)
  (h : DataW.trod enc P w base sp held fuel t cs = some (.agg (ss.map fun s => .lit (.string s)), p)) : cs = ss.map fun s => Value.string ⟨s.toArray⟩ := by
 cases fuel with
 | zero => simp [DataW.trod] at h
 | succ fuel =>
  simp only [DataW.trod, ht, hce, hct, Nat.mul_one] at h
  split at h
  ·rename_i hl
   obtain ⟨xs, hm, hx⟩ := Option.map_eq_some_iff.1 h
   have hxs : xs.map (·.1) = ss.map fun s => (DataW.lit (.string s) : DataW H) := by
    have := congrArg Prod.fst hx
    simpa using this
   have hxl : xs.length = n := by simpa using Lib.mapM_length hm
   have hsl : ss.length = n := by
    have := congrArg List.length hxs
    simp at this
    omega
   apply List.ext_getElem?
   intro i
   by_cases hi : i < n
   ·obtain ⟨b, hb, hf⟩ := Lib.mapM_at hm i i (by simp [hi])
    obtain ⟨s, hc, rfl, _⟩ := DataW.trod_string he hf
    have h1 : cs[i]? = some (.string s) := by
     have := congrArg (·[0]?) hc
     simpa [List.getElem?_take, List.getElem?_drop] using this
    have h2 : (xs.map (·.1))[i]? = some (DataW.lit (.string s.data.toList) : DataW H) := by simp [hb]
    rw [hxs] at h2
    simp only [List.getElem?_map, Option.map_eq_some_iff, DataW.lit.injEq, Lit.string.injEq] at h2
    obtain ⟨z', hz', hz2⟩ := h2
    rw [h1, List.getElem?_map, hz', Option.map_some, hz2]
   ·have hl' : cs.length = n := by first | simpa using hl | omega
    rw [List.getElem?_eq_none (by omega), List.getElem?_eq_none (by simp; omega)]
  ·cases h
theorem zol {ss : List (List UInt8)} (hg : P.globalNamed n = some g) (hty : (P.globals[g]?).map (·.type) = some t) (ht : P.underlying t = some (.array k e)) (he : P.underlying e = some .string) (hce : P.cellsOf e = 1) (hct : P.cellsOf t = k)
  (h : Lib.VarReads P W n (.agg (ss.map fun s => .lit (.string s)))) : ∃ vs ty fr, denL (zuN bs) (ss.map fun s => CV.str (s.map UInt8.toNat)) = some vs /\ W.heap[g]? = some (.cells vs.toArray ty fr) := by
 obtain ⟨g', t', cs, fuel, p, h1, h2, h3, h4⟩ := h
 obtain rfl := Option.some.inj (hg.symm.trans h1)
 obtain rfl := Option.some.inj (hty.symm.trans h2)
 have hcs := zhy ht he hce hct h4
 obtain ⟨ty, fr, h5⟩ := zoD hg h3
 refine ⟨ss.map fun s => Value.string ⟨s.toArray⟩, ty, fr, ?_, by rw [h5, <- hcs]⟩
 clear h4 hcs
 induction ss with
 | nil => rfl
 | cons s r ih => exact zax (by simp only [den, ztV]) ih
end
end Go.Cx
