import Derived.Test.YtkjdghlefdmjaaaGg
import Derived.Test.YtkjdghlefdmjaaaGi
import Derived.ReadAgain
import Derived.ChangeOld
import Derived.ProofKit
import Derived.RowKit
import Derived.WideShapes
import Derived.DataReads
import Derived.Below
import Derived.Handed
set_option linter.unusedSimpArgs false
set_option linter.unusedVariables false
namespace Go.Cx
open Go Go.RowKit
section
variable {H : Type} {enc : TypeId × Value → H} {P : Program} {W : World}
abbrev FWs := List (Blk × List CV)
def envW (L : FWs) : Env := env0 (L.map (·.1))
def roW (L : FWs) : RO := fun t => if t < 64 then none else (L[t - 64]?).map fun p => .ro p.2
def rowsF (k : Nat) : FWs → List (Nat × List CV)
 | [] => []
 | p :: r => (k, p.2) :: rowsF (k + 1) r
def FwOk (W : World) (L : FWs) : Prop := ∀ (i : Nat) p, L[i]? = some p → p.2.all one = true ∧ ∃ vs pre suf ty fr, pre.length = p.1.off ∧ denL (envW L) p.2 = some vs ∧ W.heap[p.1.blk]? = some (.cells (pre ++ vs ++ suf).toArray ty fr)
theorem envW_le (L L' : FWs) : Env.le (envW L) (envW (L ++ L')) := fun t b h => by
 unfold envW env0 at h ⊢
 split at h
 ·rename_i hq; rw [if_pos hq]; exact h
 ·rename_i hq
  rw [if_neg hq, List.map_append, List.getElem?_append_left (List.getElem?_eq_some_iff.1 h).1]; exact h
theorem FwOk.snoc {L : FWs} (h : FwOk W L) {b : Blk} {cs : List CV} (ha : cs.all one = true) {vs pre suf : List Value} {ty : TypeId} {fr : Nat × Nat} (hp : pre.length = b.off) (hd : denL (envW L) cs = some vs) (hh : W.heap[b.blk]? = some (.cells (pre ++ vs ++ suf).toArray ty fr)) : FwOk W (L ++ [(b, cs)]) := by
 intro i p hi
 rcases Nat.lt_trichotomy i L.length with hq | hq | hq
 ·rw [List.getElem?_append_left hq] at hi
  obtain ⟨h1, vs', pre', suf', ty', fr', h2, h3, h4⟩ := h i p hi
  exact ⟨h1, vs', pre', suf', ty', fr', h2, denL_mono (envW_le L _) _ _ h3, h4⟩
 ·subst hq
  simp at hi; subst hi
  exact ⟨ha, vs, pre, suf, ty, fr, hp, denL_mono (envW_le L _) _ _ hd, hh⟩
 ·rw [List.getElem?_eq_none (by simp; omega)] at hi; cases hi
end
end Go.Cx
namespace Go.Cx
open Go Go.RowKit
section
variable {H : Type} {enc : TypeId × Value → H} {P : Program} {W : World}
end
end Go.Cx
namespace Go.Cx
open Go Go.RowKit Go.WideShapes Go.ChangeShapes
theorem rowsF_mem {g : Nat} {cs : List CV} : ∀ {L : FWs} {k : Nat}, (g, cs) ∈ rowsF k L → ∃ i b, g = k + i ∧ L[i]? = some (b, cs)
 | [], k, h => by cases h
 | p :: r, k, h => by
  rcases List.mem_cons.1 h with h | h
  ·cases h; exact ⟨0, p.1, rfl, rfl⟩
  ·obtain ⟨i, b, h1, h2⟩ := rowsF_mem (L := r) h
   exact ⟨i + 1, b, by omega, h2⟩
theorem mem0_rowsF {K : Nat} : ∀ {L : FWs} {k t : Nat}, (mem0 K (rowsF k L)).get t = if t < k then none else (L[t - k]?).map fun p => .ro p.2
 | [], k, t => by
  show (⟨K, .nil⟩ : Mem).get t = _
  split <;> simp [Mem.get, Tr.get_nil]
 | p :: r, k, t => by
  show ((mem0 K (rowsF (k + 1) r)).put k (.ro p.2)).get t = _
  rw [Mem.get_put, mem0_rowsF (L := r)]
  by_cases h1 : t = k
  ·subst h1; simp
  ·rw [if_neg h1]
   by_cases h2 : t < k
   ·rw [if_pos h2, if_pos (by omega)]
   ·rw [if_neg h2, if_neg (by omega), show t - k = (t - (k + 1)) + 1 by omega, List.getElem?_cons_succ]
theorem mem0_app {K : Nat} {M : List (Nat × List CV)} : ∀ {l : List (Nat × List CV)} {t : Nat}, (mem0 K (l ++ M)).get t = match l.find? fun p => p.1 == t with
  | some p => some (.ro p.2)
  | none => (mem0 K M).get t
 | [], t => rfl
 | (g, cs) :: r, t => by
  show ((mem0 K (r ++ M)).put g (.ro cs)).get t = _
  rw [Mem.get_put, mem0_app (l := r)]
  by_cases h : t = g
  ·subst h; simp
  ·rw [if_neg h, List.find?_cons]
   have : (g == t) = false := by simpa using fun hh : g = t => h hh.symm
   simp only [this]
section
variable {H : Type} {enc : TypeId × Value → H} {P : Program} {W : World}
def RowsV (W : World) (l : List (Nat × List CV)) : Prop := (l.map (·.1)).Nodup ∧ ∀ g cs, (g, cs) ∈ l → g < 64 ∧ cs.all one = true ∧ ∃ vs ty fr, (∀ e, denL e cs = some vs) ∧ W.heap[g]? = some (.cells vs.toArray ty fr)
theorem rowsV_nil : RowsV W [] := ⟨List.nodup_nil, fun g cs h => by cases h⟩
def RowsL (W : World) (L : FWs) (l : List (Nat × List CV)) : Prop := (l.map (·.1)).Nodup ∧ ∀ g cs, (g, cs) ∈ l → g < 64 ∧ cs.all one = true ∧ ∃ vs ty fr, denL (envW L) cs = some vs ∧ W.heap[g]? = some (.cells vs.toArray ty fr)
theorem RowsV.to {l : List (Nat × List CV)} (h : RowsV W l) (L : FWs) : RowsL W L l :=
 ⟨h.1, fun g cs hg => by obtain ⟨h1, h2, vs, ty, fr, h3, h4⟩ := h.2 g cs hg; exact ⟨h1, h2, vs, ty, fr, h3 _, h4⟩⟩
theorem d_callsL {X : Ext} (hX : ExtOk P X) (hm : P.follows .mixedOrders = true) {l : List (Nat × List CV)} {f : FuncId} {args : List SV} {xs : List CV} {vs : List Value} {L : FWs} (hl : RowsL W L l) (hL : FwOk W L) (ha : RepL (roW L) noE args xs) (hd : denL (envW L) xs = some vs)
  (h : DSpec P X l f args [] fun v _ => v = .cv (.bool true)) : Calls P f vs.toArray W fun en w' => en = .returned (.bool true) ∧ Below W.heap.size W w' := by
 let m : Mem := mem0 (64 + (L.map (·.1)).length) (l ++ rowsF 64 L)
 have hget : ∀ t, m.get t = match l.find? fun p => p.1 == t with
   | some p => some (.ro p.2)
   | none => if t < 64 then none else (L[t - 64]?).map fun p => .ro p.2 := fun t => by
  show (mem0 _ (l ++ rowsF 64 L)).get t = _
  rw [mem0_app]
  cases l.find? fun p => p.1 == t with
  | some p => rfl
  | none => exact mem0_rowsF
 have hmem : ∀ g cs, (g, cs) ∈ l → m.get g = some (.ro cs) := fun g cs hm => by
  have : l.find? (fun p => p.1 == g) = some (g, cs) := by
   have hn := hl.1
   clear hget hL ha hd h hl
   induction l with
   | nil => cases hm
   | cons p r ih =>
    simp only [List.map_cons, List.nodup_cons] at hn
    rcases List.mem_cons.1 hm with h1 | h1
    ·subst h1; simp
    ·have hne : (p.1 == g) = false := by
      simp only [beq_eq_false_iff_ne, ne_eq]
      intro hh
      exact hn.1 (List.mem_map.2 ⟨_, h1, hh.symm⟩)
     rw [List.find?_cons, hne]
     exact ih h1 hn.2
  rw [hget, this]
 have hfind : ∀ t, 64 ≤ t → l.find? (fun p => p.1 == t) = none := fun t ht => by
  rw [List.find?_eq_none]
  intro p hp hq
  have := (hl.2 p.1 p.2 hp).1
  have : p.1 = t := by simpa using hq
  omega
 have hnx : m.nxt = 64 + L.length := by show (mem0 _ _).nxt = _; rw [mem0_nxt, List.length_map]
 have hwf : Wf m := fun t ht => by
  rw [hnx] at ht
  rw [hget, hfind t (by omega)]
  simp only
  rw [if_neg (by omega), List.getElem?_eq_none (by omega)]; rfl
 let R : RO := fun t => m.get t
 have hmk : Mk R m := ⟨hwf, fun t o ho => ho⟩
 have hle : (roW L).le R := fun t o ho => by
  unfold roW at ho
  split at ho
  ·cases ho
  ·rename_i hq
   show m.get t = some o
   rw [hget, hfind t (by omega)]
   simp only
   rw [if_neg hq]; exact ho
 have hgl : GlbOk l R := fun g cs hm => ⟨.ro cs, hmem g cs hm, rfl, (hl.2 g cs hm).2.1⟩
 have hrel : Rel (base0 W) (envW L) m W := by
  refine relG fun g cs hm => ?_
  rcases List.mem_append.1 hm with hm | hm
  ·obtain ⟨h1, h2, vs, ty, fr, h3, h4⟩ := hl.2 g cs hm
   exact ⟨h2, ⟨g, 0, 0, 0⟩, vs, [], [], ty, fr, env0_lt h1, rfl, h3, by simpa using h4⟩
  ·obtain ⟨i, b, h1, h2⟩ := rowsF_mem hm
   obtain ⟨h3, vs, pre, suf, ty, fr, h4, h5, h6⟩ := hL i _ h2
   refine ⟨h3, b, vs, pre, suf, ty, fr, ?_, h4, h5, h6⟩
   unfold env0
   rw [if_neg (by omega), show g - 64 = i by omega, List.getElem?_map, h2]; rfl
 obtain ⟨y, m', R', e', v, O', hev, _, _, hrep, _, hpost⟩ := h.run ⟨m, [], R⟩ R noE m xs hgl (MSat.empty hmk) (ha.mono hle (DEnv.le.refl _))
 subst hpost
 cases hrep
 obtain ⟨n, hn⟩ := hev
 refine (run_calls hX hm (hn n (Nat.le_refl _)) (fun _ _ h => by cases h) hd hrel).mono ?_
 rintro en w' ⟨e', V, _, hV, rfl, hrel⟩
 refine ⟨by rw [den_bool hV], hrel.frm.os, hrel.frm.tape, hrel.frm.output, hrel.frm.size, hrel.frm.block⟩
theorem d_calls {X : Ext} (hX : ExtOk P X) (hm : P.follows .mixedOrders = true) {l : List (Nat × List CV)} (hl : RowsV W l) {f : FuncId} {args : List SV} {xs : List CV} {vs : List Value} {L : FWs} (hL : FwOk W L) (ha : RepL (roW L) noE args xs) (hd : denL (envW L) xs = some vs)
  (h : DSpec P X l f args [] fun v _ => v = .cv (.bool true)) : Calls P f vs.toArray W fun en w' => en = .returned (.bool true) ∧ Below W.heap.size W w' :=
 d_callsL hX hm (hl.to L) hL ha hd h
theorem sameAt_below {W' : World} (hb : Below W.heap.size W W') {p : MemPlace} (hp : p.block < W.heap.size) : W.sameAt W' p := by
 cases p with
 | cell b off =>
  have h1 : b < W.heap.size := hp
  show W'.cell? ⟨b, off, none⟩ = W.cell? ⟨b, off, none⟩
  unfold World.cell?
  rw [hb.block b h1]
 | map b => exact hb.block b hp
theorem trodAll_below {W' : World} (hb : Below W.heap.size W W') {base : Nat} {sp : Nat → Bool} {hd : Bool} : ∀ {ts : List TypeId} {vs : List Value} {ds : List (DataW H)} {ps : List MemPlace}, DataW.TrodAll enc P W base sp hd ts vs ds ps → (∀ p ∈ ps, p.block < W.heap.size) → DataW.TrodAll enc P W' base sp hd ts vs ds ps
 | [], [], [], _, h, _ => h
 | _ :: _, _ :: _, _ :: _, _, ⟨p, q, ⟨n, h1⟩, h2, e⟩, hp => by
  subst e
  exact ⟨p, q, ⟨n, DataW.trod_carry n _ _ _ h1 fun x hx => sameAt_below hb (hp x (List.mem_append_left _ hx))⟩, trodAll_below hb h2 fun x hx => hp x (List.mem_append_right _ hx), rfl⟩
 | [], [], _ :: _, _, h, _ => h.elim
 | [], _ :: _, _, _, h, _ => h.elim
 | _ :: _, [], _, _, h, _ => h.elim
 | _ :: _, _ :: _, [], _, h, _ => h.elim
theorem post_belowD {f : Func} {s : ChangeSpec} {apart fresh handsOn again : Bool} {W' : World} {args : Array Value} {v : Value} {ds gs : List (DataW H)} {before pa pv : List MemPlace}
  (hW : DataW.Whole enc P f.params.toList s.vars apart W args.toList ds gs before)
  (hres : ∀ (b : Nat) (sp : Nat → Bool) (hd : Bool), DataW.TrodAll enc P W' b sp hd f.resultTypes.toList (v.resultList f.resultTypes.size) (s.fn H (ds ++ gs)).results [])
  (hargs : ∀ sp : Nat → Bool, (∀ p ∈ before, sp p.block = true) → DataW.TrodAll enc P W' 0 sp true f.params.toList args.toList (s.fn H (ds ++ gs)).args pa)
  (hvars : ∀ sp : Nat → Bool, (∀ p ∈ before, sp p.block = true) → DataW.TrodVars enc P W' sp s.vars (s.fn H (ds ++ gs)).vars pv)
  (hps : before = pa ++ pv) (hb : Below W.heap.size W W')
  (hok : ∀ (j : Nat) (t : TypeId) (r : Value), f.resultTypes[j]? = some t → (v.resultList f.resultTypes.size)[j]? = some r → Value.okWide P W' .any 0 t r) :
  s.post enc P f apart fresh handsOn again W args v W' := by
 have lt : ∀ p ∈ before, p.block < W.heap.size := fun p hp => hW.lt p hp
 have old : ∀ p ∈ before, (fun b => decide (b < W.heap.size)) p.block = true := fun p hp => by simpa using lt p hp
 have hkept := hb.frame (· ∈ before)
 refine ⟨ds, gs, before, [], pa, pv, hW, hres _ _ _, hargs _ old, hvars _ old, World.keptBut_mono (fun p hp => ?_) hkept, fun _ => ?_⟩
 ·refine ⟨hp, ?_⟩
  rw [hps] at hp
  exact .inr (List.mem_append.1 hp)
 ·obtain ⟨_, _, _, _, _, hz, hn⟩ := hW
  refine ⟨hok, _, _, ([] ++ pa) ++ pv, ⟨[] ++ pa, pv, trodAll_append (hargs _ (fun _ _ => rfl)) (hres _ _ _), hvars _ (fun _ _ => rfl), rfl, fun b off hp => ?_, fun ha => ?_⟩, fun p hp _ => ?_⟩
  ·have hm : MemPlace.cell b off ∈ before := by rw [hps]; simpa using hp
   rw [hb.frozen (p := ⟨b, off, none⟩) (lt _ hm)]
   exact hz b off hm
  ·have := hn ha
   rw [hps] at this
   simpa using this
  ·rw [hps]
   simpa using hp
theorem post_law {f : Func} {s : ChangeSpec} {apart fresh handsOn again : Bool} {W' : World} {args : Array Value} {ds : List (DataW H)} {before : List MemPlace} {v : Value}
  (hW : DataW.Whole enc P f.params.toList s.vars apart W args.toList ds [] before) (hvars : s.vars = []) (hv : v = .bool true)
  (hlaid : laidOutB P = true) (hrows : mapsRowed P = true) (hfull : ((List.range P.types.size).all fun t => match P.underlying t with | some (.slice e) => decide (0 < P.cellsOf e) | _ => true) = true) (hps : ∀ t ∈ f.params.toList, t < P.types.size)
  (hs : (s.fn H ds).results = [.lit (.bool true)] ∧ (s.fn H ds).args = ds ∧ (s.fn H ds).vars = [])
  {tb : TypeId} (hr : f.resultTypes = #[tb]) (ht : P.underlying tb = some .bool) (hb : Below W.heap.size W W') :
  s.post enc P f apart fresh handsOn again W args v W' := by
 subst hv
 have hW' := hW
 obtain ⟨p, q, hA, hV, rfl, _, _⟩ := hW'
 rw [hvars] at hV
 have hq : q = [] := hV
 subst hq
 rw [List.append_nil] at hW
 have hlt : ∀ x ∈ p, x.block < W.heap.size := fun x hx => hW.lt x hx
 refine post_belowD (pa := p) (pv := []) hW (fun b sp hd => ?_) (fun sp hsp => ?_) (fun sp _ => ?_) (by rw [List.append_nil]) hb (fun j t r h1 h2 => ?_)
 ·rw [List.append_nil, hs.1, hr]
  exact trodAll_mk1 (shut_bool ht _)
 ·rw [List.append_nil, hs.2.1]
  exact trodAll_below hb (DataW.TrodAll.respare (kids_rows hlaid hrows) (fun t e hT hu => slices_full_of P hfull t e hT hu) hps hA fun x hx => hsp x hx) hlt
 ·rw [List.append_nil, hs.2.2, hvars]; rfl
 ·rw [hr] at h1 h2
  have hj : j = 0 := by
   cases j with
   | zero => rfl
   | succ j => simp at h1
  subst hj
  simp at h1; subst h1
  have : r = .bool true := by simpa [Value.resultList] using h2.symm
  subst this
  exact okWide_bool_mk ht _
end
end Go.Cx
namespace Go.Cx
open Go
mutual

inductive Same : SV → SV → Prop
 | refl (v : SV) : Same v v
 | nils {sz : Nat} {el : Nat → List SV} : Same (.cv .nils) (.isl sz 0 el)
 | isl {sz n : Nat} {el el' : Nat → List SV} : (∀ i, i < n → el i = el' i) → Same (.isl sz n el) (.isl sz n el')
 | islD {sz n : Nat} {el el' : Nat → List SV} : (∀ i, i < n → SameL (el i) (el' i)) → Same (.isl sz n el) (.isl sz n el')
 | tup {a b : List SV} : SameL a b → Same (.tup a) (.tup b)
 | agg {a b : List SV} : SameL a b → Same (.agg a) (.agg b)
inductive SameL : List SV → List SV → Prop
 | nil : SameL [] []
 | cons {x y : SV} {a b : List SV} : Same x y → SameL a b → SameL (x :: a) (y :: b)
end
mutual
theorem Rep.same {R : RO} {e : DEnv} : ∀ {v v' : SV} {x : CV}, Same v v' → Rep R e v x → Rep R e v' x
 | _, _, _, .refl _, h => h
 | _, _, _, .nils, h => by cases h with | cv h => exact .islN
 | _, _, _, .isl hq, h => by
  cases h with
  | islN => exact .islN
  | islV => exact .islV
  | islS h1 h2 h3 h4 h0 h5 => exact .islS h1 h2 h3 h4 h0 fun i hi => by rw [← hq i hi]; exact h5 i hi
  | islO h1 h2 h0 h3 => exact .islO h1 h2 h0 fun i hi => by rw [← hq i hi]; exact h3 i hi
 | _, _, _, .islD hq, h => by
  cases h with
  | islN => exact .islN
  | islV => exact .islV
  | islS h1 h2 h3 h4 h0 h5 => exact .islS h1 h2 h3 h4 h0 fun i hi => RepL.same (hq i hi) (h5 i hi)
  | islO h1 h2 h0 h3 => exact .islO h1 h2 h0 fun i hi => RepL.same (hq i hi) (h3 i hi)
 | _, _, _, .tup hs, h => by cases h with | tup h => exact .tup (RepL.same hs h)
 | _, _, _, .agg hs, h => by cases h with | agg h => exact .agg (RepL.same hs h)
theorem RepL.same {R : RO} {e : DEnv} : ∀ {vs vs' : List SV} {xs : List CV}, SameL vs vs' → RepL R e vs xs → RepL R e vs' xs
 | _, _, _, .nil, h => by cases h; exact .nil
 | _, _, _, .cons h1 h2, h => by cases h with | cons h3 h4 => exact .cons (Rep.same h1 h3) (RepL.same h2 h4)
end
theorem DSpecT.same {P : Program} {X : Ext} {gl : List (Nat × List CV)} {tk : List CV → Mem → Task} {args : List SV} {objs : List SObj} {post post' : SV → List SObj → Prop} (h : DSpecT P X gl tk args objs post) (k : ∀ v O, post v O → ∃ v', Same v v' ∧ post' v' O) : DSpecT P X gl tk args objs post' :=
 ⟨fun G R e m xs h1 h2 h3 => by
  obtain ⟨y, m', R', e', v, O', q1, q2, q3, q4, q5, q6⟩ := h.run G R e m xs h1 h2 h3
  obtain ⟨v', k1, k2⟩ := k v O' q6
  exact ⟨y, m', R', e', v', O', q1, q2, q3, Rep.same k1 q4, q5, k2⟩⟩
theorem DSpec.same {P : Program} {X : Ext} {gl : List (Nat × List CV)} {f : FuncId} {args : List SV} {objs : List SObj} {post post' : SV → List SObj → Prop} (h : DSpec P X gl f args objs post) (k : ∀ v O, post v O → ∃ v', Same v v' ∧ post' v' O) : DSpec P X gl f args objs post' := DSpecT.same h k
theorem YLaw.same {P : Program} {X : Ext} {l : Nat} {ys ys' : Nat → Option (List SV)} {b : Old} {I : Inv} (h : YLaw P X l ys' b I) (k : ∀ n vs, ys n = some vs → ∃ vs', ys' n = some vs' ∧ SameL vs vs') : YLaw P X l ys b I :=
 ⟨h.far, fun hi hw hm hy hr => by
  obtain ⟨vs', h1, h2⟩ := k _ _ hy
  exact h.yl hi hw hm h1 (RepL.same h2 hr)⟩
end Go.Cx
namespace Go.Cx
open Go
section
variable {H : Type} {P : Program} {n : Nat} {t : TypeId} {d : DataW H}
theorem words {A B C : Type} [Inhabited B] {f : A → C} {g : B → C} : ∀ {l : List A}, (∀ y ∈ l, ∃ b, f y = g b) → ∃ r : List B, r.length = l.length ∧ ∀ i y, l[i]? = some y → f y = g (r.getD i default)
 | [], _ => ⟨[], rfl, fun i y h => by simp at h⟩
 | y :: l, h => by
  obtain ⟨b, hb⟩ := h y List.mem_cons_self
  obtain ⟨r, h1, h2⟩ := words fun z hz => h z (List.mem_cons_of_mem _ hz)
  refine ⟨b :: r, by simp [h1], fun i z hz => ?_⟩
  cases i with
  | zero => simp at hz; subst hz; simpa using hb
  | succ i => simpa using h2 i z (by simpa using hz)
theorem SameL.app : ∀ {a b c d : List SV}, SameL a b → SameL c d → SameL (a ++ c) (b ++ d)
 | _, _, _, _, .nil, h => h
 | _, _, _, _, .cons h1 h2, h => .cons h1 (SameL.app h2 h)
end
end Go.Cx
