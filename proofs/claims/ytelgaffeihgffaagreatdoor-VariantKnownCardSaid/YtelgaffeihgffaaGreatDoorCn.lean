/-
  A concrete evaluator for Go's IR. Part n: functions.
-/
import Derived.Test.YtelgaffeihgffaaGreatDoorCm
set_option linter.unusedSimpArgs false
set_option linter.unusedVariables false
namespace Go.Cx
open Go Go.RowKit
variable {P : Program} {W0 : Bas}

def resOf (tmps : Array Value) : ResultVar → Sem Value
  | .tmp d => pure (tmps.getD d undef)
  | .cell x ty => do loadVar ty (← asAddr (tmps.getD x undef))

theorem getD_of {vs : Array Value} {i : Nat} {V : Value} (h : vs[i]? = some V) : vs.getD i undef = V := by simp [Array.getD_eq_getD_getElem?, h]

theorem resV_ok {e : Env} {t : Tmps} {tmps : Array Value} {m : Mem} {w : World} (hT : TOk e t tmps) (hr : Rel W0 e m w) : ∀ {l : List ResultVar} {vs : List CV}, resV P t m l = some vs →
    ∃ us, denL e vs = some us ∧ (l.mapM (resOf tmps)).run P w = .ok us w
  | [], vs, h => by
    simp only [resV, Option.some.injEq] at h; subst h
    exact ⟨[], rfl, rfl⟩
  | .tmp i :: rs, vs, h => by
    unfold resV at h
    split at h
    · rename_i v hv
      split at h
      · rename_i us hus
        simp only [Option.some.injEq] at h; subst h
        obtain ⟨V, h1, h2⟩ := hT.2 i v hv
        obtain ⟨l, h3, h4⟩ := resV_ok hT hr hus
        refine ⟨V :: l, denL_cons_some h1 h3, ?_⟩
        simp only [List.mapM_cons, resOf, pure_bind, Sem.run_bind, h4, Result.andThen_ok, getD_of h2]
        rfl
      · cases h
    · cases h
  | .cell x ty :: rs, vs, h => by
    unfold resV at h
    split at h
    · rename_i p hp
      split at h
      · rename_i v hv
        split at h
        · rename_i us hus
          simp only [Option.some.injEq] at h; subst h
          obtain ⟨X, h1, h2⟩ := hT.2 x p hp
          obtain ⟨l, h3, h4⟩ := resV_ok hT hr hus
          have hld := cLoad_ok (P := P) (w := w) hr.ok h1 ty
          rw [hv] at hld
          obtain ⟨V, h5, h6⟩ := hld
          refine ⟨V :: l, denL_cons_some h5 h3, ?_⟩
          have hX : ∃ ad, X = .pointer (some ad) := by
            unfold cLoad at hv
            split at hv
            · obtain ⟨b, hb, rfl⟩ := den_ptr h1
              exact ⟨_, rfl⟩
            · cases hv
          obtain ⟨ad, rfl⟩ := hX
          simp only [Instr.loadAt, Instr.sureAddr, Sem.run_bind, Sem.run_pure, Result.andThen_ok] at h6
          simp only [List.mapM_cons, resOf, Sem.run_bind, getD_of h2, asAddr, Sem.run_pure, Result.andThen_ok, h6, h4]
        · cases h
      · cases h
    · cases h

theorem results_ok {e : Env} {t : Tmps} {tmps : Array Value} {m : Mem} {w : World} (hT : TOk e t tmps) (hr : Rel W0 e m w) {fn : Func} {vs : List CV} (h : resV P t m fn.results.toList = some vs) :
    ∃ V, den e (oneOf vs) = some V ∧ (results fn tmps).run P w = .ok V w := by
  obtain ⟨us, h1, h2⟩ := resV_ok hT hr h
  have h3 : (fn.results.mapM (resOf tmps)).run P w = .ok us.toArray w := by
    rw [Array.mapM_eq_mapM_toList, Sem.run_map, h2]; rfl
  have h4 : (results fn tmps).run P w = ((fn.results.mapM (resOf tmps)).run P w).andThen fun vs w' => .ok (if h : vs.size = 1 then vs[0] else .tuple vs) w' := by
    unfold results
    rw [Sem.run_bind]
    rfl
  rw [h4, h3]
  simp only [Result.andThen_ok]
  match vs, us, h1 with
  | [], us, h1 =>
    simp only [denL, Option.some.injEq] at h1; subst h1
    exact ⟨.tuple #[], rfl, by simp⟩
  | [x], us, h1 =>
    obtain ⟨V, l, k1, k2, rfl⟩ := denL_cons h1
    simp only [denL, Option.some.injEq] at k2; subst k2
    exact ⟨V, k1, by simp⟩
  | x :: y :: r, us, h1 =>
    have hl := denL_length h1
    refine ⟨.tuple us.toArray, by simp [oneOf, den, h1], ?_⟩
    have : ¬ us.toArray.size = 1 := by simp [hl]
    rw [dif_neg this]

theorem callFunc_ok {f : FuncId} {fn : Func} {c : Code} (hf : P.funcs[f]? = some fn) (hb : fn.body = some c) (hn : goodName fn = true) (as : Array Value) (w : World) : (callFunc f as).run P w = .ok (.enter f as) w := by
  have hn' : (fn.name == "runtime.NumGoroutine") = false := by
    unfold goodName at hn
    split at hn
    · cases hn
    · assumption
  have hn2 : ¬ fn.name = "runtime.NumGoroutine" := by simpa using hn'
  simp [callFunc, hf, hb, hn2]

/-- What a function begins with. -/
theorem ofList_ok {e : Env} : ∀ {vs : List CV} {us : List Value} {i : Nat} {tr : Tr CV} {tmps : Array Value}, denL e vs = some us →
    (∀ (j : Nat) (x : CV), tr.get j = some x → j < i ∧ ∃ v, den e x = some v ∧ tmps[j]? = some v) → (∀ j, j < us.length → tmps[i + j]? = us[j]?) → ∀ (j : Nat) (x : CV), (ofList i vs tr).get j = some x → ∃ v, den e x = some v ∧ tmps[j]? = some v
  | [], us, i, tr, tmps, hd, h1, h2, j, x, hx => (h1 j x hx).2
  | v :: vs, us, i, tr, tmps, hd, h1, h2, j, x, hx => by
    obtain ⟨V, l, k1, k2, rfl⟩ := denL_cons hd
    refine ofList_ok (i := i + 1) (tr := tr.set (i + 1) i (some v)) (tmps := tmps) k2 (fun j x hx => ?_) (fun j hj => ?_) j x hx
    · rw [Tr.get_set _ _ _ _ _ (by omega)] at hx
      by_cases hq : j = i
      · rw [if_pos hq] at hx
        cases hx
        subst hq
        refine ⟨by omega, V, k1, ?_⟩
        have := h2 0 (by simp)
        simpa using this
      · rw [if_neg hq] at hx
        obtain ⟨q1, q2⟩ := h1 j x hx
        exact ⟨by omega, q2⟩
    · have := h2 (j + 1) (by simp; omega)
      rw [show i + 1 + j = i + (j + 1) by omega, this]
      simp

theorem entry_ok {e : Env} {args : List CV} {as : List Value} {n : Nat} (hd : denL e args = some as) (hl : args.length ≤ n) : TOk e ⟨n, ofList 0 args .nil⟩ (as.toArray ++ Array.replicate (n - as.toArray.size) undef) := by
  have hlen := denL_length hd
  refine ⟨by simp; omega, fun i x hx => ?_⟩
  obtain ⟨h1, h2⟩ := Tmps.get_some hx
  refine ofList_ok hd (fun j x hx => by simp [Tr.get_nil] at hx) (fun j hj => ?_) i x h2
  rw [Nat.zero_add, Array.getElem?_append_left (by simpa using hj)]
  simp

theorem mark_ok {e : Env} {m : Mem} {w : World} (h : Rel W0 e m w) {l : Nat} (ho : m.get l = some (.dfr true)) {b : Blk} (hb : e l = some b) :
    ∃ w', (Instr.takeDeferred b.blk).run P w = .ok [] w' ∧ Rel W0 e (m.put l (.dfr false)) w' := by
  obtain ⟨b', h1, h2⟩ := h.ok _ _ ho
  obtain rfl : b = b' := by rw [hb] at h1; cases h1; rfl
  have hlt := heap_lt h2
  have h2' : w.heap[b.blk]? = some (.deferred (some [])) := h2
  refine ⟨{ w with heap := w.heap.setIfInBounds b.blk (.deferred none) }, ?_, h.put ho rfl rfl hb (fun k hk => ?_) (by simp) rfl rfl rfl ⟨b, hb, ?_⟩⟩
  · simp [Instr.takeDeferred, getObj, setObj, Sem.run, h2']
  · show (w.heap.setIfInBounds b.blk _)[k]? = _
    rw [Array.getElem?_setIfInBounds, if_neg (by omega)]
  · show (w.heap.setIfInBounds b.blk _)[b.blk]? = _
    rw [Array.getElem?_setIfInBounds, if_pos rfl, if_pos hlt]

theorem leave_ok {ih : Task → Res} (hih : ∀ k, TaskOk P W0 k (ih k)) {fn : Func} {t : Tmps} {e0 : Env} {v : CV} {m' : Mem} {n : Nat} : ∀ {ds : List CDef} {m : Mem} {e : Env} {a : Act} {w : World}, Env.le e0 e → St W0 e t ds m a w →
    leave P ih fn.results.toList t ds m = .ret v m' → LeavesInM Fence.wide n P fn a.tmps (Back W0 e0 v m') a.defers .returning w
  | [], m, e, a, w, hle, hs, h => by
    obtain ⟨hr, hT, hd⟩ := hs
    have hd : a.defers = [] := hd
    have h' : (match resV P t m fn.results.toList with | some vs => Res.ret (oneOf vs) m | none => .no _) = .ret v m' := h
    split at h'
    · rename_i vs hvs
      injection h' with h1 h2
      subst h1; subst h2
      obtain ⟨V, k1, k2⟩ := results_ok hT hr hvs
      obtain ⟨ts, dfs⟩ := a
      simp only at hd
      subst hd
      exact ⟨V, k2, e, V, hle, k1, rfl, hr⟩
    · cases h'
  | .mark l :: ds, m, e, a, w, hle, hs, h => by
    obtain ⟨hr, hT, b, r, hb, hda, hd⟩ := hs
    have h' : (match m.get l with | some (.dfr true) => leave P ih fn.results.toList t ds (m.put l (.dfr false)) | _ => .no _) = .ret v m' := h
    split at h'
    · rename_i ho
      obtain ⟨w', k1, k2⟩ := mark_ok (P := P) hr ho hb
      rw [hda]
      refine ⟨by simp, .inl ⟨b.blk, w', rfl, k1, ?_⟩⟩
      exact leave_ok (a := { tmps := a.tmps, defers := r }) hih hle ⟨k2, hT, hd⟩ h'
    · cases h'
  | .fn f args :: ds, m, e, a, w, hle, hs, h => by
    obtain ⟨hr, hT, x, y, r, hx, hda, hd⟩ := hs
    have h' : leaveF (leave P ih fn.results.toList t ds) (ih (.dcall f args m)) = .ret v m' := h
    have hc := hih (.dcall f args m)
    generalize ih (.dcall f args m) = res at h' hc
    cases res with
    | no => cases h'
    | pan => cases h'
    | ex => cases h'
    | ret u m1 =>
      obtain ⟨henter, hc⟩ := hc
      rw [hda]
      refine ⟨by simp, .inr ⟨fun hd => by simp [Fence.wide] at hd, .func f, y.toArray, f, (x ++ y).toArray, rfl, ?_, fun _ _ => trivial, ?_⟩⟩
      · show (callFunc f (x.toArray ++ y.toArray)).run P w = _
        rw [henter]
        simp
      · have hcd := hc e (x ++ y) w (n - 1) hx hr
        refine ⟨hcd.1, fun c cs hc1 hroom => ?_⟩
        obtain ⟨en, u', w', fr, ⟨hu, e1, V, le1, hV, rfl, hr1⟩, hcomes⟩ := hcd.2 c cs hc1 hroom
        refine ⟨.returned V, u', w', fr, ?_, hcomes⟩
        subst hu
        show LeavesInM Fence.wide n P fn a.tmps (Back W0 e0 v m') r (settle .returning) w'
        exact leave_ok (a := { tmps := a.tmps, defers := r }) hih (hle.trans le1) ⟨hr1, hT.mono le1, hd.mono le1⟩ h'

theorem leave_shape {ih : Task → Res} {rs : List ResultVar} {t : Tmps} : ∀ (ds : List CDef) (m : Mem), (∃ w, leave P ih rs t ds m = .no w) ∨ ∃ v m', leave P ih rs t ds m = .ret v m'
  | [], m => by
    have key : leave P ih rs t [] m = (match resV P t m rs with | some vs => Res.ret (oneOf vs) m | none => .no _) := rfl
    rw [key]
    split
    · exact .inr ⟨_, _, rfl⟩
    · exact .inl ⟨_, rfl⟩
  | .mark l :: ds, m => by
    have key : leave P ih rs t (.mark l :: ds) m = (match m.get l with | some (.dfr true) => leave P ih rs t ds (m.put l (.dfr false)) | _ => .no _) := rfl
    rw [key]
    split
    · exact leave_shape ds _
    · exact .inl ⟨_, rfl⟩
  | .fn f args :: ds, m => by
    have key : leave P ih rs t (.fn f args :: ds) m = leaveF (leave P ih rs t ds) (ih (.dcall f args m)) := rfl
    rw [key]
    unfold leaveF
    split
    · exact leave_shape ds _
    · exact .inl ⟨_, rfl⟩
    · exact .inl ⟨_, rfl⟩
theorem leave_not_pan {ih : Task → Res} {rs : List ResultVar} {t : Tmps} {ds : List CDef} {m m' : Mem} {v : CV} (h : leave P ih rs t ds m = .pan v m') : False := by
  rcases leave_shape (P := P) (ih := ih) (rs := rs) (t := t) ds m with ⟨w, hw⟩ | ⟨v, m', hw⟩ <;> rw [hw] at h <;> cases h
theorem leave_not_ex {ih : Task → Res} {rs : List ResultVar} {t t' : Tmps} {ds ds' : List CDef} {m m' : Mem} {x : CEx} (h : leave P ih rs t ds m = .ex x t' ds' m') : False := by
  rcases leave_shape (P := P) (ih := ih) (rs := rs) (t := t) ds m with ⟨w, hw⟩ | ⟨v, m', hw⟩ <;> rw [hw] at h <;> cases h

theorem escNext {fn : Func} (hn : fn.name = "internal/abi.NoEscape") (ho : fn.origin = "") : Extern.findNext fn = none := by
  unfold Extern.findNext
  rw [hn, ho]
  have h1 : Extern.allNextRows.lookup "internal/abi.NoEscape" = none := by kernel_rfl
  have h2 : Extern.allNextRows.lookup "" = none := by kernel_rfl
  simp only [h1, h2]; rfl
theorem escFind {fn : Func} (hn : fn.name = "internal/abi.NoEscape") : Extern.find fn = some Extern.AbiNoEscape.same := by
  unfold Extern.find
  rw [hn]
  have h1 : Extern.allGenericRows.lookup "internal/abi.NoEscape" = none := by kernel_rfl
  have h2 : Extern.allTypedRows.lookup "internal/abi.NoEscape" = none := by kernel_rfl
  have h3 : Extern.allRows.lookup "internal/abi.NoEscape" = some Extern.AbiNoEscape.same := by kernel_rfl
  simp only [h1, h2, h3]; rfl
theorem callC_ok {ih : Task → Res} (hih : ∀ k, TaskOk P W0 k (ih k)) (f : FuncId) (args : List CV) (m : Mem) : CallOk P W0 f args m (callC P ih args m P.funcs[f]?) := by
  generalize hfn : P.funcs[f]? = q
  cases q with
  | none => trivial
  | some fn =>
    show CallOk P W0 f args m (match fn.body with
      | some c => callBody P ih fn args m (leaveAll P ih fn.results.toList) (some c)
      | none => escC fn m args)
    generalize hb : fn.body = bd
    cases bd with
    | none =>
      show CallOk P W0 f args m (escC fn m args)
      unfold escC
      split
      · rename_i t off
        split
        · rename_i hn
          simp only [Bool.and_eq_true, beq_iff_eq] at hn
          obtain ⟨hn, ho⟩ := hn
          refine .inr ⟨t, off, rfl, rfl, rfl, fun V w => ?_⟩
          rw [run_callFunc_extern (e := Extern.AbiNoEscape.same) hfn (by rw [hn]; decide) (by rw [hb]; rfl) (escNext hn ho) (escFind hn)]
          rfl
        · trivial
      · trivial
    | some c =>
      unfold callBody
      simp only
      split
      · rename_i hc
        simp only [Bool.and_eq_true] at hc
        have hl := Nat.le_of_ble_eq_true hc.1
        have henter := callFunc_ok hfn hb hc.2
        have hcode := hih (.code c ⟨fn.ntmps, ofList 0 args .nil⟩ [] none m)
        generalize ih (.code c ⟨fn.ntmps, ofList 0 args .nil⟩ [] none m) = res at hcode
        have body : ∀ {x : CEx} {t : Tmps} {ds : List CDef} {m1 : Mem}, CodeOk P W0 c ⟨fn.ntmps, ofList 0 args .nil⟩ [] none m (.ex x t ds m1) → ∀ e as w (R : Ending → World → Prop), denL e args = some as → Rel W0 e m w →
            (∀ y a w', Post W0 e x t ds m1 y a w' → bodyPostM Fence.wide 0 P fn R y a w') → Calls P f as.toArray w R := fun hco e as w R has hr hpost => by
          refine callsIn_wide.1 (callsIn_of_wp_marks (F := Fence.wide) (n := 0) hfn hb trivial ?_)
          exact wpIn_mono (hco e { tmps := _, defers := [] } w none 0 (.inl ⟨rfl, rfl⟩) ⟨hr, entry_ok has hl, rfl⟩) hpost
        unfold leaveAll
        split
        · rename_i t ds m1
          generalize hlv : leave P ih fn.results.toList t ds m1 = lv
          cases lv with
          | no => trivial
          | pan => exact (leave_not_pan hlv).elim
          | ex => exact (leave_not_ex hlv).elim
          | ret v m' =>
            refine .inl ⟨henter, fun e as w has hr => body hcode e as w _ has hr ?_⟩
            rintro y a w' ⟨e1, le1, rfl, hs⟩
            exact leave_ok hih le1 hs hlv
        · rename_i t ds m1
          generalize hlv : leave P ih fn.results.toList t ds m1 = lv
          cases lv with
          | no => trivial
          | pan => exact (leave_not_pan hlv).elim
          | ex => exact (leave_not_ex hlv).elim
          | ret v m' =>
            refine .inl ⟨henter, fun e as w has hr => body hcode e as w _ has hr ?_⟩
            rintro y a w' ⟨e1, le1, rfl, hs⟩
            exact leave_ok hih le1 hs hlv
        · rename_i v t m1
          refine ⟨henter, fun e as w has hr => body hcode e as w _ has hr ?_⟩
          rintro y a w' ⟨e1, le1, ⟨V, hV, rfl⟩, hs⟩
          have hd : a.defers = [] := hs.dok
          show LeavesInM Fence.wide 0 P fn a.tmps _ a.defers (.panicking _) w'
          rw [hd]
          exact ⟨e1, V, le1, hV, rfl, hs.rel⟩
        · rename_i v t f2 args2 ds m1
          have hrc := hih (.rcall f2 args2 v m1)
          generalize ih (.rcall f2 args2 v m1) = rres at hrc
          unfold leaveF
          cases rres with
          | no => trivial
          | pan => exact hrc.elim
          | ex => exact hrc.elim
          | ret u m2 =>
            simp only
            generalize hlv : leave P ih fn.results.toList t ds m2 = lv
            cases lv with
            | no => trivial
            | pan => exact (leave_not_pan hlv).elim
            | ex => exact (leave_not_ex hlv).elim
            | ret v2 m3 =>
              obtain ⟨henter2, hc2⟩ := hrc
              refine .inl ⟨henter, fun e as w has hr => body hcode e as w _ has hr ?_⟩
              rintro y a w' ⟨e1, le1, ⟨V, hV, rfl⟩, hs⟩
              obtain ⟨hr1, hT, x, z, r, hx, hda, hd⟩ := hs
              show LeavesInM Fence.wide 0 P fn a.tmps _ a.defers (.panicking _) w'
              rw [hda]
              refine ⟨by simp, .inr ⟨fun hd => by simp [Fence.wide] at hd, .func f2, z.toArray, f2, (x ++ z).toArray, rfl, ?_, fun _ _ => trivial, ?_⟩⟩
              · show (callFunc f2 (x.toArray ++ z.toArray)).run P w' = _
                rw [henter2]
                simp
              · have hcd := hc2 e1 (x ++ z) w' V (0 - 1) hx hV hr1
                refine ⟨hcd.1, fun c cs hc1 hroom => ?_⟩
                obtain ⟨en, u', w2, fr, ⟨hu, e2, V2, le2, hV2, rfl, hr2⟩, hcomes⟩ := hcd.2 c cs hc1 hroom
                refine ⟨.returned V2, u', w2, fr, ?_, hcomes⟩
                subst hu
                show LeavesInM Fence.wide 0 P fn a.tmps _ r (settle (.panicking [{ v := V, recovered := true }])) w2
                exact leave_ok (a := { tmps := a.tmps, defers := r }) hih (le1.trans le2) ⟨hr2, hT.mono le2, hd.mono le2⟩ hlv
        · trivial
        · trivial
      · trivial
end Go.Cx
