/-
  A concrete evaluator for Go's IR. Part m: operations in order.
-/
import Derived.Test.YtelgaffeihgffaaGreatDoorCl
set_option linter.unusedSimpArgs false
set_option linter.unusedVariables false
namespace Go.Cx
open Go Go.RowKit
variable {P : Program} {W0 : Bas}

theorem cop_defer {m : Mem} {t : Tmps} {op : Op} {c : Call} (h : op = .defer c) : (∃ w, cop P op m t = .no w) ∨ ∃ f args, cop P op m t = .defer f args := by
  subst h
  show (∃ w, opDefer c m t = .no w) ∨ ∃ f args, opDefer c m t = .defer f args
  unfold opDefer
  split
  · split
    · split
      · unfold fDefer
        split
        · exact .inr ⟨_, _, rfl⟩
        · exact .inl ⟨_, rfl⟩
      · exact .inl ⟨_, rfl⟩
    · exact .inl ⟨_, rfl⟩
  · exact .inl ⟨_, rfl⟩

def isEx : Res → Prop
  | .no _ => True
  | .ex _ _ _ _ => True
  | _ => False

theorem goOn_isEx {k : KK} (hk : ∀ t ds m, isEx (k t ds m)) (d : Option Tmp) (v : CV) (t : Tmps) (ds : List CDef) (m : Mem) : isEx (goOn k d v t ds m) := by
  cases d with
  | none => exact hk t ds m
  | some d =>
    change isEx (Bool.rec (motive := fun _ => Res) (.no _) (k (t.set d v) ds m) (Nat.ble (Nat.succ d) t.sz))
    cases Nat.ble (Nat.succ d) t.sz with
    | false => trivial
    | true => exact hk _ _ _

theorem after_isEx {ih : Task → Res} {r : Option Nat} {k : KK} (hk : ∀ t ds m, isEx (k t ds m)) (dst : Option Tmp) (t : Tmps) (ds : List CDef) (m : Mem) (out : COut) : isEx (after ih r k dst t ds m out) := by
  unfold after
  split
  · exact goOn_isEx hk _ _ _ _ _
  · exact goOn_isEx hk _ _ _ _ _
  · unfold backC
    split
    · exact goOn_isEx hk _ _ _ _ _
    · trivial
    · trivial
    · trivial
  · unfold backY
    split
    · exact goOn_isEx hk _ _ _ _ _
    · trivial
    · trivial
  · split
    · exact goOn_isEx hk _ _ _ _ _
    · trivial
  · trivial
  · trivial
  · trivial

theorem runOps_isEx {ih : Task → Res} {ops : List Oper} {r : Option Nat} : ∀ (l : List Oper) (t : Tmps) (ds : List CDef) (m : Mem), isEx (runOps P ih ops r l t ds m)
  | [], _, _, _ => trivial
  | o :: os, t, ds, m => by
    show isEx (runOne P ih ops r o (runOps P ih ops r os) t ds m)
    unfold runOne
    split
    · exact after_isEx (fun t ds m => runOps_isEx os t ds m) _ _ _ _ _
    · exact goOn_isEx (fun t ds m => runOps_isEx os t ds m) _ _ _ _ _
    · trivial

theorem undef_den (e : Env) : den e undefC = some undef := rfl

/-- One operation. -/
theorem after_ok {ih : Task → Res} (hih : ∀ k, TaskOk P W0 k (ih k)) {r : Option Nat} {k : KK} {o : Oper} {t : Tmps} {ds : List CDef} {m : Mem} {x : CEx} {t' : Tmps} {ds' : List CDef} {m' : Mem}
    {e0 : Env} {rr : Option Nat} {n : Nat} {K : Act → World → Prop} {e : Env} {a : Act} {w : World} (hle : Env.le e0 e) (hR : Rnd e r rr) (hs : St W0 e t ds m a w)
    (hk : ∀ (t1 : Tmps) (ds1 : List CDef) (m1 : Mem) (e1 : Env) (a1 : Act) (w1 : World), Env.le e0 e1 → Rnd e1 r rr → k t1 ds1 m1 = .ex x t' ds' m' → St W0 e1 t1 ds1 m1 a1 w1 → K a1 w1)
    (h : after ih r k o.dst t ds m (cop P o.op m t) = .ex x t' ds' m') : o.wpIn (FW rr) n P a w K (Post W0 e0 x t' ds' m') := by
  have hout := cop_ok (P := P) (o := o) hs.rel hs.tok
  have hnd : (∀ w, cop P o.op m t ≠ .no w) → (∀ f args, cop P o.op m t ≠ .defer f args) → ∀ c, o.op ≠ .defer c := fun h1 h2 c hc => by
    rcases cop_defer (P := P) (m := m) (t := t) hc with ⟨w, hw⟩ | ⟨f, args, hf⟩
    · exact h1 w hw
    · exact h2 f args hf
  generalize hq : cop P o.op m t = out at *
  cases out with
  | no w => cases h
  | recover => cases h
  | val v =>
    obtain ⟨V, hV, hrun⟩ := hout
    obtain ⟨t1, h1, h2⟩ := goOn_ok h
    exact upon_of_run (hnd (by simp) (by simp)) hrun (hk t1 ds m e _ w hle hR h1 (h2 hs hV))
  | mem v m1 =>
    obtain ⟨e1, V, w1, le1, hV, hr1, hrun⟩ := hout
    obtain ⟨t1, h1, h2⟩ := goOn_ok h
    have hst := h2 (hs.mono le1 hr1) hV
    rcases hrun with hrun | ⟨hrun, rfl⟩
    · exact upon_of_run (hnd (by simp) (by simp)) hrun (hk t1 ds m1 e1 _ w1 (hle.trans le1) (hR.mono le1) h1 hst)
    · exact upon_of_run (hnd (by simp) (by simp)) hrun (hk t1 ds m1 e1 _ w1 (hle.trans le1) (hR.mono le1) h1 hst)
  | call f args =>
    obtain ⟨as, has, hrun⟩ := hout
    have hcall := hih (.call f args m)
    change backC k o.dst t ds (ih (.call f args m)) = _ at h
    generalize ih (.call f args m) = res at h hcall
    cases res with
    | no w => cases h
    | ex => cases h
    | ret v m1 =>
      obtain ⟨t1, h1, h2⟩ := goOn_ok h
      rcases hcall with ⟨henter, hc⟩ | ⟨t0, off, rfl, rfl, rfl, hv⟩
      · refine upon_of_run (hnd (by simp) (by simp)) (hrun.trans (henter _ _)) ?_
        refine ⟨fun hd => by simp [FW, Fence.wide] at hd, callsIn_FW ((hc e as w has hs.rel).mono ?_)⟩
        rintro en w1 ⟨e1, V, le1, hV, rfl, hr1⟩
        exact hk t1 ds m1 e1 _ w1 (hle.trans le1) (hR.mono le1) h1 (h2 (hs.mono le1 hr1) hV)
      · obtain ⟨V, l, hV, h5, rfl⟩ := denL_cons has
        simp only [denL, Option.some.injEq] at h5; subst h5
        exact upon_of_run (hnd (by simp) (by simp)) (hrun.trans (hv V w)) (hk t1 ds m1 e _ w hle hR h1 (h2 hs hV))
    | pan v m1 =>
      obtain ⟨henter, hc⟩ := hcall
      cases h
      refine upon_of_run (hnd (by simp) (by simp)) (hrun.trans (henter _ _)) ?_
      refine ⟨fun hd => by simp [FW, Fence.wide] at hd, callsIn_FW ((hc e as w has hs.rel).mono ?_)⟩
      rintro en w1 ⟨e1, V, le1, hV, rfl, hr1⟩
      exact ⟨e1, hle.trans le1, ⟨V, hV, rfl⟩, hs.mono le1 hr1⟩
  | yield l args =>
    obtain ⟨as, b, has, hb, hrun⟩ := hout
    have hy := yieldC_ok hih l args m
    change backY k o.dst t ds (yieldC ih l args m) = _ at h
    generalize yieldC ih l args m = res at h hy
    cases res with
    | no w => cases h
    | ex => cases h
    | pan => cases h
    | ret v m1 =>
      obtain ⟨t1, h1, h2⟩ := goOn_ok h
      obtain ⟨f, tmps, asg, body, k1, k2⟩ := hy e as b w rr (n - 1) hb has hs.rel
      refine upon_of_run (hnd (by simp) (by simp)) (hrun.trans k1) ?_
      refine ⟨fun hd => by simp [FW, Fence.wide] at hd, k2.mono ?_⟩
      rintro en w1 ⟨e1, V, le1, hV, rfl, hr1⟩
      exact hk t1 ds m1 e1 _ w1 (hle.trans le1) (hR.mono le1) h1 (h2 (hs.mono le1 hr1) hV)
  | defer f args =>
    obtain ⟨c, y, z, hop, hd, hres⟩ := hout
    change (match r with | none => goOn k o.dst undefC t (.fn f args :: ds) m | some _ => Res.no _) = _ at h
    cases r with
    | some l => cases h
    | none =>
      obtain ⟨t1, h1, h2⟩ := goOn_ok h
      rcases hR with ⟨_, rfl⟩ | ⟨l, b, hq, _⟩
      · have hrun : (execOp a.eval o).run P w = .ok (.defer { target := .fn (.func f) z.toArray, args := y.toArray }) w := by
          simp only [execOp, hop, Sem.run_bind, hres, Result.andThen_ok]
          rfl
        refine upon_of_run0 hrun ?_
        have hst : St W0 e t (.fn f args :: ds) m { a with defers := { target := .fn (.func f) z.toArray, args := y.toArray } :: a.defers } w := ⟨hs.rel, hs.tok, ⟨y, z, a.defers, hd, rfl, hs.dok⟩⟩
        exact hk t1 _ m e _ w hle (.inl ⟨rfl, rfl⟩) h1 (h2 hst rfl)
      · cases hq
  | panic v =>
    obtain ⟨V, hV, hrun⟩ := hout
    cases h
    refine upon_of_run (hnd (by simp) (by simp)) hrun ?_
    exact ⟨e, hle, ⟨V, hV, rfl⟩, hs⟩

theorem runOps_ok {ih : Task → Res} (hih : ∀ k, TaskOk P W0 k (ih k)) (ops : Array Oper) (r : Option Nat) {x : CEx} {t' : Tmps} {ds' : List CDef} {m' : Mem} {e0 : Env} {rr : Option Nat} {n : Nat} :
    ∀ (l : List Oper) (t : Tmps) (ds : List CDef) (m : Mem) (e : Env) (a : Act) (w : World), Env.le e0 e → Rnd e r rr → St W0 e t ds m a w → runOps P ih ops.toList r l t ds m = .ex x t' ds' m' → wpListIn (FW rr) n P ops (Post W0 e0 x t' ds' m') l a w
  | [], t, ds, m, e, a, w, hle, hR, hs, h => by
    change Res.ex .normal t ds m = .ex x t' ds' m' at h
    cases h
    exact ⟨e, hle, rfl, hs⟩
  | o :: os, t, ds, m, e, a, w, hle, hR, hs, h => by
    change runOne P ih ops.toList r o (runOps P ih ops.toList r os) t ds m = _ at h
    unfold runOne at h
    unfold wpListIn
    split at h
    · rename_i hg
      rw [if_pos (guardC_ok hs.tok hg)]
      exact after_ok hih hle hR hs (fun t1 ds1 m1 e1 a1 w1 le1 hR1 hk hs1 => runOps_ok hih ops r os t1 ds1 m1 e1 a1 w1 le1 hR1 hs1 hk) h
    · rename_i hg
      rw [if_neg (by rw [guardC_ok hs.tok hg]; simp)]
      obtain ⟨t1, h1, h2⟩ := goOn_ok h
      exact ⟨fun _ _ => trivial, runOps_ok hih ops r os t1 ds m e _ w hle hR (h2 hs rfl) h1⟩
    · cases h
end Go.Cx
