/-
  A concrete evaluator for Go's IR. Part v2: a long run in parts, in which calls that have been run before stand by what they left.
-/
import Derived.Test.YtelgaffeihgffaaGreatDoorCv
set_option linter.unusedSimpArgs false
set_option linter.unusedVariables false
namespace Go.Cx
open Go Go.RowKit
variable {P : Program}

noncomputable def isCall (f : FuncId) (args : List CV) (n : Nat) (os : List (Nat × CO)) : Task → Bool
  | .call g vs m => Nat.beq g f && (cvEqL vs args && (Nat.beq m.nxt n && covM m os))
  | _ => false
/-- Runs; one call is known. -/
noncomputable def ihS (f : FuncId) (args : List CV) (n : Nat) (os : List (Nat × CO)) (r : Res) (ih : Task → Res) (k : Task) : Res := match isCall f args n os k with
  | true => r
  | false => ih k
theorem callOk_weak {B : Bas} {f : FuncId} {args : List CV} {n : Nat} {os : List (Nat × CO)} {m m' : Mem} {v : CV} (h1 : m.nxt = n) (h2 : covM m os = true)
    (h : (∀ vs w, (callFunc f vs).run P w = .ok (.enter f vs) w) ∧ ∀ e vs w, denL e args = some vs → Rel B e (mkM n os) w → Calls P f vs.toArray w (Back B e v m')) : CallOk P B f args m (.ret v m') :=
  .inl ⟨h.1, fun e vs w ha hr => h.2 e vs w ha (hr.sub ((mkM_nxt _ _).trans h1.symm) fun T o hT => covM_spec h2 T o (mkM_get hT))⟩
theorem ihS_ok {B : Bas} {f : FuncId} {args : List CV} {n : Nat} {os : List (Nat × CO)} {v : CV} {m' : Mem} {ih : Task → Res} (hih : ∀ k, TaskOk P B k (ih k))
    (h : (∀ vs w, (callFunc f vs).run P w = .ok (.enter f vs) w) ∧ ∀ e vs w, denL e args = some vs → Rel B e (mkM n os) w → Calls P f vs.toArray w (Back B e v m')) : ∀ k, TaskOk P B k (ihS f args n os (.ret v m') ih k) := by
  intro k
  unfold ihS
  cases hq : isCall f args n os k with
  | false => exact hih k
  | true =>
    unfold isCall at hq
    split at hq
    · rename_i g vs m
      simp only [Bool.and_eq_true] at hq
      obtain rfl := Nat.eq_of_beq_eq_true hq.1
      obtain rfl := cvEqL_eq hq.2.1
      exact callOk_weak (Nat.eq_of_beq_eq_true hq.2.2.1) hq.2.2.2 h
    · cases hq
/-- A statement that is a region, run by known calls. -/
noncomputable def ihL (P : Program) (ih : Task → Res) : Task → Res
  | .code c t ds r m => match c with
    | .region i ops d => codeC P ih t ds r m (.region i ops d)
    | _ => .no "statement"
  | _ => .no "statement"
theorem ihL_ok {ih : Task → Res} (hih : ∀ B k, TaskOk P B k (ih k)) (hm : P.follows .mixedOrders = true) (B : Bas) : ∀ k, TaskOk P B k (ihL P ih k) := by
  intro k
  unfold ihL
  split
  · split
    · exact codeC_ok hih hm B _ (fun b hb => by cases hb) _ _ _ _
    · trivial
  · cases k <;> trivial

def notPtr : CV → Bool
  | .ptr _ _ => false
  | _ => true
/-- A call whose body has been run in parts. -/
theorem unit_call {B : Bas} {f : FuncId} {fn : Func} {c : Code} {args : List CV} {n : Nat} {os : List (Nat × CO)} {t' : Tmps} {m' : Mem} {v : CV} (hfn : P.funcs[f]? = some fn) (hb : fn.body = some c) (hgood : goodName fn = true) (hl : Nat.ble args.length fn.ntmps = true) (hv : notPtr v = true)
    (hcode : CodeOk P B c ⟨fn.ntmps, ofList 0 args .nil⟩ [] none (mkM n os) (.ex .ret t' [] m')) (hlv : leave P (fun _ => .no "") fn.results.toList t' [] m' = .ret v m') :
    (∀ vs w, (callFunc f vs).run P w = .ok (.enter f vs) w) ∧ ∀ e vs w, denL e args = some vs → Rel B e (mkM n os) w → Calls P f vs.toArray w (Back B e v m') := by
  classical
  let ih : Task → Res := fun k => if k = .code c ⟨fn.ntmps, ofList 0 args .nil⟩ [] none (mkM n os) then .ex .ret t' [] m' else .no ""
  have hih : ∀ k, TaskOk P B k (ih k) := fun k => by
    show TaskOk P B k (if k = .code c ⟨fn.ntmps, ofList 0 args .nil⟩ [] none (mkM n os) then .ex .ret t' [] m' else .no "")
    split
    · rename_i hk; subst hk; exact hcode
    · cases k <;> trivial
  have hcall := callC_ok hih f args (mkM n os)
  have hrun : callC P ih args (mkM n os) P.funcs[f]? = leave P ih fn.results.toList t' [] m' := by
    rw [hfn]
    rw [callC_body hb]
    show (match Nat.ble args.length fn.ntmps && goodName fn with | true => leaveAll P ih fn.results.toList (ih (.code c ⟨fn.ntmps, ofList 0 args .nil⟩ [] none (mkM n os))) | false => .no "arguments") = _
    rw [hgood, hl]
    show leaveAll P ih fn.results.toList (ih (.code c ⟨fn.ntmps, ofList 0 args .nil⟩ [] none (mkM n os))) = _
    rw [show ih (.code c ⟨fn.ntmps, ofList 0 args .nil⟩ [] none (mkM n os)) = .ex .ret t' [] m' from if_pos rfl]
    rfl
  rw [hrun] at hcall
  have hr' : leave P ih fn.results.toList t' [] m' = .ret v m' := hlv
  rw [hr'] at hcall
  rcases hcall with hcall | ⟨_, _, _, h2, _⟩
  · exact hcall
  · subst h2; cases hv
/-! ### statements that hold statements -/
noncomputable def hdC : Code → Code
  | .seq a _ => a
  | c => c
noncomputable def isSeq : Code → Bool
  | .seq _ _ => true
  | _ => false
theorem seq_sub {B : Bas} {c : Code} {t t1 : Tmps} {m m1 : Mem} {x : CEx} {t' : Tmps} {m' : Mem} (hc : isSeq c = true) (h1 : CodeOk P B (hdC c) t [] none m (.ex .normal t1 [] m1)) (h2 : CodeOk P B (tlC 1 c) t1 [] none m1 (.ex x t' [] m')) : CodeOk P B c t [] none m (.ex x t' [] m') := by
  cases c with
  | seq a b => exact seq_two h1 h2
  | _ => cases hc
theorem runN_ok {ih : Task → Res} {B : Bas} (hih : ∀ k, TaskOk P B k (ih k)) {c : Code} {t : Tmps} {m : Mem} {nxt sz : Nat} {ts : List (Nat × CV)} {os : List (Nat × CO)} (h : covN nxt sz ts os (ih (.code c t [] none m)) = true) : CodeOk P B c t [] none m (.ex .normal (mkT sz ts) [] (mkM nxt os)) := by
  have hc := hih (.code c t [] none m)
  generalize ih (.code c t [] none m) = res at h hc
  obtain ⟨t1, m1, rfl, h2, h3, h4, h5⟩ := covN_ok h
  exact weakN hc h2 h3 h4 h5
end Go.Cx
