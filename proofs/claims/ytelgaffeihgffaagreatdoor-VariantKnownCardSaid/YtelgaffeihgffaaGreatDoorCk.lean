/-
  A concrete evaluator for Go's IR. Part k: regions.
-/
import Derived.Test.YtelgaffeihgffaaGreatDoorCj
set_option linter.unusedSimpArgs false
set_option linter.unusedVariables false
namespace Go.Cx
open Go Go.RowKit
variable {P : Program} {W0 : Bas}

def FW (r : Option Nat) : Fence := { Fence.wide with round := r }

theorem callsIn_FW {r : Option Nat} {n : Nat} {f : FuncId} {args : Array Value} {w : World} {R : Ending → World → Prop} (h : Calls P f args w R) : CallsIn (FW r) n P f args w R :=
  (callsIn_wide (n := n)).2 h

def ExOk (e : Env) : CEx → Exit → Prop
  | .normal, x => x = .normal
  | .exit i, x => x = .exit i
  | .goto l, x => x = .goto l
  | .ret, x => x = .ret
  | .panic v, x => ∃ V, den e v = some V ∧ x = .panic [{ v := V, recovered := false }]

def DOk (e : Env) : List CDef → List Deferred → Prop
  | [], ds => ds = []
  | .mark l :: cs, ds => ∃ b r, e l = some b ∧ ds = { target := .collected b.blk, args := #[] } :: r ∧ DOk e cs r
  | .fn f args :: cs, ds => ∃ x y r, denL e args = some (x ++ y) ∧ ds = { target := .fn (.func f) y.toArray, args := x.toArray } :: r ∧ DOk e cs r

theorem DOk.mono {e e' : Env} (h : Env.le e e') : ∀ {cs : List CDef} {ds : List Deferred}, DOk e cs ds → DOk e' cs ds
  | [], _, hd => hd
  | .mark l :: cs, _, ⟨b, r, h1, h2, h3⟩ => ⟨b, r, h _ _ h1, h2, DOk.mono h h3⟩
  | .fn f args :: cs, _, ⟨x, y, r, h1, h2, h3⟩ => ⟨x, y, r, denL_mono h _ _ h1, h2, DOk.mono h h3⟩

/-- A state of the evaluator's, and the machine's. -/
structure St (W0 : Bas) (e : Env) (t : Tmps) (ds : List CDef) (m : Mem) (a : Act) (w : World) : Prop where
  rel : Rel W0 e m w
  tok : TOk e t a.tmps
  dok : DOk e ds a.defers

def Post (W0 : Bas) (e : Env) (x : CEx) (t : Tmps) (ds : List CDef) (m : Mem) : Exit → Act → World → Prop :=
  fun y a w => ∃ e', Env.le e e' ∧ ExOk e' x y ∧ St W0 e' t ds m a w

def Rnd (e : Env) (r : Option Nat) (rr : Option Nat) : Prop := (r = none ∧ rr = none) ∨ ∃ l b, r = some l ∧ e l = some b ∧ rr = some b.blk
theorem Rnd.mono {e e' : Env} (h : Env.le e e') {r rr : Option Nat} (hr : Rnd e r rr) : Rnd e' r rr := hr.imp id fun ⟨l, b, h1, h2, h3⟩ => ⟨l, b, h1, h _ _ h2, h3⟩

/-- What a call hands back. -/
def Back (W0 : Bas) (e : Env) (v : CV) (m : Mem) (en : Ending) (w : World) : Prop := ∃ e' V, Env.le e e' ∧ den e' v = some V ∧ en = .returned V ∧ Rel W0 e' m w
def BackP (W0 : Bas) (e : Env) (v : CV) (m : Mem) (en : Ending) (w : World) : Prop := ∃ e' V, Env.le e e' ∧ den e' v = some V ∧ en = .panicked [{ v := V, recovered := false }] ∧ Rel W0 e' m w

/-- internal/abi.NoEscape: the machine answers at once. -/
def EscOk (P : Program) (f : FuncId) (args : List CV) (m : Mem) (v : CV) (m' : Mem) : Prop := ∃ t off, args = [.ptr t off] ∧ v = .ptr t off ∧ m' = m ∧ ∀ V w, (callFunc f #[V]).run P w = .ok (.value V) w
def CallOk (P : Program) (W0 : Bas) (f : FuncId) (args : List CV) (m : Mem) : Res → Prop
  | .no _ => True
  | .ret v m' => ((∀ as w, (callFunc f as).run P w = .ok (.enter f as) w) ∧ ∀ e as w, denL e args = some as → Rel W0 e m w → Calls P f as.toArray w (Back W0 e v m')) ∨ EscOk P f args m v m'
  | .pan v m' => (∀ as w, (callFunc f as).run P w = .ok (.enter f as) w) ∧ ∀ e as w, denL e args = some as → Rel W0 e m w → Calls P f as.toArray w (BackP W0 e v m')
  | .ex _ _ _ _ => False
def DCallOk (P : Program) (W0 : Bas) (f : FuncId) (args : List CV) (m : Mem) : Res → Prop
  | .no _ => True
  | .ret v m' => (∀ as w, (callFunc f as).run P w = .ok (.enter f as) w) ∧ ∀ e as w n, denL e args = some as → Rel W0 e m w → CallsDIn Fence.wide n P f as.toArray .returning w fun en u' w' => u' = .returning ∧ Back W0 e v m' en w'
  | _ => False
/-- A deferred call that recovers from a panic. -/
def RCallOk (P : Program) (W0 : Bas) (f : FuncId) (args : List CV) (v : CV) (m : Mem) : Res → Prop
  | .no _ => True
  | .ret u m' => (∀ as w, (callFunc f as).run P w = .ok (.enter f as) w) ∧ ∀ e as w V n, denL e args = some as → den e v = some V → Rel W0 e m w → CallsDIn Fence.wide n P f as.toArray (.panicking [{ v := V, recovered := false }]) w fun en u' w' => u' = .panicking [{ v := V, recovered := true }] ∧ Back W0 e u m' en w'
  | _ => False
def CodeOk (P : Program) (W0 : Bas) (c : Code) (t : Tmps) (ds : List CDef) (r : Option Nat) (m : Mem) : Res → Prop
  | .no _ => True
  | .ex x t' ds' m' => ∀ e a w rr n, Rnd e r rr → St W0 e t ds m a w → c.wpIn (FW rr) n P (Post W0 e x t' ds' m') a w
  | _ => False
def TaskOk (P : Program) (W0 : Bas) : Task → Res → Prop
  | .call f args m => CallOk P W0 f args m
  | .dcall f args m => DCallOk P W0 f args m
  | .rcall f args v m => RCallOk P W0 f args v m
  | .code c t ds r m => CodeOk P W0 c t ds r m

theorem Post.from {e e1 : Env} (h : Env.le e e1) {x : CEx} {t : Tmps} {ds : List CDef} {m : Mem} {y : Exit} {a : Act} {w : World} (hp : Post W0 e1 x t ds m y a w) : Post W0 e x t ds m y a w :=
  let ⟨e', h1, h2, h3⟩ := hp; ⟨e', h.trans h1, h2, h3⟩

theorem St.mono {e e' : Env} {t : Tmps} {ds : List CDef} {m m' : Mem} {a : Act} {w w' : World} (h : St W0 e t ds m a w) (hle : Env.le e e') (hr : Rel W0 e' m' w') : St W0 e' t ds m' a w' :=
  ⟨hr, h.tok.mono hle, h.dok.mono hle⟩

theorem put_defers (a : Act) (dst : Option Tmp) (v : Value) : (a.put dst v).defers = a.defers := by cases dst <;> rfl

theorem TOk.put {e : Env} {t : Tmps} {vs : Array Value} (h : TOk e t vs) {v : CV} {V : Value} (hv : den e v = some V) {d : Nat} (hd : d < t.sz) : TOk e (t.set d v) (vs.setIfInBounds d V) := by
  refine ⟨by simp [h.1, Tmps.set_sz], fun i x hx => ?_⟩
  rcases Tmps.get_set hx with ⟨rfl, rfl, h1⟩ | ⟨h1, h2⟩
  · exact ⟨V, hv, by rw [Array.getElem?_setIfInBounds, if_pos rfl, if_pos (by rw [h.1]; exact hd)]⟩
  · obtain ⟨U, h3, h4⟩ := h.2 i x h2
    exact ⟨U, h3, by rw [Array.getElem?_setIfInBounds, if_neg (Ne.symm h1)]; exact h4⟩

/-- Going on with a value in its temporary. -/
theorem goOn_ok {k : KK} {d : Option Tmp} {v : CV} {t : Tmps} {ds : List CDef} {m : Mem} {x : CEx} {t' : Tmps} {ds' : List CDef} {m' : Mem} (h : goOn k d v t ds m = .ex x t' ds' m') :
    ∃ t1, k t1 ds m = .ex x t' ds' m' ∧ ∀ {e : Env} {a : Act} {w : World} {V : Value}, St W0 e t ds m a w → den e v = some V → St W0 e t1 ds m (a.put d V) w := by
  cases d with
  | none => exact ⟨t, h, fun hs _ => hs⟩
  | some d =>
    change Bool.rec (motive := fun _ => Res) (.no _) (k (t.set d v) ds m) (Nat.ble (Nat.succ d) t.sz) = _ at h
    cases hb : Nat.ble (Nat.succ d) t.sz with
    | false => rw [hb] at h; cases h
    | true =>
      rw [hb] at h
      exact ⟨t.set d v, h, fun hs hv => ⟨hs.rel, hs.tok.put hv (Nat.le_of_ble_eq_true hb), by rw [put_defers]; exact hs.dok⟩⟩
theorem goOn_ex {k : KK} {d : Option Tmp} {v : CV} {t : Tmps} {ds : List CDef} {m : Mem} {res : Res} (h : goOn k d v t ds m = res) (hk : ∀ t, (∃ w, k t ds m = .no w) ∨ ∃ x t' ds' m', k t ds m = .ex x t' ds' m') : (∃ w, res = .no w) ∨ ∃ x t' ds' m', res = .ex x t' ds' m' := by
  cases d with
  | none => subst h; exact hk t
  | some d =>
    change Bool.rec (motive := fun _ => Res) (.no _) (k (t.set d v) ds m) (Nat.ble (Nat.succ d) t.sz) = _ at h
    cases hb : Nat.ble (Nat.succ d) t.sz with
    | false => rw [hb] at h; subst h; exact .inl ⟨_, rfl⟩
    | true => rw [hb] at h; subst h; exact hk _

theorem guardC_ok {e : Env} {a : Act} {t : Tmps} (hT : TOk e t a.tmps) {ops : Array Oper} {o : Oper} {b : Bool} (h : guardC ops.toList t o.guard = some b) : Region.wanted o (yielded ops a.tmps) = b := by
  unfold Region.wanted
  generalize o.guard = g at h
  unfold guardC at h
  split at h
  · cases h; rfl
  · rename_i j want
    split at h
    · rename_i q hq
      rw [nth_eq] at hq
      have hq' : ops[j]? = some q := by simpa using hq
      split at h
      · rename_i d hd
        unfold gVal at h
        split at h
        · rename_i c hc
          obtain ⟨V, h1, h2⟩ := hT.2 d _ hc
          obtain rfl := den_bool h1
          simp only [Option.some.injEq] at h
          have hy : yielded ops a.tmps j = some c := by simp [yielded, hq', hd, h2]
          show (yielded ops a.tmps j == some want) = b
          rw [hy]
          cases c <;> cases want <;> simp_all
        · rename_i hc
          obtain ⟨V, h1, h2⟩ := hT.2 d _ hc
          simp only [den, denL, Option.map_some, Option.some.injEq] at h1
          subst h1
          simp only [Option.some.injEq] at h; subst h
          have hy : yielded ops a.tmps j = none := by simp [yielded, hq', hd, h2]
          show (yielded ops a.tmps j == some want) = false
          rw [hy]; rfl
        · cases h
      · cases h
    · cases h

theorem upon_of_run {r : Option Nat} {n : Nat} {p : Oper} {a : Act} {w : World} {next : Act → World → Prop} {Q : Exit → Act → World → Prop} (hp : ∀ c, p.op ≠ .defer c) {x : Result Next} (hx : (execOp a.eval p).run P w = x) (hu : p.uponIn (FW r) n P a next Q x) : p.wpIn (FW r) n P a w next Q := by
  refine ⟨fun _ _ => trivial, ?_⟩
  rw [Oper.semAt_eq _ _ _ hp, hx]
  exact hu
theorem upon_of_run0 {n : Nat} {p : Oper} {a : Act} {w : World} {next : Act → World → Prop} {Q : Exit → Act → World → Prop} {x : Result Next} (hx : (execOp a.eval p).run P w = x) (hu : p.uponIn (FW none) n P a next Q x) : p.wpIn (FW none) n P a w next Q := by
  refine ⟨fun _ _ => trivial, ?_⟩
  show p.uponIn (FW none) n P a next Q ((Oper.semAt none a.eval p).run P w)
  rw [Oper.semAt_none, hx]
  exact hu

theorem notDefer_of {a : Act} {p : Oper} {w w' : World} {v : Value} (h : (execOp a.eval p).run P w = .ok (.value v) w' ∨ (execOp a.eval p).run P w = .ok .skip w' ∨ (execOp a.eval p).run P w = .halt (.panic v) w') (hc : ∃ f as, (callFunc f as).run P w = .ok (.enter f as) w) : True := trivial
end Go.Cx
