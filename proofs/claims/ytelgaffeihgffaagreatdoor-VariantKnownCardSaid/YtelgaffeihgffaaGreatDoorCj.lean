/-
  A concrete evaluator for Go's IR. Part j: what an operation of the evaluator's is in the model.
-/
import Derived.Test.YtelgaffeihgffaaGreatDoorCi
set_option linter.unusedSimpArgs false
set_option linter.unusedVariables false
namespace Go.Cx
open Go Go.RowKit
variable {e : Env} {P : Program} {w : World} {m : Mem} {W0 : Bas} {a : Act} {t : Tmps}

abbrev GOk (e : Env) : Prop := ∀ g, g < 64 → e g = some ⟨g, 0, 0, 0⟩

theorem evO_ok (hG : GOk e) (hT : TOk e t a.tmps) {x : Operand} {v : CV} (h : evO t x = some v) : den e v = some (a.eval x) := by
  cases x with
  | tmp i =>
    obtain ⟨V, h1, h2⟩ := hT.2 i v h
    rw [h1]
    simp [Act.eval, Array.getD_eq_getD_getElem?, h2]
  | const c => exact ofV_den h
  | global g =>
    change Bool.rec (motive := fun _ => Option CV) none (some (.ptr g 0)) (Nat.blt g 64) = some v at h
    cases hb : Nat.blt g 64 with
    | false => rw [hb] at h; cases h
    | true =>
      rw [hb] at h
      cases h
      have hb : g < 64 := by simpa [Nat.blt_eq] using hb
      simp [den, hG g hb, Act.eval]
  | func f =>
    change some (CV.fn f [] []) = some v at h
    cases h
    rfl
theorem evL_ok (hG : GOk e) (hT : TOk e t a.tmps) : ∀ {l : List Operand} {vs : List CV}, evL t l = some vs → denL e vs = some (l.map a.eval)
  | [], vs, h => by simp only [evL, Option.some.injEq] at h; subst h; rfl
  | x :: l, vs, h => by
    unfold evL at h
    split at h
    · rename_i v hv
      split at h
      · rename_i us hus
        simp only [Option.some.injEq] at h; subst h
        exact denL_cons_some (evO_ok hG hT hv) (evL_ok hG hT hus)
      · cases h
    · cases h
theorem evP_ok (hG : GOk e) (hT : TOk e t a.tmps) : ∀ {l : List (Nat × Operand)} {vs : List (Nat × CV)}, evP t l = some vs → PartsOk e vs (l.map fun p => (p.1, a.eval p.2))
  | [], vs, h => by simp only [evP, Option.some.injEq] at h; subst h; exact .nil
  | (i, x) :: l, vs, h => by
    unfold evP at h
    split at h
    · rename_i v hv
      split at h
      · rename_i us hus
        simp only [Option.some.injEq] at h; subst h
        exact .cons (evO_ok hG hT hv) (evP_ok hG hT hus)
      · cases h
    · cases h
theorem evOpt_ok (hG : GOk e) (hT : TOk e t a.tmps) {x : Option Operand} {v : Option CV} (h : evOpt t x = some v) : DenO e v (x.map a.eval) := by
  unfold evOpt at h
  split at h
  · cases h; trivial
  · split at h
    · rename_i u hu
      cases h
      exact evO_ok hG hT hu
    · cases h

/-- What comes out. -/
def OutOk (W0 : Bas) (P : Program) (e : Env) (w : World) (a : Act) (o : Oper) (out : COut) : Prop :=
  match out with
  | .no _ => True
  | .recover => True
  | .val v => ∃ V, den e v = some V ∧ (execOp a.eval o).run P w = .ok (.value V) w
  | .mem v m' => ∃ e' V w', Env.le e e' ∧ den e' v = some V ∧ Rel W0 e' m' w' ∧ ((execOp a.eval o).run P w = .ok (.value V) w' ∨ ((execOp a.eval o).run P w = .ok .skip w' ∧ V = undef))
  | .call f args => ∃ as, denL e args = some as ∧ (execOp a.eval o).run P w = (callFunc f as.toArray).run P w
  | .yield l args => ∃ as b, denL e args = some as ∧ e l = some b ∧ (execOp a.eval o).run P w = (Instr.yield b.blk as.toArray).run P w
  | .defer f args => ∃ c x y, o.op = .defer c ∧ denL e args = some (x ++ y) ∧ ∀ w, (resolve a.eval c o.type).run P w = .ok { target := .fn (.func f) y.toArray, args := x.toArray } w
  | .panic v => ∃ V, den e v = some V ∧ (execOp a.eval o).run P w = .halt (.panic V) w

def notDefer (o : Oper) : Prop := ∀ c, o.op ≠ .defer c

theorem out_E {o : Oper} {out : COut} {s : Sem Value} (h : EOk W0 P e m w out s) (ho : (execOp a.eval o).run P w = (do pure (Next.value (← s)) : Sem Next).run P w) : OutOk W0 P e w a o out := by
  cases out with
  | no => trivial
  | val v =>
    obtain ⟨V, h1, h2⟩ := h
    exact ⟨V, h1, by rw [ho]; simp [h2]⟩
  | mem v m' =>
    obtain ⟨e', V, w', h1, h2, h3, h4⟩ := h
    exact ⟨e', V, w', h1, h2, h3, .inl (by rw [ho]; simp [h4])⟩
  | recover => exact h.elim
  | call f args => exact h.elim
  | yield f args => exact h.elim
  | defer f args => exact h.elim
  | panic v => exact h.elim
theorem out_V {o : Oper} {out : COut} {s : Sem Value} (h : VOk P e w out s) (ho : (execOp a.eval o).run P w = (do pure (Next.value (← s)) : Sem Next).run P w) : OutOk W0 P e w a o out := out_E (m := ⟨0, .nil⟩) (h.E) ho
theorem out_S {o : Oper} {out : COut} {s : Sem Unit} (h : SOk W0 P e m w out s) (ho : (execOp a.eval o).run P w = (do s; pure Next.skip : Sem Next).run P w) : OutOk W0 P e w a o out := by
  cases out with
  | no => trivial
  | val v => exact h.elim
  | mem v m' =>
    obtain ⟨rfl, w', h3, h4⟩ := h
    exact ⟨e, undef, w', Env.le.refl e, rfl, h3, .inr ⟨by rw [ho]; simp [h4], rfl⟩⟩
  | recover => exact h.elim
  | call f args => exact h.elim
  | yield f args => exact h.elim
  | defer f args => exact h.elim
  | panic v => exact h.elim

theorem un1_out {o : Oper} {f : Mem → CV → COut} {x : Operand} (hG : GOk e) (hT : TOk e t a.tmps) (h : ∀ v, evO t x = some v → den e v = some (a.eval x) → OutOk W0 P e w a o (f m v)) : OutOk W0 P e w a o (un1 f x m t) := by
  unfold un1
  cases hv : evO t x with
  | none => trivial
  | some v => exact h v hv (evO_ok hG hT hv)
theorem bin2_out {o : Oper} {f : Mem → CV → CV → COut} {x y : Operand} (hG : GOk e) (hT : TOk e t a.tmps) (h : ∀ v u, den e v = some (a.eval x) → den e u = some (a.eval y) → OutOk W0 P e w a o (f m v u)) : OutOk W0 P e w a o (bin2 f x y m t) := by
  unfold bin2
  cases hv : evO t x with
  | none => trivial
  | some v =>
    cases hu : evO t y with
    | none => trivial
    | some u => exact h v u (evO_ok hG hT hv) (evO_ok hG hT hu)
theorem tri3_out {o : Oper} {f : Mem → CV → CV → CV → COut} {x y z : Operand} (hG : GOk e) (hT : TOk e t a.tmps) (h : ∀ v u s, den e v = some (a.eval x) → den e u = some (a.eval y) → den e s = some (a.eval z) → OutOk W0 P e w a o (f m v u s)) : OutOk W0 P e w a o (tri3 f x y z m t) := by
  unfold tri3
  split
  · rename_i v hv
    exact bin2_out hG hT fun u s hu hs => h v u s (evO_ok hG hT hv) hu hs
  · trivial

theorem callF_out {o : Oper} {f : Operand} {args : Array Operand} {ats : Array TypeId} (hG : GOk e) (hT : TOk e t a.tmps) (hp : o.op = .call { callee := .value f, args, argTypes := ats }) {vs : List CV} (hvs : denL e vs = some (args.toList.map a.eval)) :
    OutOk W0 P e w a o (callF f m t vs) := by
  unfold callF
  split
  · rename_i fv hf
    have hd := evO_ok hG hT hf
    unfold callV
    split
    · rename_i g x y
      simp only [den, Option.bind_eq_some_iff, Option.map_eq_some_iff] at hd
      obtain ⟨lx, hx, ly, hy, hq⟩ := hd
      refine ⟨_, denL_append (denL_append hx hvs) hy, ?_⟩
      have he : (lx ++ args.toList.map a.eval ++ ly).toArray = (lx.toArray ++ args.map a.eval) ++ ly.toArray := by obtain ⟨l⟩ := args; simp
      rw [he]
      simp only [execOp, hp, resolve, ← hq, Deferred.ofValue, pure_bind, invoke]
    · rename_i l
      simp only [den, Option.map_eq_some_iff] at hd
      obtain ⟨b, hb, hq⟩ := hd
      refine ⟨_, b, hvs, hb, ?_⟩
      have he : (args.toList.map a.eval).toArray = args.map a.eval := by obtain ⟨l⟩ := args; simp
      rw [he]
      simp only [execOp, hp, resolve, ← hq, Deferred.ofValue, pure_bind, invoke]
      simp
    · trivial
  · trivial

theorem builtin_out {T : Nat} (hT0 : e T = none ∧ ¬ W0.Z T) {o : Oper} {b : Builtin} {args : Array Operand} {ats : Array TypeId} (hr : Rel W0 e m w) (hp : o.op = .call { callee := .builtin b, args, argTypes := ats }) {vs : List CV} (hvs : denL e vs = some (args.toList.map a.eval)) :
    OutOk W0 P e w a o (cBuiltin P T ats.toList b m vs) := by
  have hx : execOp a.eval o = builtin b ats o.type (args.map fun | .const _ => true | _ => false) (args.map a.eval) := by
    unfold execOp
    rw [hp]
    rfl
  have harr : args.map a.eval = (args.toList.map a.eval).toArray := by obtain ⟨l⟩ := args; simp
  cases b <;> first
    | trivial
    | skip
  · -- append
    show OutOk W0 P e w a o (biAppend P T ats.toList m vs)
    unfold biAppend
    split
    · rename_i x y
      split
      · rename_i ty ty2 hat
        have e2 : ats = #[ty, ty2] := by rw [← Array.toList_inj]; exact hat
        obtain ⟨X, l, h1, h2, h3⟩ := denL_cons hvs
        obtain ⟨Y, l2, h4, h5, rfl⟩ := denL_cons h2
        simp only [denL, Option.some.injEq] at h5; subst h5
        unfold ap2
        split
        · obtain rfl := den_str h4
          refine out_E (cAppendS_ok hr hT0 h1 ty ty2 o.type) ?_
          rw [hx, harr, h3, e2]
          rfl
        · refine out_E (cAppend_ok hr hT0 h1 h4 ty ty2 o.type) ?_
          rw [hx, harr, h3, e2]
          rfl
      · trivial
    · trivial
  · -- clear
    show OutOk W0 P e w a o (biClear P ats.toList m vs)
    unfold biClear
    split
    · rename_i x
      split
      · rename_i ty hat
        have e2 : ats = #[ty] := by rw [← Array.toList_inj]; exact hat
        obtain ⟨X, l, h1, h2, h3⟩ := denL_cons hvs
        simp only [denL, Option.some.injEq] at h2; subst h2
        refine out_E (cClear_ok hr h1 ty o.type) ?_
        rw [hx, harr, h3, e2]
        rfl
      · trivial
    · trivial
  · -- copy
    show OutOk W0 P e w a o (biCopy P ats.toList m vs)
    unfold biCopy
    split
    · rename_i x y
      split
      · rename_i ty ty2 hat
        have e2 : ats = #[ty, ty2] := by rw [← Array.toList_inj]; exact hat
        obtain ⟨X, l, h1, h2, h3⟩ := denL_cons hvs
        obtain ⟨Y, l2, h4, h5, rfl⟩ := denL_cons h2
        simp only [denL, Option.some.injEq] at h5; subst h5
        refine out_E (cCopy_ok hr h1 h4 ty ty2 o.type) ?_
        rw [hx, harr, h3, e2]
        rfl
      · trivial
    · trivial
  · -- len
    show OutOk W0 P e w a o (biLen P ats.toList m vs)
    unfold biLen
    split
    · rename_i x
      split
      · rename_i ty hat
        have e2 : ats = #[ty] := by rw [← Array.toList_inj]; exact hat
        obtain ⟨X, l, h1, h2, h3⟩ := denL_cons hvs
        simp only [denL, Option.some.injEq] at h2; subst h2
        refine out_V (cLen_ok hr.ok h1 ty o.type) ?_
        rw [hx, harr, h3, e2]
        rfl
      · trivial
    · trivial
  · -- max
    refine out_V (cMinMax_ok true hvs ats o.type) ?_
    rw [hx, harr]
    rfl
  · -- min
    refine out_V (cMinMax_ok false hvs ats o.type) ?_
    rw [hx, harr]
    rfl
  · -- recover
    show OutOk W0 P e w a o (biRec m vs)
    unfold biRec
    split <;> trivial
  · -- unsafe.SliceData
    show OutOk W0 P e w a o (biSD m vs)
    unfold biSD
    split
    · rename_i x
      obtain ⟨X, l, h1, h2, h3⟩ := denL_cons hvs
      simp only [denL, Option.some.injEq] at h2; subst h2
      refine out_V (cSliceData_ok hr h1 ats o.type) ?_
      rw [hx, harr, h3]
      rfl
    · trivial
  · -- unsafe.String
    show OutOk W0 P e w a o (biUS P ats.toList m vs)
    unfold biUS
    split
    · rename_i x y
      split
      · rename_i ty ty2 hat
        have e2 : ats = #[ty, ty2] := by rw [← Array.toList_inj]; exact hat
        obtain ⟨X, l, h1, h2, h3⟩ := denL_cons hvs
        obtain ⟨Y, l2, h4, h5, rfl⟩ := denL_cons h2
        simp only [denL, Option.some.injEq] at h5; subst h5
        refine out_E (cUnsafeStr_ok hr h1 h4 ty ty2 o.type) ?_
        rw [hx, harr, h3, e2]
        rfl
      · trivial
    · trivial

theorem copT_ok {o : Oper} {T : Nat} (hT0 : e T = none ∧ ¬ W0.Z T) (hr : Rel W0 e m w) (hT : TOk e t a.tmps) : OutOk W0 P e w a o (copT P T o.op m t) := by
  have hG : GOk e := hr.glb
  obtain ⟨dst, op, ty, pos, aft, guard⟩ := o
  cases op with
  | move x => refine un1_out hG hT ?_; intro v _ h; exact ⟨_, h, rfl⟩
  | assign x => refine un1_out hG hT ?_; intro v _ h; exact ⟨_, h, rfl⟩
  | pick c x y =>
    show OutOk W0 P e w a _ (opPick c x y m t)
    unfold opPick
    split
    · rename_i hc
      have h1 := den_bool (evO_ok hG hT hc)
      refine un1_out hG hT ?_; intro v _ h; exact ⟨_, h, by simp [execOp, h1, asBool]⟩
    · rename_i hc
      have h1 := den_bool (evO_ok hG hT hc)
      refine un1_out hG hT ?_; intro v _ h; exact ⟨_, h, by simp [execOp, h1, asBool]⟩
    · trivial
  | alloc el =>
    show OutOk W0 P e w a _ (opAlloc P T el m t)
    unfold opAlloc
    split
    · rename_i z hz
      obtain ⟨i, zv, hi, hzz, hzd⟩ := zeroV_some hz
      refine out_E (cBox_ok hr hT0 (hzd e) el) ?_
      simp [execOp, Instr.alloc, Instr.box, run_zero hi hzz]
    · trivial
  | box el x => show OutOk W0 P e w a _ (un1 (fun m v => cBox T m el v) x m t); refine un1_out hG hT ?_; intro v _ h; refine out_E (cBox_ok hr hT0 h el) ?_; rfl
  | build ty ps =>
    show OutOk W0 P e w a _ (opBuild P ty ps m t)
    unfold opBuild
    split
    · rename_i vs hvs
      refine out_V (cBuild_ok (evP_ok hG hT hvs) ty) ?_
      have : (ps.toList.map fun p => (p.1, a.eval p.2)).toArray = ps.map fun p => (p.1, a.eval p.2) := by obtain ⟨l⟩ := ps; simp
      rw [this]; rfl
    · trivial
  | buildSlice ty n ps =>
    show OutOk W0 P e w a _ (opBuildSlice P T ty n ps m t)
    unfold opBuildSlice
    split
    · rename_i vs hvs
      refine out_E (cBuildSlice_ok hr hT0 (evP_ok hG hT hvs) ty n) ?_
      have : (ps.toList.map fun p => (p.1, a.eval p.2)).toArray = ps.map fun p => (p.1, a.eval p.2) := by obtain ⟨l⟩ := ps; simp
      rw [this]; rfl
    · trivial
  | load ty x => show OutOk W0 P e w a _ (un1 (fun m v => cLoad P m ty v) x m t); refine un1_out hG hT ?_; intro v _ h; refine out_V (cLoad_ok hr.ok h ty) ?_; rfl
  | store ty x y => show OutOk W0 P e w a _ (bin2 (fun m a x => cStore P m ty a x) x y m t); refine bin2_out hG hT ?_; intro v u h1 h2; refine out_S (cStore_ok hr h1 h2 ty) ?_; rfl
  | nilCheck x =>
    refine un1_out hG hT ?_; intro v _ h
    unfold fNil
    split
    · have h0 := h
      simp only [den, Option.map_eq_some_iff] at h
      obtain ⟨b, hb, hq⟩ := h
      exact ⟨_, h0, by simp only [execOp, ← hq]; rfl⟩
    · have h0 := h
      simp only [den, Option.bind_eq_some_iff, Option.map_eq_some_iff] at h
      obtain ⟨x1, _, y1, _, hq⟩ := h
      exact ⟨_, h0, by simp only [execOp, ← hq]; rfl⟩
    · have h0 := h
      simp only [den, Option.map_eq_some_iff] at h
      obtain ⟨b, hb, hq⟩ := h
      exact ⟨_, h0, by simp only [execOp, ← hq]; rfl⟩
    · trivial
  | binOp op ty x y z => show OutOk W0 P e w a _ (bin2 (fun _ => cBin P (litO x || litO y) op ty) x y m t); refine bin2_out hG hT ?_; intro v u h1 h2; refine out_V (cBin_ok h1 h2 x y) ?_; rfl
  | unOp op ty x => show OutOk W0 P e w a _ (un1 (fun _ => cUn op) x m t); refine un1_out hG hT ?_; intro v _ h; refine out_V (cUn_ok h) ?_; rfl
  | convert s d x => show OutOk W0 P e w a _ (un1 (fun m v => cConv P T m s d v) x m t); refine un1_out hG hT ?_; intro v _ h; refine out_E (cConv_ok hr hT0 h s d) ?_; rfl
  | makeInterface ty x =>
    refine un1_out hG hT ?_; intro v _ h
    unfold fIface
    split
    · trivial
    · rename_i d hni hu
      refine ⟨.iface ty (a.eval x), by simp [den, h], ?_⟩
      cases d <;> first | exact absurd rfl (hni _) | simp [execOp, Instr.makeInterface, run_under hu]
    · trivial
  | makeFunc fn x y =>
    show OutOk W0 P e w a _ (opFunc fn x y m t)
    unfold opFunc
    split
    · split
      · rename_i vx hx
        split
        · rename_i vy hy
          rename_i f _ _
          refine ⟨.func (.func f) (x.toList.map a.eval).toArray (y.toList.map a.eval).toArray, by simp [den, evL_ok hG hT hx, evL_ok hG hT hy], ?_⟩
          have e1 : (x.toList.map a.eval).toArray = x.map a.eval := by obtain ⟨l⟩ := x; simp
          have e2 : (y.toList.map a.eval).toArray = y.map a.eval := by obtain ⟨l⟩ := y; simp
          rw [e1, e2]
          simp [execOp, Instr.makeFunc]
        · trivial
      · trivial
    · trivial
  | makeMap ty r =>
    show OutOk W0 P e w a _ (opMap T r m t)
    unfold opMap
    split
    · obtain ⟨h1, h2⟩ := hr.alloc hT0 (o := .map [] 0) (x := .map #[] 0) ⟨w.heap.size, 0, 0, 0⟩ rfl ⟨_, [], Env.ext_same .., .nil, by rw [heap_push, if_pos rfl]⟩
      refine ⟨_, .map (some w.heap.size), _, h1, ?_, h2, .inl ?_⟩
      · show ((e.ext T _) T).map _ = _
        rw [Env.ext_same]; rfl
      · simp [execOp, Instr.makeMap, run_newObj]
    · trivial
  | makeSlice ty l c => show OutOk W0 P e w a _ (bin2 (fun m l c => cMakeSlice P T m ty l c) l c m t); refine bin2_out hG hT ?_; intro v u h1 h2; refine out_E (cMakeSlice_ok hr hT0 h1 h2 ty) ?_; rfl
  | slice ty x lo hi mx =>
    show OutOk W0 P e w a _ (opSlice P ty x lo hi mx m t)
    unfold opSlice
    split
    · rename_i v hv
      split
      · rename_i l hl
        split
        · rename_i h hh
          split
          · rename_i q hq
            refine out_V (cSlice_ok hr.ok (evO_ok hG hT hv) (evOpt_ok hG hT hl) (evOpt_ok hG hT hh) (evOpt_ok hG hT hq) ty) ?_; rfl
          · trivial
        · trivial
      · trivial
    · trivial
  | fieldAddr ty x f => show OutOk W0 P e w a _ (un1 (fun _ v => cFieldAddr P ty v f) x m t); refine un1_out hG hT ?_; intro v _ h; refine out_V (cFieldAddr_ok h ty f) ?_; rfl
  | field ty x f => show OutOk W0 P e w a _ (un1 (fun _ v => cField P ty v f) x m t); refine un1_out hG hT ?_; intro v _ h; refine out_V (cField_ok h ty f) ?_; rfl
  | indexAddr ty x i => show OutOk W0 P e w a _ (bin2 (fun m x i => cIndexAddr P m ty x i) x i m t); refine bin2_out hG hT ?_; intro v u h1 h2; refine out_V (cIndexAddr_ok hr.ok h1 h2 ty) ?_; rfl
  | index ty x i => show OutOk W0 P e w a _ (bin2 (fun _ x i => cIndex P ty x i) x i m t); refine bin2_out hG hT ?_; intro v u h1 h2; refine out_V (cIndex_ok h1 h2 ty) ?_; rfl
  | lookup ty x k ok => show OutOk W0 P e w a _ (bin2 (fun m x k => cLookup P m ty x k ok) x k m t); refine bin2_out hG hT ?_; intro v u h1 h2; refine out_V (cLookup_ok hr.ok h1 h2 ty ok) ?_; rfl
  | mapUpdate ty x k v => show OutOk W0 P e w a _ (tri3 (fun m x k v => cMapUpdate P m ty x k v) x k v m t); refine tri3_out hG hT ?_; intro v u s h1 h2 h3; refine out_S (cMapUpdate_ok hr h1 h2 h3 ty) ?_; rfl
  | mapEntry ty x k => show OutOk W0 P e w a _ (bin2 (fun m x k => cMapEntry P m ty x k) x k m t); refine bin2_out hG hT ?_; intro v u h1 h2; refine out_E (cMapEntry_ok hr h1 h2 ty) ?_; rfl
  | entryStore ty x s v => show OutOk W0 P e w a _ (tri3 (fun m x s v => cEntryStore m x s v) x s v m t); refine tri3_out hG hT ?_; intro v u s h1 h2 h3; refine out_S (cEntryStore_ok hr h1 h2 h3 ty) ?_; rfl
  | insert ty x k v => show OutOk W0 P e w a _ (tri3 (fun m x k v => cMapUpdate P m ty x k v) x k v m t); refine tri3_out hG hT ?_; intro v u s h1 h2 h3; refine out_S (cMapUpdate_ok hr h1 h2 h3 ty) ?_; rfl
  | typeAssert x xt as ok => show OutOk W0 P e w a _ (un1 (fun _ v => cTypeAssert P v as ok) x m t); refine un1_out hG hT ?_; intro v _ h; refine out_V (cTypeAssert_ok h xt as ok) ?_; rfl
  | extract x i =>
    refine un1_out hG hT ?_; intro v _ h
    unfold fExtract
    split
    · split
      · rename_i u hu
        rw [nth_eq] at hu
        simp only [den, Option.map_eq_some_iff] at h
        obtain ⟨l, hl, hq⟩ := h
        obtain ⟨V, h1, h2⟩ := denL_get hl hu
        exact ⟨V, h1, by simp [execOp, Instr.extract, ← hq, h2]⟩
      · trivial
    · trivial
  | panic x =>
    refine un1_out hG hT ?_; intro v _ h
    unfold fPanic
    split
    · have h0 := h
      simp only [den, Option.map_eq_some_iff] at h
      obtain ⟨V, hV, hq⟩ := h
      exact ⟨_, h0, by simp [execOp, Instr.panic, ← hq]⟩
    · trivial
  | call c =>
    obtain ⟨callee, args, ats⟩ := c
    show OutOk W0 P e w a _ (opCall P T _ m t)
    unfold opCall
    split
    · trivial
    · rename_i vs hvs
      have hv := evL_ok hG hT hvs
      cases callee with
      | value f => exact callF_out (m := m) hG hT rfl hv
      | invoke r n => trivial
      | builtin b => exact builtin_out hT0 hr rfl hv
  | defer c =>
    obtain ⟨callee, args, ats⟩ := c
    show OutOk W0 P e w a _ (opDefer _ m t)
    unfold opDefer
    split
    · rename_i vs hvs
      have hv := evL_ok hG hT hvs
      split
      · rename_i f hf
        simp only at hf
        split
        · rename_i fv hfv
          have hd := evO_ok hG hT hfv
          unfold fDefer
          split
          · rename_i g x y
            simp only [den, Option.bind_eq_some_iff, Option.map_eq_some_iff] at hd
            obtain ⟨lx, hx, ly, hy, hq⟩ := hd
            refine ⟨_, lx ++ args.toList.map a.eval, ly, rfl, denL_append (denL_append hx hv) hy, fun w => ?_⟩
            have he : (lx ++ args.toList.map a.eval).toArray = lx.toArray ++ args.map a.eval := by obtain ⟨l⟩ := args; simp
            rw [he]
            simp only [resolve, hf, ← hq, Deferred.ofValue, pure_bind]
            rfl
          · trivial
        · trivial
      · trivial
    · trivial
  | _ => trivial
theorem cop_ok {o : Oper} (hr : Rel W0 e m w) (hT : TOk e t a.tmps) : OutOk W0 P e w a o (cop P o.op m t) := copT_ok hr.nxtZ hr hT
end Go.Cx
