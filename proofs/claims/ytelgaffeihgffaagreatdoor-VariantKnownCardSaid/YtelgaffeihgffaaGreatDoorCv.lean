/-
  A concrete evaluator for Go's IR. Part v: a long run, cut in parts; between them what is still needed is written out.
-/
import Derived.Test.YtelgaffeihgffaaGreatDoorCu
set_option linter.unusedSimpArgs false
set_option linter.unusedVariables false
namespace Go.Cx
open Go Go.RowKit
variable {P : Program}

noncomputable def esEq : List (CV × CV × Nat) → List (CV × CV × Nat) → Bool
  | [], [] => true
  | (a, b, n) :: r, (c, d, k) :: s => cvEq a c && (cvEq b d && (Nat.beq n k && esEq r s))
  | _, _ => false
noncomputable def coEq : CO → CO → Bool
  | .cells a cs, .cells b ds => Nat.beq a b && cvEqL cs ds
  | .opn a n cs, .opn b k ds => Nat.beq a b && (Nat.beq n k && cvEqL cs ds)
  | .ro cs, .ro ds => cvEqL cs ds
  | .map es c, .map fs d => esEq es fs && Nat.beq c d
  | _, _ => false
theorem esEq_eq : ∀ {a b : List (CV × CV × Nat)}, esEq a b = true → a = b
  | [], [], _ => rfl
  | (a, b, n) :: r, (c, d, k) :: s, h => by
    simp only [esEq, Bool.and_eq_true] at h
    rw [cvEq_eq h.1, cvEq_eq h.2.1, Nat.eq_of_beq_eq_true h.2.2.1, esEq_eq h.2.2.2]
  | [], _ :: _, h => by simp [esEq] at h
  | _ :: _, [], h => by simp [esEq] at h
theorem coEq_eq {a b : CO} (h : coEq a b = true) : a = b := by
  unfold coEq at h
  split at h
  · simp only [Bool.and_eq_true] at h
    rw [Nat.eq_of_beq_eq_true h.1, cvEqL_eq h.2]
  · simp only [Bool.and_eq_true] at h
    rw [Nat.eq_of_beq_eq_true h.1, Nat.eq_of_beq_eq_true h.2.1, cvEqL_eq h.2.2]
  · rw [cvEqL_eq h]
  · simp only [Bool.and_eq_true] at h
    rw [esEq_eq h.1, Nat.eq_of_beq_eq_true h.2]
  · cases h

noncomputable def mkM (nxt : Nat) : List (Nat × CO) → Mem
  | [] => ⟨nxt, .nil⟩
  | (t, o) :: r => (mkM nxt r).put t o
noncomputable def mkT (sz : Nat) : List (Nat × CV) → Tmps
  | [] => ⟨sz, .nil⟩
  | (i, v) :: r => (mkT sz r).set i v
theorem mkM_nxt (n : Nat) : ∀ l, (mkM n l).nxt = n
  | [] => rfl
  | (t, o) :: r => mkM_nxt n r
theorem mkM_get {n T : Nat} {o : CO} : ∀ {l : List (Nat × CO)}, (mkM n l).get T = some o → (T, o) ∈ l
  | [], h => by cases h
  | (t, o') :: r, h => by
    unfold mkM at h
    rw [Mem.get_put] at h
    split at h
    · rename_i hq
      cases h; subst hq; exact List.mem_cons_self ..
    · exact List.mem_cons_of_mem _ (mkM_get h)
theorem mkT_sz (n : Nat) : ∀ l, (mkT n l).sz = n
  | [] => rfl
  | (i, v) :: r => (Tmps.set_sz ..).trans (mkT_sz n r)
theorem mkT_get {n u : Nat} {x : CV} : ∀ {l : List (Nat × CV)}, (mkT n l).get u = some x → (u, x) ∈ l
  | [], h => by
    have h' : (Bool.rec (motive := fun _ => Option CV) none none (Nat.ble (Nat.succ u) n)) = some x := h
    cases hb : Nat.ble (Nat.succ u) n <;> rw [hb] at h' <;> cases h'
  | (i, v) :: r, h => by
    have ih := @mkT_get n u x r
    unfold mkT at h
    generalize mkT n r = t at h ih
    obtain ⟨sz, tr⟩ := t
    have h' : Bool.rec (motive := fun _ => Option CV) none ((Tr.set (Nat.succ i) tr i (some v)).get u) (Nat.ble (Nat.succ u) sz) = some x := h
    rw [Tr.get_set _ _ _ _ _ (by omega)] at h'
    by_cases hq : u = i
    · rw [if_pos hq] at h'
      subst hq
      cases hb : Nat.ble (Nat.succ u) sz <;> rw [hb] at h'
      · cases h'
      · cases h'; exact List.mem_cons_self ..
    · rw [if_neg hq] at h'
      exact List.mem_cons_of_mem _ (ih h')

noncomputable def covT (t : Tmps) : List (Nat × CV) → Bool
  | [] => true
  | (i, v) :: r => match t.get i with
    | some x => match cvEq x v with
      | true => covT t r
      | false => false
    | none => false
noncomputable def covM (m : Mem) : List (Nat × CO) → Bool
  | [] => true
  | (i, v) :: r => match m.get i with
    | some x => match coEq x v with
      | true => covM m r
      | false => false
    | none => false
theorem covT_spec {t : Tmps} : ∀ {l : List (Nat × CV)}, covT t l = true → ∀ i v, (i, v) ∈ l → t.get i = some v
  | [], _, i, v, h => by cases h
  | (j, u) :: r, h, i, v, hm => by
    unfold covT at h
    split at h
    · rename_i x hx
      split at h
      · rename_i hq
        rcases List.mem_cons.1 hm with hm | hm
        · cases hm; rw [hx, cvEq_eq hq]
        · exact covT_spec h i v hm
      · cases h
    · cases h
theorem covM_spec {t : Mem} : ∀ {l : List (Nat × CO)}, covM t l = true → ∀ i v, (i, v) ∈ l → t.get i = some v
  | [], _, i, v, h => by cases h
  | (j, u) :: r, h, i, v, hm => by
    unfold covM at h
    split at h
    · rename_i x hx
      split at h
      · rename_i hq
        rcases List.mem_cons.1 hm with hm | hm
        · cases hm; rw [hx, coEq_eq hq]
        · exact covM_spec h i v hm
      · cases h
    · cases h

/-- The state that a run ends in, as far as it is listed. -/
noncomputable def covN (nxt sz : Nat) (ts : List (Nat × CV)) (os : List (Nat × CO)) : Res → Bool
  | .ex .normal t [] m => Nat.beq m.nxt nxt && (Nat.beq t.sz sz && (covT t ts && covM m os))
  | _ => false
noncomputable def covR (nxt sz : Nat) (ts : List (Nat × CV)) (os : List (Nat × CO)) : Res → Bool
  | .ex .ret t [] m => Nat.beq m.nxt nxt && (Nat.beq t.sz sz && (covT t ts && covM m os))
  | _ => false

theorem St.weak {B : Bas} {e : Env} {t : Tmps} {m : Mem} {a : Act} {w : World} {nxt sz : Nat} {ts : List (Nat × CV)} {os : List (Nat × CO)} (h : St B e t [] m a w) (h1 : m.nxt = nxt) (h2 : t.sz = sz) (h3 : covT t ts = true) (h4 : covM m os = true) : St B e (mkT sz ts) [] (mkM nxt os) a w := by
  refine ⟨h.rel.sub ((mkM_nxt _ _).trans h1.symm) fun T o hT => covM_spec h4 T o (mkM_get hT), ⟨h.tok.1.trans (h2.trans (mkT_sz _ _).symm), fun u x hx => h.tok.2 u x (covT_spec h3 u x (mkT_get hx))⟩, h.dok⟩

theorem covN_ok {nxt sz : Nat} {ts : List (Nat × CV)} {os : List (Nat × CO)} {res : Res} (h : covN nxt sz ts os res = true) : ∃ t1 m1, res = .ex .normal t1 [] m1 ∧ m1.nxt = nxt ∧ t1.sz = sz ∧ covT t1 ts = true ∧ covM m1 os = true := by
  unfold covN at h
  split at h
  · rename_i t1 m1
    simp only [Bool.and_eq_true] at h
    exact ⟨t1, m1, rfl, Nat.eq_of_beq_eq_true h.1, Nat.eq_of_beq_eq_true h.2.1, h.2.2.1, h.2.2.2⟩
  · cases h
theorem covR_ok {nxt sz : Nat} {ts : List (Nat × CV)} {os : List (Nat × CO)} {res : Res} (h : covR nxt sz ts os res = true) : ∃ t1 m1, res = .ex .ret t1 [] m1 ∧ m1.nxt = nxt ∧ t1.sz = sz ∧ covT t1 ts = true ∧ covM m1 os = true := by
  unfold covR at h
  split at h
  · rename_i t1 m1
    simp only [Bool.and_eq_true] at h
    exact ⟨t1, m1, rfl, Nat.eq_of_beq_eq_true h.1, Nat.eq_of_beq_eq_true h.2.1, h.2.2.1, h.2.2.2⟩
  · cases h

/-! ### some statements of a code -/
noncomputable def tlC : Nat → Code → Code
  | 0, c => c
  | n + 1, .seq _ b => tlC n b
  | _ + 1, c => c
noncomputable def runS (ih : Task → Res) : Nat → Code → Tmps → Mem → Res
  | 0, _, t, m => .ex .normal t [] m
  | n + 1, .seq a b, t, m => match ih (.code a t [] none m) with
    | .ex .normal t [] m => runS ih n b t m
    | _ => .no "part"
  | _ + 1, _, _, _ => .no "part"
theorem tlC_add : ∀ (n k : Nat) (c : Code), tlC k (tlC n c) = tlC (n + k) c
  | 0, k, c => by rw [Nat.zero_add]; rfl
  | n + 1, k, c => by
    rw [show n + 1 + k = (n + k) + 1 by omega]
    cases c <;> first | exact tlC_add n k _ | skip
    all_goals (cases k <;> rfl)

theorem seq_two {B : Bas} {a b : Code} {t t1 : Tmps} {m m1 : Mem} {x : CEx} {t' : Tmps} {ds' : List CDef} {m' : Mem} (h1 : CodeOk P B a t [] none m (.ex .normal t1 [] m1)) (h2 : CodeOk P B b t1 [] none m1 (.ex x t' ds' m')) : CodeOk P B (.seq a b) t [] none m (.ex x t' ds' m') := by
  intro e ac w rr n hR hs
  refine wpIn_seq (wpIn_mono (h1 e ac w rr n hR hs) ?_)
  rintro y a1 w1 ⟨e1, le1, rfl, hs1⟩
  exact wpIn_mono (h2 e1 a1 w1 rr n (hR.mono le1) hs1) fun y a2 w2 hp => Post.from le1 hp

theorem weakN {B : Bas} {c : Code} {t t1 : Tmps} {m m1 : Mem} {nxt sz : Nat} {ts : List (Nat × CV)} {os : List (Nat × CO)} {x : CEx} (h : CodeOk P B c t [] none m (.ex x t1 [] m1)) (h1 : m1.nxt = nxt) (h2 : t1.sz = sz) (h3 : covT t1 ts = true) (h4 : covM m1 os = true) : CodeOk P B c t [] none m (.ex x (mkT sz ts) [] (mkM nxt os)) := by
  intro e ac w rr n hR hs
  refine wpIn_mono (h e ac w rr n hR hs) ?_
  rintro y a1 w1 ⟨e1, le1, hx, hs1⟩
  exact ⟨e1, le1, hx, hs1.weak h1 h2 h3 h4⟩

/-- The first statements, then the others. -/
theorem runS_ok {ih : Task → Res} {B : Bas} (hih : ∀ k, TaskOk P B k (ih k)) {x : CEx} {t' : Tmps} {m' : Mem} {nxt sz : Nat} {ts : List (Nat × CV)} {os : List (Nat × CO)} : ∀ (n : Nat) (c : Code) (t : Tmps) (m : Mem), covN nxt sz ts os (runS ih n c t m) = true → CodeOk P B (tlC n c) (mkT sz ts) [] none (mkM nxt os) (.ex x t' [] m') → CodeOk P B c t [] none m (.ex x t' [] m')
  | 0, c, t, m, h, hrest => by
    obtain ⟨t1, m1, h1, h2, h3, h4, h5⟩ := covN_ok h
    cases h1
    intro e ac w rr n hR hs
    exact hrest e ac w rr n hR (hs.weak h2 h3 h4 h5)
  | n + 1, c, t, m, h, hrest => by
    cases c with
    | seq a b =>
      have h' : covN nxt sz ts os (match ih (.code a t [] none m) with | .ex .normal t [] m => runS ih n b t m | _ => .no "part") = true := h
      have hc := hih (.code a t [] none m)
      generalize ih (.code a t [] none m) = res at h' hc
      split at h'
      · exact seq_two hc (runS_ok hih n b _ _ h' hrest)
      · cases h'
    | _ => (have h' : covN nxt sz ts os (.no "part") = true := h; cases h')

/-- The last statements. -/
theorem runR_ok {ih : Task → Res} {B : Bas} (hih : ∀ k, TaskOk P B k (ih k)) {c : Code} {t : Tmps} {m : Mem} {nxt sz : Nat} {ts : List (Nat × CV)} {os : List (Nat × CO)} (h : covR nxt sz ts os (ih (.code c t [] none m)) = true) : CodeOk P B c t [] none m (.ex .ret (mkT sz ts) [] (mkM nxt os)) := by
  have hc := hih (.code c t [] none m)
  generalize ih (.code c t [] none m) = res at h hc
  obtain ⟨t1, m1, rfl, h2, h3, h4, h5⟩ := covR_ok h
  exact weakN hc h2 h3 h4 h5

/-! ### some operations of a region -/
theorem Oper.wpIn_mono2 {F : Fence} {n : Nat} {Q Q' : Exit → Act → World → Prop} {o : Oper} {a : Act} {w : World} {K K' : Act → World → Prop} (h : ∀ a w, K a w → K' a w) (hq : ∀ e a w, e ≠ .normal → Q e a w → Q' e a w)
    (hh : o.wpIn F n P a w K Q) : o.wpIn F n P a w K' Q' := by
  unfold Oper.wpIn at *
  refine ⟨hh.1, ?_⟩
  have hh := hh.2
  have hl : LetsOut Q → LetsOut Q' := fun ⟨a, w, h⟩ => ⟨a, w, hq _ _ _ (by simp) h⟩
  generalize (o.semAt F.round a.eval).run P w = r at *
  cases r with
  | ok x w' =>
    cases x <;> simp only [Oper.uponIn] at hh ⊢ <;>
      first
        | exact h _ _ hh
        | exact ⟨hh.1, CallsIn.mono hh.2 (fun e w'' he => by cases e <;> first | exact h _ _ he | exact hq _ _ _ (by simp) he | exact hl he)⟩
        | exact ⟨hh.1, RowsIn.mono hh.2 (fun _ _ he => h _ _ he)⟩
        | exact ⟨hh.1, RoundIn.mono hh.2 (fun e w'' he => by cases e <;> first | exact h _ _ he | exact hq _ _ _ (by simp) he | exact hl he)⟩
  | halt x w' => cases x <;> simp only [Oper.uponIn] at hh ⊢ <;> first | exact hh | exact hq _ _ _ (by simp) hh
theorem wpListIn_app {F : Fence} {n : Nat} {ops : Array Oper} {Q Q' : Exit → Act → World → Prop} {l2 : List Oper} (hn : ∀ a w, Q .normal a w → wpListIn F n P ops Q' l2 a w) (hq : ∀ e a w, e ≠ .normal → Q e a w → Q' e a w) : ∀ (l1 : List Oper) (a : Act) (w : World), wpListIn F n P ops Q l1 a w → wpListIn F n P ops Q' (l1 ++ l2) a w
  | [], a, w, h => hn a w h
  | o :: l, a, w, h => by
    show wpListIn F n P ops Q' (o :: (l ++ l2)) a w
    unfold wpListIn at h ⊢
    split
    · rename_i hg
      rw [if_pos hg] at h
      exact Oper.wpIn_mono2 (wpListIn_app hn hq l) hq h
    · rename_i hg
      rw [if_neg hg] at h
      exact ⟨h.1, wpListIn_app hn hq l _ _ h.2⟩
/-- What is left of a region, then the others. -/
def OpsOk (P : Program) (B : Bas) (ops : Array Oper) (l : List Oper) (c : Code) (t : Tmps) (m : Mem) (x : CEx) (t' : Tmps) (m' : Mem) : Prop :=
  ∀ e a w rr n, Rnd e none rr → St B e t [] m a w → wpListIn (FW rr) n P ops (Exit.then (c.wpIn (FW rr) n P (Post B e x t' [] m')) (Post B e x t' [] m')) l a w
theorem opsOk_start {B : Bas} {id : Nat} {ops : Array Oper} {c : Code} {t : Tmps} {m : Mem} {x : CEx} {t' : Tmps} {m' : Mem} (h : OpsOk P B ops ops.toList c t m x t' m') : CodeOk P B (.seq (.region id ops false) c) t [] none m (.ex x t' [] m') :=
  fun e a w rr n hR hs => wpIn_seq (wpIn_region_list (h e a w rr n hR hs))
theorem opsOk_end {B : Bas} {ops : Array Oper} {c : Code} {t : Tmps} {m : Mem} {x : CEx} {t' : Tmps} {m' : Mem} (h : CodeOk P B c t [] none m (.ex x t' [] m')) : OpsOk P B ops [] c t m x t' m' :=
  fun e a w rr n hR hs => h e a w rr n hR hs
theorem opsOk_run {ih : Task → Res} {B : Bas} (hih : ∀ k, TaskOk P B k (ih k)) {ops : Array Oper} {c : Code} {x : CEx} {t' : Tmps} {m' : Mem} {nxt sz : Nat} {ts : List (Nat × CV)} {os : List (Nat × CO)} (j : Nat) {l : List Oper} {t : Tmps} {m : Mem} (h : covN nxt sz ts os (runOps P ih ops.toList none (l.take j) t [] m) = true) (hrest : OpsOk P B ops (l.drop j) c (mkT sz ts) (mkM nxt os) x t' m') : OpsOk P B ops l c t m x t' m' := by
  obtain ⟨t1, m1, h1, h2, h3, h4, h5⟩ := covN_ok h
  intro e a w rr n hR hs
  rw [← List.take_append_drop j l]
  refine wpListIn_app (Q := Post B e .normal t1 [] m1) (fun a1 w1 hp => ?_) (fun y a1 w1 hy hp => ?_) _ _ _ (runOps_ok hih ops none (l.take j) t [] m e a w (Env.le.refl e) hR hs h1)
  · obtain ⟨e1, le1, _, hs1⟩ := hp
    have hk := hrest e1 a1 w1 rr n (hR.mono le1) (hs1.weak h2 h3 h4 h5)
    refine List.append_nil (l.drop j) ▸ wpListIn_app (fun a2 w2 hq => ?_) (fun y a2 w2 hy hq => ?_) (l.drop j) a1 w1 hk
    · exact wpIn_mono hq fun y a3 w3 hp => Post.from le1 hp
    · cases y <;> first | exact absurd rfl hy | exact Post.from le1 hq
  · obtain ⟨e1, le1, hx, hs1⟩ := hp
    exact absurd hx hy
/-- The head of a code: its region. -/
noncomputable def opsC : Code → Array Oper
  | .seq (.region _ ops _) _ => ops
  | _ => #[]
noncomputable def idC : Code → Nat
  | .seq (.region id _ _) _ => id
  | _ => 0
noncomputable def isOps : Code → Bool
  | .seq (.region _ _ draw) _ => match draw with
    | true => false
    | false => true
  | _ => false
theorem isOps_eq {c : Code} (h : isOps c = true) : c = .seq (.region (idC c) (opsC c) false) (tlC 1 c) := by
  unfold isOps at h
  split at h
  · split at h
    · cases h
    · rfl
  · cases h
def isNilL : List Oper → Bool
  | [] => true
  | _ => false
/-- All of the region at the head. -/
theorem ops_code {B : Bas} {c : Code} {t : Tmps} {m : Mem} {x : CEx} {t' : Tmps} {m' : Mem} (hc : isOps c = true) (h : OpsOk P B (opsC c) (opsC c).toList (tlC 1 c) t m x t' m') : CodeOk P B c t [] none m (.ex x t' [] m') := by
  have h2 := opsOk_start (id := idC c) h
  rw [← isOps_eq hc] at h2
  exact h2
theorem ops_end {B : Bas} {ops : Array Oper} {l : List Oper} {c : Code} {t : Tmps} {m : Mem} {x : CEx} {t' : Tmps} {m' : Mem} (hl : isNilL l = true) (h : CodeOk P B c t [] none m (.ex x t' [] m')) : OpsOk P B ops l c t m x t' m' := by
  cases l with
  | nil => exact opsOk_end h
  | cons a b => cases hl

/-- A call without arguments, whose body has been run in parts. -/
theorem parts_calls {f : FuncId} {fn : Func} {c : Code} {l : List (Nat × List CV)} {bs : List Blk} {k : Nat} {nxt sz : Nat} {ts : List (Nat × CV)} {os : List (Nat × CO)} (hk : k = 64 + bs.length) (hfn : P.funcs[f]? = some fn) (hb : fn.body = some c) (hgood : goodName fn = true)
    (hcode : ∀ B, CodeOk P B c ⟨fn.ntmps, .nil⟩ [] none (mem0 k l) (.ex .ret (mkT sz ts) [] (mkM nxt os))) (hlv : isTrue (leave P (fun _ => .no "") fn.results.toList (mkT sz ts) [] (mkM nxt os)) = true) {W : World} (h : RowsOk W bs l) :
    Calls P f #[] W fun en w' => en = .returned (.bool true) ∧ Below W.heap.size W w' := by
  classical
  subst hk
  let ih : Task → Res := fun k => if k = .code c ⟨fn.ntmps, .nil⟩ [] none (mem0 (64 + bs.length) l) then .ex .ret (mkT sz ts) [] (mkM nxt os) else .no ""
  have hih : ∀ k, TaskOk P (base0 W) k (ih k) := fun k => by
    show TaskOk P (base0 W) k (if k = .code c ⟨fn.ntmps, .nil⟩ [] none (mem0 (64 + bs.length) l) then .ex .ret (mkT sz ts) [] (mkM nxt os) else .no "")
    split
    · rename_i hk; subst hk; exact hcode _
    · cases k <;> trivial
  have hcall := callC_ok hih f [] (mem0 (64 + bs.length) l)
  have hrun : callC P ih [] (mem0 (64 + bs.length) l) P.funcs[f]? = leave P ih fn.results.toList (mkT sz ts) [] (mkM nxt os) := by
    rw [hfn]
    rw [callC_body hb]
    show (match Nat.ble 0 fn.ntmps && goodName fn with | true => leaveAll P ih fn.results.toList (ih (.code c ⟨fn.ntmps, .nil⟩ [] none (mem0 (64 + bs.length) l))) | false => .no "arguments") = _
    rw [hgood, show Nat.ble 0 fn.ntmps = true from Nat.ble_eq_true_of_le (Nat.zero_le _)]
    show leaveAll P ih fn.results.toList (ih (.code c ⟨fn.ntmps, .nil⟩ [] none (mem0 (64 + bs.length) l))) = _
    rw [show ih (.code c ⟨fn.ntmps, .nil⟩ [] none (mem0 (64 + bs.length) l)) = .ex .ret (mkT sz ts) [] (mkM nxt os) from if_pos rfl]
    rfl
  rw [hrun] at hcall
  obtain ⟨m', hr⟩ := isTrue_spec hlv
  have hr' : leave P ih fn.results.toList (mkT sz ts) [] (mkM nxt os) = .ret (.bool true) m' := hr
  rw [hr'] at hcall
  have hcall := hcall.resolve_right fun ⟨_, _, hq, _⟩ => by cases hq
  refine (hcall.2 (env0 bs) [] W rfl (rel0 h)).mono ?_
  rintro en w' ⟨e', V, _, hV, rfl, hrel⟩
  exact ⟨by rw [den_bool hV], hrel.frm.os, hrel.frm.tape, hrel.frm.output, hrel.frm.size, hrel.frm.block⟩
end Go.Cx
