/-
  A verification-condition generator for Go's IR. Part j: what a piece of code does not write, stays.
-/
import Derived.Test.YtdpoebadaomfgaaVi
set_option linter.unusedSimpArgs false
set_option linter.unusedVariables false
namespace Go.Pw
open Go Go.RowKit
variable {P : Program} {c : Cfg} {gs : List Nat} {t : List SV} {o : List (Option SObj)} {h : Hp}

def Same (ms : List Nat) (t t' : List SV) : Prop := t'.length = t.length ∧ ∀ i : Nat, i ∉ ms → t'[i]? = t[i]?
theorem Same.refl (ms : List Nat) (t : List SV) : Same ms t t := ⟨rfl, fun _ _ => rfl⟩
theorem Same.trans {m1 m2 : List Nat} {a b c : List SV} (h : Same m1 a b) (k : Same m2 b c) : Same (m1 ++ m2) a c := ⟨k.1.trans h.1, fun i hi => by
  simp only [List.mem_append, not_or] at hi
  exact (k.2 i hi.2).trans (h.2 i hi.1)⟩
theorem Same.mono {m1 m2 : List Nat} {a b : List SV} (h : Same m1 a b) (hm : ∀ i ∈ m1, i ∈ m2) : Same m2 a b := ⟨h.1, fun i hi => h.2 i (fun hc => hi (hm i hc))⟩
theorem Same.set (d : Nat) (t : List SV) (v : SV) : Same [d] t (t.set d v) := ⟨by simp, fun i hi => by
  simp only [List.mem_singleton] at hi
  rw [List.getElem?_set, if_neg (Ne.symm hi)]⟩
theorem Same.havoc (ms : List Nat) (t : List SV) : Same ms t (havoc t ms) := by
  induction ms generalizing t with
  | nil => exact Same.refl _ _
  | cons m ms ih => exact (((Same.set m t .junk).trans (ih (t.set m .junk))).mono (by simp))
theorem Same.refill : ∀ (ss : List Nat) (vs t : List SV), Same ss t (refill t ss vs)
  | [], vs, t => by simpa [Pw.refill] using Same.refl [] t
  | s :: ss, [], t => by simpa [Pw.refill] using Same.refl (s :: ss) t
  | s :: ss, v :: vs, t => by
    simp only [Pw.refill]
    exact ((Same.set s t v).trans (Same.refill ss vs _)).mono (by simp)

abbrev dl (dst : Option Tmp) : List Nat := dst.toList

theorem put_mono {dst : Option Tmp} {v : SV} {K K' : SK} (hm : ∀ t', Same (dl dst) t t' → K t' o h → K' t' o h) (hk : put dst v t o h K) : put dst v t o h K' := by
  cases dst with
  | none => exact hm t (Same.refl _ _) hk
  | some d =>
    simp only [put, forceV_eq, setK_eq] at *
    exact hm _ (Same.set d t v) hk

theorem putG_mono {dst : Option Tmp} {v : SV} {K K' : SK} (hm : ∀ t', Same (dl dst) t t' → K t' o h → K' t' o h) (hk : putG gs dst v t o h K) : putG gs dst v t o h K' := by
  cases dst with
  | none => exact hm t (Same.refl _ _) hk
  | some d =>
    simp only [putG, forceV_eq, setK_eq] at *
    split at hk
    · exact hm _ (Same.set d t v) hk
    · split at hk
      · exact ⟨fun hb => hm _ (Same.set d t _) (hk.1 hb), fun hb => hm _ (Same.set d t _) (hk.2 hb)⟩
      · exact hm _ (Same.set d t v) hk

theorem sCall_mono {f : FuncId} {args : List SV} {dst : Option Tmp} {K K' : SK} (hm : ∀ t' o' h', Same (dl dst) t t' → HLe h h' → K t' o' h' → K' t' o' h') (hk : sCall P gs f args dst t o h K) : sCall P gs f args dst t o h K' := by
  unfold sCall at *
  split at hk
  · exact hk
  · rw [forceVs_eq] at *
    unfold sCall.sCallT at *
    split at hk
    · exact hk
    · split at hk
      · exact hk
      · simp only [nrmKs_eq, nrmBs_eq, forceOs_eq] at *
        obtain ⟨post, h1, h2⟩ := hk
        exact ⟨post, h1, fun sv o' h' hl hp => putG_mono (fun t' hs hk => hm _ _ _ hs hl hk) (h2 sv o' h' hl hp)⟩

theorem sYield_mono {l : Nat} {args : List SV} {dst : Option Tmp} {K K' : SK} (hm : ∀ t' o' h', Same (dl dst) t t' → HLe h h' → K t' o' h' → K' t' o' h') (hk : sYield c l args dst t o h K) : sYield c l args dst t o h K' := by
  unfold sYield at *
  split at hk
  · exact hk
  · rw [nrmKs_eq] at *
    split at hk
    · simp only [setK_eq] at *
      exact ⟨hk.1, hk.2.1, hk.2.2.1, put_mono (fun t' hs hk => hm _ _ _ hs (HLe.refl _) hk) hk.2.2.2.1, put_mono (fun t' hs hk => hm _ _ _ hs (HLe.refl _) hk) hk.2.2.2.2⟩
    · exact hk

theorem sAppend_mono {elem : TypeId} {sz bytes : Nat} {x y : SV} {dst : Option Tmp} {K K' : SK} (hm : ∀ t' o' h', Same (dl dst) t t' → HLe h h' → K t' o' h' → K' t' o' h') (hk : sAppend elem sz bytes gs x y dst t o h K) : sAppend elem sz bytes gs x y dst t o h K' := by
  unfold sAppend at *
  split at hk
  · exact hk
  · split at hk
    · split at hk
      · split at hk
        · simp only [killK_eq, snocK_eq] at *
          exact ⟨hk.1, putG_mono (fun t' hs hk => hm _ _ _ hs (HLe.refl _) hk) hk.2⟩
        · exact hk
      · exact hk
    · simp only [killK_eq, snocK_eq] at *
      obtain ⟨ys, h1, h2, h3⟩ := hk
      exact ⟨ys, h1, h2, putG_mono (fun t' hs hk => hm _ _ _ hs (HLe.refl _) hk) h3⟩
    · exact hk

theorem sop_mono {op : Op} {dst : Option Tmp} {K K' : SK} (hm : ∀ t' o' h', Same (dl dst) t t' → HLe h h' → K t' o' h' → K' t' o' h') (hk : sop P c gs op dst t o h K) : sop P c gs op dst t o h K' := by
  unfold sop at *
  split at hk
  · exact putG_mono (fun t' hs hk => hm _ _ _ hs (HLe.refl _) hk) hk
  · exact ⟨hk.1, putG_mono (fun t' hs hk => hm _ _ _ hs (HLe.refl _) hk) hk.2⟩
  · obtain ⟨v, h1, h2⟩ := hk
    exact ⟨v, h1, putG_mono (fun t' hs hk => hm _ _ _ hs (HLe.refl _) hk) h2⟩
  · split at hk
    · split at hk
      · exact ⟨fun hb => putG_mono (fun t' hs hk => hm _ _ _ hs (HLe.refl _) hk) (hk.1 hb), fun hb => putG_mono (fun t' hs hk => hm _ _ _ hs (HLe.refl _) hk) (hk.2 hb)⟩
      · exact hk
    · split at hk
      · simp only [forceVs_eq, snocK_eq] at *
        exact putG_mono (fun t' hs hk => hm _ _ _ hs (HLe.refl _) hk) hk
      · exact hk
    · split at hk
      · simp only [forceVs_eq, snocK_eq] at *
        exact putG_mono (fun t' hs hk => hm _ _ _ hs (HLe.refl _) hk) hk
      · exact hk
    · split at hk
      · split at hk
        · split at hk
          · simp only [forceVs_eq, setAllK_eq, setK_eq] at *
            exact put_mono (fun t' hs hk => hm _ _ _ hs (HLe.refl _) hk) hk
          · exact hk
        · exact hk
      · split at hk
        · split at hk
          · simp only [forceVs_eq, setK_eq] at *
            exact ⟨hk.1, put_mono (fun t' hs hk => hm _ _ _ hs (HLe.refl _) hk) hk.2⟩
          · exact hk
        · exact hk
      · exact hk
    · split at hk
      · exact sCall_mono hm hk
      · exact sYield_mono hm hk
      · exact hk
    · split at hk
      · split at hk
        · split at hk
          · split at hk
            · rw [forceN_eq] at hk ⊢
              exact sAppend_mono hm hk
            · exact hk
          · exact hk
        · exact hk
      · exact hk
    · split at hk
      · split at hk
        · split at hk
          · split at hk
            · split at hk
              · simp only [forceVs_eq, forceN_eq, snocK_eq] at *
                exact putG_mono (fun t' hs hk => hm _ _ _ hs (HLe.refl _) hk) hk
              · exact hk
            · exact hk
          · exact hk
        · exact hk
      · exact hk
    · exact hk

theorem sops_mono {ops : Array Oper} {K K' : SK} : ∀ (l : List Oper) (t : List SV) (o : List (Option SObj)) (h : Hp), (∀ t' o' h', Same (l.filterMap (·.dst)) t t' → HLe h h' → K t' o' h' → K' t' o' h') → sops P c gs ops l t o h K → sops P c gs ops l t o h K'
  | [], t, o, h, hm, hk => hm _ _ _ (Same.refl _ _) (HLe.refl _) hk
  | p :: l, t, o, h, hm, hk => by
    have hcons : ∀ {t' t''}, Same (dl p.dst) t t' → Same (l.filterMap (·.dst)) t' t'' → Same ((p :: l).filterMap (·.dst)) t t'' := fun h1 h2 => (h1.trans h2).mono (by
      intro i hi
      simp only [List.mem_append] at hi
      rcases hi with hi | hi
      · cases hd : p.dst with
        | none => simp [dl, hd] at hi
        | some d => simp [dl, hd] at hi; subst hi; simp [hd]
      · simp only [List.filterMap_cons]
        split
        · exact hi
        · exact List.mem_cons_of_mem _ hi)
    have go : sop P c gs p.op p.dst t o h (fun t o h => sops P c gs ops l t o h K) → sop P c gs p.op p.dst t o h (fun t o h => sops P c gs ops l t o h K') :=
      sop_mono fun t' o' h' hs hl hk => sops_mono l t' o' h' (fun t'' o'' h'' hs' hl' hk => hm _ _ _ (hcons hs hs') (hl.trans hl') hk) hk
    unfold sops at hk ⊢
    split at hk
    · exact go hk
    · split at hk
      · split at hk
        · exact go hk
        · exact put_mono (fun t' hs hk => sops_mono l t' o h (fun t'' o'' h'' hs' hl hk => hm _ _ _ (hcons hs hs') hl hk) hk) hk
      · exact put_mono (fun t' hs hk => sops_mono l t' o h (fun t'' o'' h'' hs' hl hk => hm _ _ _ (hcons hs hs') hl hk) hk) hk
      · exact hk

theorem sopQ_mono {op : Op} {dst : Option Tmp} {K K' : SK} (hm : ∀ t' o' h', Same (dl dst) t t' → HLe h h' → K t' o' h' → K' t' o' h') (hk : sopQ P c gs op dst t o h K) : sopQ P c gs op dst t o h K' := by
  unfold sopQ at *
  split at hk
  · exact putG_mono (fun t' hs hk => hm _ _ _ hs (HLe.refl _) hk) hk
  · exact ⟨hk.1, putG_mono (fun t' hs hk => hm _ _ _ hs (HLe.refl _) hk) hk.2⟩
  · obtain ⟨v, h1, h2⟩ := hk
    exact ⟨v, h1, putG_mono (fun t' hs hk => hm _ _ _ hs (HLe.refl _) hk) h2⟩
  · split at hk
    · split at hk
      · exact ⟨fun hb => putG_mono (fun t' hs hk => hm _ _ _ hs (HLe.refl _) hk) (hk.1 hb), fun hb => putG_mono (fun t' hs hk => hm _ _ _ hs (HLe.refl _) hk) (hk.2 hb)⟩
      · exact hk
    · split at hk
      · unfold sCallQ at *
        split at hk
        · exact hk
        · simp only [nrmKs_eq] at *
          obtain ⟨v, h1, h2⟩ := hk
          exact ⟨v, h1, putG_mono (fun t' hs hk => hm _ _ _ hs (HLe.refl _) hk) h2⟩
      · exact hk
    · exact hk

theorem sopsQ_mono {ops : Array Oper} {K K' : SK} : ∀ (l : List Oper) (t : List SV) (o : List (Option SObj)) (h : Hp), (∀ t' o' h', Same (l.filterMap (·.dst)) t t' → HLe h h' → K t' o' h' → K' t' o' h') → sopsQ P c gs ops l t o h K → sopsQ P c gs ops l t o h K'
  | [], t, o, h, hm, hk => hm _ _ _ (Same.refl _ _) (HLe.refl _) hk
  | p :: l, t, o, h, hm, hk => by
    have hcons : ∀ {t' t''}, Same (dl p.dst) t t' → Same (l.filterMap (·.dst)) t' t'' → Same ((p :: l).filterMap (·.dst)) t t'' := fun h1 h2 => (h1.trans h2).mono (by
      intro i hi
      simp only [List.mem_append] at hi
      rcases hi with hi | hi
      · cases hd : p.dst with
        | none => simp [dl, hd] at hi
        | some d => simp [dl, hd] at hi; subst hi; simp [hd]
      · simp only [List.filterMap_cons]
        split
        · exact hi
        · exact List.mem_cons_of_mem _ hi)
    have go : sopQ P c gs p.op p.dst t o h (fun t o h => sopsQ P c gs ops l t o h K) → sopQ P c gs p.op p.dst t o h (fun t o h => sopsQ P c gs ops l t o h K') :=
      sopQ_mono fun t' o' h' hs hl hk => sopsQ_mono l t' o' h' (fun t'' o'' h'' hs' hl' hk => hm _ _ _ (hcons hs hs') (hl.trans hl') hk) hk
    unfold sopsQ at hk ⊢
    split at hk
    · exact go hk
    · split at hk
      · split at hk
        · exact go hk
        · exact put_mono (fun t' hs hk => sopsQ_mono l t' o h (fun t'' o'' h'' hs' hl hk => hm _ _ _ (hcons hs hs') hl hk) hk) hk
      · exact put_mono (fun t' hs hk => sopsQ_mono l t' o h (fun t'' o'' h'' hs' hl hk => hm _ _ _ (hcons hs hs') hl hk) hk) hk
      · exact hk

theorem sopF_mono {op : Op} {dst : Option Tmp} {K K' : SK} (hm : ∀ t' o' h', Same (dl dst) t t' → HLe h h' → K t' o' h' → K' t' o' h') (hk : sopF P c gs op dst t o h K) : sopF P c gs op dst t o h K' := by
  unfold sopF at *
  split at hk
  · exact putG_mono (fun t' hs hk => hm _ _ _ hs (HLe.refl _) hk) hk
  · exact ⟨hk.1, putG_mono (fun t' hs hk => hm _ _ _ hs (HLe.refl _) hk) hk.2⟩
  · obtain ⟨v, h1, h2⟩ := hk
    exact ⟨v, h1, putG_mono (fun t' hs hk => hm _ _ _ hs (HLe.refl _) hk) h2⟩
  · exact hk

theorem sopsF_mono {ops : Array Oper} {K K' : SK} : ∀ (l : List Oper) (t : List SV) (o : List (Option SObj)) (h : Hp), (∀ t' o' h', Same (l.filterMap (·.dst)) t t' → HLe h h' → K t' o' h' → K' t' o' h') → sopsF P c gs ops l t o h K → sopsF P c gs ops l t o h K'
  | [], t, o, h, hm, hk => hm _ _ _ (Same.refl _ _) (HLe.refl _) hk
  | p :: l, t, o, h, hm, hk => by
    have hcons : ∀ {t' t''}, Same (dl p.dst) t t' → Same (l.filterMap (·.dst)) t' t'' → Same ((p :: l).filterMap (·.dst)) t t'' := fun h1 h2 => (h1.trans h2).mono (by
      intro i hi
      simp only [List.mem_append] at hi
      rcases hi with hi | hi
      · cases hd : p.dst with
        | none => simp [dl, hd] at hi
        | some d => simp [dl, hd] at hi; subst hi; simp [hd]
      · simp only [List.filterMap_cons]
        split
        · exact hi
        · exact List.mem_cons_of_mem _ hi)
    have go : sopF P c gs p.op p.dst t o h (fun t o h => sopsF P c gs ops l t o h K) → sopF P c gs p.op p.dst t o h (fun t o h => sopsF P c gs ops l t o h K') :=
      sopF_mono fun t' o' h' hs hl hk => sopsF_mono l t' o' h' (fun t'' o'' h'' hs' hl' hk => hm _ _ _ (hcons hs hs') (hl.trans hl') hk) hk
    unfold sopsF at hk ⊢
    split at hk
    · exact go hk
    · split at hk
      · split at hk
        · exact go hk
        · exact put_mono (fun t' hs hk => sopsF_mono l t' o h (fun t'' o'' h'' hs' hl hk => hm _ _ _ (hcons hs hs') hl hk) hk) hk
      · exact put_mono (fun t' hs hk => sopsF_mono l t' o h (fun t'' o'' h'' hs' hl hk => hm _ _ _ (hcons hs hs') hl hk) hk) hk
      · exact hk

theorem sopsT_mono {M : List Nat} {K K' : SK} : ∀ (l : List Oper) (t : List SV) (o : List (Option SObj)) (h : Hp), (∀ t' o' h', Same (l.filterMap (·.dst)) t t' → HLe h h' → K t' o' h' → K' t' o' h') → sopsT P c gs M l t o h K → sopsT P c gs M l t o h K'
  | [], t, o, h, hm, hk => hm _ _ _ (Same.refl _ _) (HLe.refl _) hk
  | p :: l, t, o, h, hm, hk => by
    have hcons : ∀ {t' t''}, Same (dl p.dst) t t' → Same (l.filterMap (·.dst)) t' t'' → Same ((p :: l).filterMap (·.dst)) t t'' := fun h1 h2 => (h1.trans h2).mono (by
      intro i hi
      simp only [List.mem_append] at hi
      rcases hi with hi | hi
      · cases hd : p.dst with
        | none => simp [dl, hd] at hi
        | some d => simp [dl, hd] at hi; subst hi; simp [hd]
      · simp only [List.filterMap_cons]
        split
        · exact hi
        · exact List.mem_cons_of_mem _ hi)
    unfold sopsT at hk ⊢
    split at hk
    · exact hk
    · split at hk
      · split at hk
        · split at hk
          · split at hk
            · simp only [forceVs_eq, setAllK_eq, setK_eq] at hk ⊢
              exact put_mono (fun t' hs hk => sopsT_mono l t' _ h (fun t'' o'' h'' hs' hl hk => hm _ _ _ (hcons hs hs') hl hk) hk) hk
            · exact hk
          · exact hk
        · exact hk
      · split at hk
        · exact putG_mono (fun t' hs hk => sopsT_mono l t' _ h (fun t'' o'' h'' hs' hl hk => hm _ _ _ (hcons hs hs') hl hk) hk) hk
        · exact hk
      · exact hk

theorem pick_dst {ops : Array Oper} : ∀ (l : List Nat) (i : Nat), i ∈ (pick ops l).filterMap (·.dst) → i ∈ ops.toList.filterMap (·.dst)
  | [], i, h => by simp [pick] at h
  | k :: l, i, h => by
    unfold pick at h
    split at h
    · rename_i p hp
      simp only [List.filterMap_cons] at h
      have hmem : p ∈ ops.toList := Array.mem_toList_iff.2 (Array.mem_of_getElem? hp)
      split at h
      · exact pick_dst l i h
      · rename_i d hd
        rcases List.mem_cons.1 h with rfl | h
        · exact List.mem_filterMap.2 ⟨p, hmem, hd⟩
        · exact pick_dst l i h
    · exact pick_dst l i h

theorem pullC_mono {ops : Array Oper} {M : List Nat} {K K' : SX → SK} (hm : ∀ x t' o' h', Same (ops.toList.filterMap (·.dst)) t t' → HLe h h' → K x t' o' h' → K' x t' o' h') (hk : pullC P c ops M t o h K) : pullC P c ops M t o h K' := by
  unfold pullC at *
  rw [maskK_eq] at *
  refine ⟨hk.1, sopsF_mono _ _ _ _ (fun t' o' h' hs hl hk => sopsT_mono _ _ _ _ (fun t'' o'' h'' hs' hl' hk => hm _ _ _ _ ((hs.trans hs').mono fun i hi => ?_) hl' hk) hk) hk.2⟩
  rcases List.mem_append.1 hi with hi | hi
  · exact pick_dst _ i hi
  · exact pick_dst _ i hi

theorem putC_mono {x : Operand} {b : Bool} {K K' : SK} (hm : ∀ t', Same (match x with | .tmp d => [d] | _ => []) t t' → K t' o h → K' t' o h) (hk : putC x b t o h K) : putC x b t o h K' := by
  unfold putC at *
  split at hk
  · rw [setK_eq] at *; exact hm _ (Same.set _ _ _) hk
  · exact hm _ (Same.refl _ _) hk

theorem slots_mods {ss ms : List Nat} (h : ss.all ms.contains = true) : ∀ i ∈ ss, i ∈ ms := fun i hi => by simpa using List.all_eq_true.1 h i hi

theorem Same.head {ss ms : List Nat} (hs : ss.all ms.contains = true) (t vs : List SV) : Same ms t (Pw.refill (Pw.havoc t ms) ss vs) :=
  ((Same.havoc ms t).trans (Same.refill ss vs _)).mono (fun i hi => by
    simp only [List.mem_append] at hi
    exact hi.elim id (slots_mods hs i))

def plcs (l : List (Plc × TypeId × Nat)) : List Nat := l.filterMap fun p => match p.1 with | .slot s => some s | .cell _ _ => none

theorem setP_mono {v : SV} {k k' : List SV → List (Option SObj) → Prop} : ∀ (p : Plc), (∀ t' o', Same (match p with | .slot s => [s] | .cell _ _ => []) t t' → k t' o' → k' t' o') → setP t o v k p → setP t o v k' p
  | .slot s, hm, hk => by
    simp only [setP, setK_eq] at *
    exact hm _ _ (Same.set _ _ _) hk
  | .cell tag off, hm, hk => by
    simp only [setP, setK_eq] at *
    split at hk
    · exact hm _ _ (Same.refl _ _) hk
    · exact hm _ _ (Same.refl _ _) hk

theorem retagK_mono {k k' : List SV → List (Option SObj) → Prop} : ∀ (l : List (Plc × TypeId × Nat)) (t : List SV) (o : List (Option SObj)), (∀ t' o', Same (plcs l) t t' → k t' o' → k' t' o') → retagK l t o k → retagK l t o k'
  | [], t, o, hm, hk => hm _ _ (Same.refl _ _) hk
  | (p, ty, sz) :: r, t, o, hm, hk => by
    have go : ∀ (o2 : List (Option SObj)) (v : SV), setP t o2 v (fun t o => retagK r t o k) p → setP t o2 v (fun t o => retagK r t o k') p := fun o2 v hk =>
      setP_mono p (fun t' o' hs hk => retagK_mono r t' o' (fun t'' o'' hs' hk => hm _ _ (((hs.trans hs').mono (by
        intro i hi
        simp only [List.mem_append] at hi
        cases p <;> simp_all [plcs]))) hk) hk) hk
    unfold retagK at hk ⊢
    split at hk
    · split at hk
      · simp only [setK_eq, snocK_eq] at hk ⊢
        exact go _ _ hk
      · exact hk
    · simp only [snocK_eq] at hk ⊢
      exact go _ _ hk
    · exact hk

theorem slotless_plcs : ∀ {l : List (Plc × TypeId × Nat)}, slotless l = true → plcs l = []
  | [], _ => rfl
  | (.slot s, _, _) :: r, h => by simp [slotless] at h
  | (.cell _ _, _, _) :: r, h => by simpa [plcs] using slotless_plcs (l := r) h
theorem slotsIn_plcs : ∀ {l : List (Plc × TypeId × Nat)} {ms : List Nat}, slotsIn l ms = true → ∀ i ∈ plcs l, i ∈ ms
  | [], _, _, i, hi => by simp [plcs] at hi
  | (.slot s, _, _) :: r, ms, h, i, hi => by
    simp only [slotsIn, Bool.and_eq_true] at h
    simp only [plcs, List.filterMap_cons, List.mem_cons] at hi
    rcases hi with rfl | hi
    · simpa using h.1
    · exact slotsIn_plcs h.2 i hi
  | (.cell _ _, _, _) :: r, ms, h, i, hi => slotsIn_plcs (l := r) h i (by simpa [plcs] using hi)

theorem Same.nil {t t' : List SV} (h : Same [] t t') : t' = t := List.ext_getElem? fun i => h.2 i (by simp)

theorem swpCap_mono {cap : List SV} {k k' : List SV → List SObj → List (Option SObj) → Prop} (hm : ∀ a b c, k a b c → k' a b c) (hk : swpCap t o cap k) : swpCap t o cap k' := by
  unfold swpCap at *
  split at hk
  · exact hk
  · rw [forceVs_eq] at *
    unfold swpCap.go at *
    split at hk
    · exact hk
    · split at hk
      · exact hk
      · simp only [nrmKs_eq, nrmBs_eq, maskK_eq] at *
        exact hm _ _ _ hk

theorem swp_mono : ∀ (code : Code) (c : Cfg) (t : List SV) (o : List (Option SObj)) (h : Hp) (K K' : SX → SK), (∀ x t' o' h', Same (mods code) t t' → HLe h h' → K x t' o' h' → K' x t' o' h') → swp P c code t o h K → swp P c code t o h K'
  | .skip, c, t, o, h, K, K', hm, hk => hm _ _ _ _ (Same.refl _ _) (HLe.refl _) hk
  | .label _, c, t, o, h, K, K', hm, hk => hm _ _ _ _ (Same.refl _ _) (HLe.refl _) hk
  | .ret, c, t, o, h, K, K', hm, hk => hm _ _ _ _ (Same.refl _ _) (HLe.refl _) hk
  | .exit id, c, t, o, h, K, K', hm, hk => hm _ _ _ _ (Same.refl _ _) (HLe.refl _) hk
  | .region id ops false, c, t, o, h, K, K', hm, hk => sops_mono _ _ _ _ (fun t' o' h' hs hl hk => hm _ _ _ _ (by rw [mods_region]; exact hs) hl hk) hk
  | .region id ops true, c, t, o, h, K, K', hm, hk => by
    rw [swp_draw_eq] at hk ⊢
    unfold drawC at *
    split at hk
    · rw [drawD_eq] at hk ⊢
      split at hk
      · exact hk
      · split at hk
        · exact ⟨hk.1, sopsQ_mono _ _ _ _ (fun t' o' h' hs hl hk => hm _ _ _ _ (by rw [mods_region]; exact hs) hl hk) hk.2⟩
        · rename_i n _
          refine ⟨hk.1, sopsQ_mono _ _ _ _ (fun t' o' h' hs hl hk => sops_mono _ _ _ _ (fun t'' o'' h'' hs' hl' hk => hm _ _ _ _ ?_ (hl.trans hl') hk) hk) hk.2⟩
          have := hs.trans hs'
          rw [← List.filterMap_append, List.take_append_drop] at this
          rw [mods_region]; exact this
    · split at hk
      · exact hk
      · exact pullC_mono (fun x t' o' h' hs hl hk => hm x _ _ _ (by rw [mods_region]; exact hs) hl hk) hk
  | .seq a b, c, t, o, h, K, K', hm, hk => by
    have ma : ∀ {t t'}, Same (mods a) t t' → Same (mods (.seq a b)) t t' := fun h => h.mono (fun i hi => by rw [mods_seq]; exact List.mem_append_left _ hi)
    have mb : ∀ {t t' t''}, Same (mods a) t t' → Same (mods b) t' t'' → Same (mods (.seq a b)) t t'' := fun h1 h2 => by rw [mods_seq]; exact h1.trans h2
    rw [swp_seq_eq] at hk ⊢
    split at hk
    · refine swp_mono a c t o h _ _ (fun x t' o' h' hs hl' hk => ?_) hk
      cases x with
      | normal => exact swp_mono b c t' o' h' _ _ (fun x t'' o'' h'' hs' hl'' hk => hm _ _ _ _ (mb hs hs') (hl'.trans hl'') hk) hk
      | exit id => exact hm _ _ _ _ (ma hs) hl' hk
      | ret => exact hm _ _ _ _ (ma hs) hl' hk
    · rename_i an _
      split at hk
      · exact hk
      · rename_i hsl
        simp only [havocK_eq, refillK_eq, forceOs_eq] at *
        obtain ⟨J, h1, h2⟩ := hk
        refine ⟨J, swp_mono a c t o h _ _ (fun x t' o' h' hs hl' hk => ?_) h1, fun vs o' h' hl hj => swp_mono b c _ _ _ _ _ (fun x t'' o'' h'' hs' hl'' hk => hm _ _ _ _ (mb (Same.head hsl t vs) hs') (hl.trans hl'') hk) (h2 vs o' h' hl hj)⟩
        cases x with
        | normal => exact hk
        | exit id => exact hm _ _ _ _ (ma hs) hl' hk
        | ret => exact hm _ _ _ _ (ma hs) hl' hk
  | .cond x a b, c, t, o, h, K, K', hm, hk => by
    have m1 : ∀ {t t'}, Same (mods a) t t' → Same (mods (.cond x a b)) t t' := fun h => h.mono (fun i hi => by rw [mods_cond]; simp [hi])
    have m2 : ∀ {t t'}, Same (mods b) t t' → Same (mods (.cond x a b)) t t' := fun h => h.mono (fun i hi => by rw [mods_cond]; simp [hi])
    rw [swp_cond_eq] at hk ⊢
    split at hk
    · exact swp_mono a c t o h _ _ (fun x t' o' h' hs hl hk => hm _ _ _ _ (m1 hs) hl hk) hk
    · exact swp_mono b c t o h _ _ (fun x t' o' h' hs hl hk => hm _ _ _ _ (m2 hs) hl hk) hk
    · refine ⟨fun hv => putC_mono (fun t' hs hk => swp_mono a c t' o h _ _ (fun x t'' o' h' hs' hl hk => hm _ _ _ _ ((hs.trans hs').mono ?_) hl hk) hk) (hk.1 hv), fun hv => putC_mono (fun t' hs hk => swp_mono b c t' o h _ _ (fun x t'' o' h' hs' hl hk => hm _ _ _ _ ((hs.trans hs').mono ?_) hl hk) hk) (hk.2 hv)⟩
      · intro i hi
        simp only [List.mem_append] at hi
        rw [mods_cond]; simp only [List.mem_append]
        exact hi.elim .inl (fun h => .inr (.inl h))
      · intro i hi
        simp only [List.mem_append] at hi
        rw [mods_cond]; simp only [List.mem_append]
        exact hi.elim .inl (fun h => .inr (.inr h))
    · exact hk
  | .block id b, c, t, o, h, K, K', hm, hk => by
    rw [swp_block_eq] at hk ⊢
    refine swp_mono b c t o h _ _ (fun x t' o' h' hs hl' hk => ?_) hk
    cases x with
    | normal => exact hm _ _ _ _ hs hl' hk
    | ret => exact hm _ _ _ _ hs hl' hk
    | exit id' =>
      simp only at hk ⊢
      split at hk
      · exact hm _ _ _ _ hs hl' hk
      · exact hm _ _ _ _ hs hl' hk
  | .loop b, c, t, o, h, K, K', hm, hk => by
    rw [swp_loop_eq] at hk ⊢
    split at hk
    · exact hk
    · rename_i an _
      split at hk
      · exact hk
      · rename_i hsl
        refine retagK_mono an.lists t o (fun t1 o1 hs1 hk => ?_) hk
        split at hk
        · exact hk
        · rename_i hin
          simp only [Bool.and_eq_true] at hin
          have hs1 : Same (mods b) t t1 := hs1.mono (slotsIn_plcs hin.1)
          simp only [havocK_eq, refillK_eq, forceOs_eq] at *
          obtain ⟨J, m, h1, h2⟩ := hk
          refine ⟨J, m, h1, fun vs o1 h1' hl hj => swp_mono b c _ _ _ _ _ (fun x t' o' h' hs hl' hk => ?_) (h2 vs o1 h1' hl hj)⟩
          have hs' : Same (mods b) t t' := ((hs1.trans (Same.head hsl t1 vs)).trans hs).mono (by simp)
          cases x with
          | normal => exact hk
          | exit id => exact hm _ _ _ _ hs' (hl.trans hl') hk
          | ret => exact hm _ _ _ _ hs' (hl.trans hl') hk
  | .rangeFunc g ps assign body, c, t, o, h, K, K', hm, hk => by
    rw [swp_range_eq] at hk ⊢
    split at hk
    · exact hk
    · split at hk
      · generalize listsOf c assign body = lists at *
        split at hk
        · exact hk
        · rename_i hsl
          refine retagK_mono lists t o (fun t1 o1 hs1 hk => ?_) hk
          rw [slotless_plcs hsl] at hs1
          refine swpCap_mono (fun ccap objs om hk => ?_) hk
          obtain ⟨A, encs, N, S, Sp, hI, J, h0, hr, he⟩ := hk
          refine ⟨A, encs, N, S, Sp, hI, J, h0, fun pre x o2 h1 hl hN hsp hj => ?_, fun xs o2 h1 hl hS hj => ?_⟩
          · have hk := hr pre x o2 h1 hl hN hsp hj
            simp only [forceVs_eq] at hk ⊢
            split at hk
            · exact hk
            · simp only [refillK_eq, forceOs_eq] at hk ⊢
              refine swp_mono assign _ _ _ _ _ _ (fun z t3 o3 h3 _ hl3 hk => ?_) hk
              cases z with
              | normal =>
                refine swp_mono body _ _ _ _ _ _ (fun z t' o' h' _ hl4 hk => ?_) hk
                cases z with
                | normal => exact hk
                | exit id => exact hm _ _ _ _ hs1 ((hl.trans hl3).trans hl4) hk
                | ret => exact hm _ _ _ _ hs1 ((hl.trans hl3).trans hl4) hk
              | exit id => exact hk
              | ret => exact hk
          · have hk := he xs o2 h1 hl hS hj
            rw [forceOs_eq] at hk ⊢
            exact hm _ _ _ _ hs1 hl hk
      · exact hk
  | .scope b, c, t, o, h, K, K', hm, hk => by
    rw [swp_scope_eq] at hk ⊢
    exact swp_mono b c t o h K K' (fun x t' o' h' hs hl hk => hm x t' o' h' hs hl hk) hk
  | .goto _, _, _, _, _, _, _, _, hk => hk.elim
  | .refuse _, _, _, _, _, _, _, _, hk => hk.elim

/-- A piece of code's own frame, put beside what goes on. -/
theorem swp_same {code : Code} {K : SX → SK} (hk : swp P c code t o h K) : swp P c code t o h (fun x t' o' h' => K x t' o' h' ∧ Same (mods code) t t' ∧ HLe h h') :=
  swp_mono code c t o h _ _ (fun _ _ _ _ hs hl hk => ⟨hk, hs, hl⟩) hk
end Go.Pw
