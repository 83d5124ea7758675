/-
  A verification-condition generator for Go's IR. Part m: ranges over functions.
-/
import Derived.Test.YtdpoebadaomfgaaVk
import Derived.RangeFuncWrites
set_option linter.unusedSimpArgs false
set_option linter.unusedVariables false
namespace Go.Pw
open Go Go.RowKit
variable {G : Base} {e : Env} {t : List SV} {o : List (Option SObj)} {h : Hp} {a : Act} {w : World} {P : Program} {c : Cfg} {gs : List Nat}

abbrev mark (D : Nat) : Deferred := { target := .collected D, args := #[] }

/-- The state, and all that it rests on lies within B. -/
structure Sup (G : Base) (ds : List Deferred) (e : Env) (o : List (Option SObj)) (h : Hp) (B : Nat → Prop) (w : World) : Prop where
  wok : WOk G ds e o h w
  lv : ∀ (t : Nat) x, o[t]? = some (some x) → live e t x → B (e.blk t)
  hb : ∀ b x, h b = some x → B b
  fr : ∀ k, k < G.w.heap.size → ¬ G.M k → B k
  pb : ∃ BG, PRb G ds e o h w BG ∧ ∀ k, BG k → B k
  mks : ∀ d ∈ ds, ∃ D, d = mark D ∧ B D
  lt : ∀ k, B k → k < w.heap.size

theorem SameB.sub {B B' : Nat → Prop} {w w' : World} (h : SameB B w w') (hB : ∀ k, B' k → B k) : SameB B' w w' := ⟨h.os, h.tape, h.output, h.size, fun k hk => h.block k (hB k hk)⟩

theorem Sup.stable {ds : List Deferred} {B : Nat → Prop} {w' : World} (S : Sup G ds e o h B w) (hs : SameB B w w') : Sup G ds e o h B w' := by
  obtain ⟨BG, p, hBG⟩ := S.pb
  have hw := S.wok
  have pb : PRb G ds e o h w' BG := by
    refine ⟨fun t s xs ht w'' hw' => p.inv t s xs ht w'' ((hs.sub hBG).trans hw'), p.one, p.lv, fun k hk => Nat.lt_of_lt_of_le (p.lt k hk) hs.size, p.hb, p.ow, p.rd, p.nd, fun d hd => ?_⟩
    obtain ⟨D, q1, q2, q3, q4, q5, q6⟩ := p.ds d hd
    obtain ⟨D', k1, k2⟩ := S.mks d hd
    obtain rfl : D = D' := by rw [q1] at k1; simpa [mark] using k1
    exact ⟨D, q1, q2, q3, (hs.block D k2).trans q4, q5, q6⟩
  refine ⟨{ hh := fun b x hx => (hs.block b (S.hb b x hx)).trans (hw.hh b x hx), ob := fun i x hi => objOk_agr (Agr.refl _ _) (Nat.le_refl _) (idx_lt hi) (hw.ob i x hi) (fun hl => hs.block _ (S.lv i x hi hl)), sep := hw.sep, hn := hw.hn, frm := ?_, own := hw.own, hle := hw.hle, hnew := hw.hnew, agr := hw.agr, pr := ⟨BG, pb⟩ }, S.lv, S.hb, S.fr, ⟨BG, pb, hBG⟩, S.mks, fun k hk => Nat.lt_of_lt_of_le (S.lt k hk) hs.size⟩
  exact ⟨hs.os.trans hw.frm.os, hs.tape.trans hw.frm.tape, hs.output.trans hw.frm.output, Nat.le_trans hw.frm.size hs.size, fun k hk hm => (hs.block k (S.fr k hk hm)).trans (hw.frm.block k hk hm)⟩

/-- The base of a part of a round. -/
def Base.part (G : Base) (ds : List Deferred) (B : Nat → Prop) (m : Nat) (e : Env) (w : World) : Base :=
  { G with w := w, M := fun k => B k ∧ (∀ d ∈ ds, d ≠ mark k) ∧ (G.M k ∨ G.w.heap.size ≤ k), e := e, nk := m, rd := true }

theorem Sup.enter {ds : List Deferred} {B : Nat → Prop} (S : Sup G ds e o h B w) (m : Nat) : WOk (G.part ds B m e w) [] e o h w := by
  obtain ⟨BG, p, hBG⟩ := S.pb
  have hw := S.wok
  refine { hh := hw.hh, ob := hw.ob, sep := hw.sep, hn := hw.hn, frm := Frm.refl _ _, own := fun i x hi hx => ?_, hle := hw.hle, hnew := fun b x hx => ?_, agr := fun _ _ => ⟨rfl, rfl⟩, pr := ⟨BG, p.inv, p.one, p.lv, p.lt, p.hb, fun k hk => ?_, fun _ => rfl, List.nodup_nil, fun d hd => by cases hd⟩ }
  · refine .inl ⟨S.lv i x hi hx, fun d hd he => ?_, hw.own i x hi hx⟩
    obtain ⟨D, q1, _, _, _, q5, _⟩ := p.ds d hd
    exact q5 i x hi hx (by rw [he] at q1; simpa [mark] using q1)
  · rcases hw.hnew b x hx with h1 | h1
    · exact .inl h1
    · refine .inr (.inl ⟨S.hb b x hx, fun d hd he => ?_, h1⟩)
      obtain ⟨D, q1, _, _, _, _, q6⟩ := p.ds d hd
      obtain rfl : b = D := by rw [he] at q1; simpa [mark] using q1
      rw [q6] at hx; cases hx
  · refine .inl ⟨hBG k hk, fun d hd he => ?_, p.ow k hk⟩
    obtain ⟨D, q1, q2, _⟩ := p.ds d hd
    obtain rfl : k = D := by rw [he] at q1; simpa [mark] using q1
    exact q2 hk

theorem Sup.leave {ds ds' : List Deferred} {B : Nat → Prop} {m : Nat} {e3 : Env} {o3 : List (Option SObj)} {h3 : Hp} {w3 : World} (S : Sup G ds e o h B w) (hm : G.nk ≤ m) (W : WOk (G.part ds B m e w) ds' e3 o3 h3 w3) :
    Sup G ds e3 o3 h3 (fun k => B k ∨ (w.heap.size ≤ k ∧ k < w3.heap.size)) w3 ∧ SameB (fun k => k < w.heap.size ∧ ¬ B k) w w3 := by
  obtain ⟨BG, p, hBG⟩ := S.pb
  have hw := S.wok
  have hsz : w.heap.size ≤ w3.heap.size := W.frm.size
  have hgs : G.w.heap.size ≤ w.heap.size := hw.frm.size
  have hM : ∀ k, (G.part ds B m e w).M k → B k ∧ (∀ d ∈ ds, d ≠ mark k) ∧ (G.M k ∨ G.w.heap.size ≤ k) := fun k hk => hk
  have own : ∀ (i : Nat) x, o3[i]? = some (some x) → live e3 i x → (G.part ds B m e w).M (e3.blk i) ∨ w.heap.size ≤ e3.blk i := W.own
  have hnew : ∀ b x, h3 b = some x → G.h b = some x ∨ (G.part ds B m e w).M b ∨ w.heap.size ≤ b := W.hnew
  have blk : ∀ k, k < w.heap.size → ¬ (G.part ds B m e w).M k → w3.heap[k]? = w.heap[k]? := W.frm.block
  obtain ⟨BG', p'⟩ := W.pr
  have ow' : ∀ k, BG' k → (G.part ds B m e w).M k ∨ w.heap.size ≤ k := p'.ow
  have pb : PRb G ds e3 o3 h3 w3 BG' := by
    refine ⟨p'.inv, p'.one, p'.lv, p'.lt, p'.hb, fun k hk => (ow' k hk).elim (fun h1 => (hM k h1).2.2) (fun h1 => .inr (Nat.le_trans hgs h1)), p.rd, p.nd, fun d hd => ?_⟩
    obtain ⟨D, q1, q2, q3, q4, q5, q6⟩ := p.ds d hd
    have hD : D < w.heap.size := (Array.getElem?_eq_some_iff.1 q4).1
    have nM : ¬ (G.part ds B m e w).M D := fun h1 => (hM D h1).2.1 d hd q1
    refine ⟨D, q1, fun h1 => (ow' D h1).elim nM (fun h2 => by omega), q3, (blk D hD nM).trans q4, fun i x hi hx he => ?_, ?_⟩
    · rcases own i x hi hx with h1 | h1
      · exact nM (he ▸ h1)
      · omega
    · cases hq : h3 D with
      | none => rfl
      | some x =>
        rcases hnew D x hq with h1 | h1 | h1
        · have := hw.hle D x h1; rw [q6] at this; cases this
        · exact absurd h1 nM
        · omega
  refine ⟨⟨{ hh := W.hh, ob := W.ob, sep := W.sep, hn := W.hn, frm := ?_, own := fun i x hi hx => (own i x hi hx).elim (fun h1 => (hM _ h1).2.2) (fun h1 => .inr (Nat.le_trans hgs h1)), hle := W.hle, hnew := fun b x hx => ?_, agr := fun i hi => ?_, pr := ⟨BG', pb⟩ }, fun i x hi hx => ?_, fun b x hx => ?_, fun k hk hmk => .inl (S.fr k hk hmk), ⟨BG', pb, fun k hk => ?_⟩, fun d hd => ?_, fun k hk => ?_⟩, ?_⟩
  · refine ⟨W.frm.os.trans hw.frm.os, W.frm.tape.trans hw.frm.tape, W.frm.output.trans hw.frm.output, Nat.le_trans hgs hsz, fun k hk hmk => ?_⟩
    rw [blk k (Nat.lt_of_lt_of_le hk hgs) (fun h1 => (hM k h1).2.2.elim hmk (fun h2 => by omega))]
    exact hw.frm.block k hk hmk
  · rcases hnew b x hx with h1 | h1 | h1
    · exact .inl h1
    · exact .inr (hM b h1).2.2
    · exact .inr (.inr (Nat.le_trans hgs h1))
  · have h1 : e3.blk i = e.blk i ∧ e3.loc i = e.loc i := W.agr i (by show i < m; omega)
    rw [h1.1, h1.2]; exact hw.agr i hi
  · rcases own i x hi hx with h1 | h1
    · exact .inl (hM _ h1).1
    · exact .inr ⟨h1, ob_lt (W.ob i x hi) hx⟩
  · rcases hnew b x hx with h1 | h1 | h1
    · exact .inl (S.hb b x (hw.hle b x h1))
    · exact .inl (hM b h1).1
    · exact .inr ⟨h1, (Array.getElem?_eq_some_iff.1 (W.hh b x hx)).1⟩
  · rcases ow' k hk with h1 | h1
    · exact .inl (hM k h1).1
    · exact .inr ⟨h1, p'.lt k hk⟩
  · obtain ⟨D, h1, h2⟩ := S.mks d hd
    exact ⟨D, h1, .inl h2⟩
  · rcases hk with hk | hk
    · exact Nat.lt_of_lt_of_le (S.lt k hk) hsz
    · exact hk.2
  · exact ⟨W.frm.os, W.frm.tape, W.frm.output, hsz, fun k hk => blk k hk.1 (fun h1 => hk.2 (hM k h1).1)⟩

end Go.Pw
