/-
  A verification-condition generator for Go's IR. Part h: regions.
-/
import Derived.Test.YtdpoebadaomfgaaVl
import Derived.Sort.QuietThIn
set_option linter.unusedSimpArgs false
set_option linter.unusedVariables false
namespace Go.Pw
open Go Go.RowKit
variable {G : Base} {e : Env} {t : List SV} {o : List (Option SObj)} {h : Hp} {a : Act} {w : World} {P : Program} {c : Cfg} {gs : List Nat} {K : SK}

theorem noJunk_append {l r : List SV} : noJunk (l ++ r) = (noJunk l && noJunk r) := by
  induction l with
  | nil => rfl
  | cons x xs ih => cases x <;> simp [noJunk, ih]
theorem noJunk_bel {n : Nat} {l : List SV} (h : belL n l = true) : noJunk l = true := by
  induction l with
  | nil => rfl
  | cons x xs ih =>
    simp only [belL, Bool.and_eq_true] at h
    cases x <;> first | simpa [noJunk] using ih h.2 | simp [bel] at h

/-- The arguments of a call, read. -/
theorem args_den (hT : TOk e o.length t a.tmps) {f : Operand} {k : FuncId} {first captured : List SV} (hf : ev t f = .func (.func k) first captured) (args : Array Operand)
    (hj : noJunk (first ++ args.toList.map (ev t) ++ captured) = true) :
    a.eval f = .func (.func k) (denL e first).toArray (denL e captured).toArray ∧
    ((denL e first).toArray ++ args.map a.eval) ++ (denL e captured).toArray = (denL e (first ++ args.toList.map (ev t) ++ captured)).toArray ∧
    belL o.length (first ++ args.toList.map (ev t) ++ captured) = true := by
  have h0 := ev_sat hT f
  rw [hf] at h0
  have h1 := h0.eq (by simp)
  have h2 := h0.bel (by simp)
  simp only [bel, Bool.and_eq_true] at h2
  rw [noJunk_append, noJunk_append] at hj
  simp only [Bool.and_eq_true] at hj
  obtain ⟨h3, h4⟩ := SatL_den hT args.toList hj.1.2
  have e1 : args.map a.eval = (denL e (args.toList.map (ev t))).toArray := by rw [← h3]; obtain ⟨l⟩ := args; simp
  refine ⟨h1, ?_, ?_⟩
  · rw [e1, denL_eq, denL_eq, denL_eq, denL_eq]; simp
  · simp only [belL_eq, List.all_append, Bool.and_eq_true] at *
    exact ⟨⟨h2.1, h4⟩, h2.2⟩

theorem run_call {p : Oper} {f : Operand} {args : Array Operand} {ats : Array TypeId} (hp : p.op = .call { callee := .value f, args, argTypes := ats }) {k : FuncId} {x y : Array Value} (hf : a.eval f = .func (.func k) x y)
    (hc : ∀ as w, (callFunc k as).run P w = .ok (.enter k as) w) : (execOp a.eval p).run P w = .ok (.enter k ((x ++ args.map a.eval) ++ y)) w := by
  simp only [execOp, hp, resolve, hf, Deferred.ofValue, pure_bind, invoke, hc]

theorem sCall_sound {r : Option Nat} {n : Nat} {p : Oper} {next : Act → World → Prop} {Q : Exit → Act → World → Prop} (hr : Rel G e t o h a w) (hn : Nxt G K next) {f : Operand} {args : Array Operand} {ats : Array TypeId}
    (hp : p.op = .call { callee := .value f, args, argTypes := ats }) {k : FuncId} {first captured : List SV} (hf : ev t f = .func (.func k) first captured)
    (hk : sCall P gs k (first ++ args.toList.map (ev t) ++ captured) p.dst t o h K) : p.wpIn (FW r) n P a w next Q := by
  unfold sCall at hk
  split at hk
  · exact hk.elim
  · rename_i hj
    obtain ⟨h1, h2, h3⟩ := args_den hr.tok hf args hj
    rw [forceVs_eq] at hk
    generalize first ++ args.toList.map (ev t) ++ captured = as at *
    generalize reach o 60 (tagsL as) [] = ts at hk
    unfold sCall.sCallT at hk
    split at hk
    · exact hk.elim
    · rename_i hc
      simp only [Bool.and_eq_true] at hc
      split at hk
      · exact hk.elim
      · rename_i objs hh
        simp only [nrmKs_eq, nrmBs_eq, forceOs_eq] at hk
        obtain ⟨post, hspec, hK⟩ := hk
        have hnd := nodupB_spec hc.2
        have htags : ∀ t ∈ tagsL as, t ∈ ts := fun t ht => by simpa using List.all_eq_true.1 hc.1 t ht
        have hw := entry_ok hr hnd hh
        have hcall := hspec.2 _ w hw
        have harg : (denL (e.comp (bk ts o.length)) (nrmL (renL ts.idxOf as))).toArray = (denL e as).toArray := by
          rw [denL_nrm, denL_ren, denL_tags (e' := e) as (fun t ht => by simp [Env.comp, bk_idx (htags t ht)])]
        rw [harg] at hcall
        refine upon_of_run (by intro c; rw [hp]; simp) (run_call hp h1 hspec.1) ?_
        rw [h2]
        refine ⟨fun hd => by simp [FW, Fence.wide] at hd, callsIn_FW (hcall.mono ?_)⟩
        rintro en w' ⟨e', sv, o', h', rfl, hb, hlo, hpost, hw'⟩
        obtain ⟨e3, hden, hr', hle⟩ := exit_ok hr hnd hh (by simpa using hlo) hw'
        obtain ⟨hlen, _⟩ := handed_spec hh
        have hsat : Sat e3 (updO ts o.length o' 0 o).length (ren (bk ts o.length) sv) (den e' sv) := by
          refine .inr ⟨(hden sv).symm, bel_ren sv hb (fun i hi => ?_)⟩
          have hi' := tags_lt sv hb i hi
          rw [updO_length]
          by_cases h1 : i < ts.length
          · rw [bk_lt h1]
            obtain ⟨x, h2, _⟩ := (handed_spec hh).2 i ts[i] (by simp [h1])
            have := idx_lt h2
            omega
          · rw [bk_ge (by omega)]; omega
        obtain ⟨t', hk', hr''⟩ := hr'.putG (hK sv o' h' hle hpost) hsat
        exact hn _ _ _ _ _ _ hk' hr''

/-- The generator's words on yield are those of the base. -/
structure YCfg (P : Program) (G : Base) (c : Cfg) : Prop where
  ok : YOk P G
  yl : c.yl = G.yl
  yok : c.yok = G.yok
  yN : c.yN = G.yN
  rd : c.round = G.rd

theorem findGhost_some : ∀ {o : List (Option SObj)} {n tag : Nat} {s : Bool} {xs : List (List SV)}, findGhost o n = some (tag, s, xs) → n ≤ tag ∧ o[tag - n]? = some (some (.ghost s xs))
  | [], n, tag, s, xs, h => by simp [findGhost] at h
  | x :: r, n, tag, s, xs, h => by
    unfold findGhost at h
    split at h
    · cases ‹_ = _›
    · rename_i heq
      obtain ⟨rfl, rfl⟩ := List.cons.inj heq
      simp at h
      obtain ⟨rfl, rfl, rfl⟩ := h
      exact ⟨Nat.le_refl _, by simp⟩
    · rename_i heq
      obtain ⟨rfl, rfl⟩ := List.cons.inj heq
      have h12 := findGhost_some h
      refine ⟨by omega, ?_⟩
      have h1 := h12.1
      have h2 := h12.2
      revert h2
      intro h2
      have e9 : ∀ k : Nat, k + 1 ≤ tag → tag - k = (tag - (k + 1)) + 1 := fun k hk => by omega
      rw [e9 _ h1]
      simpa using h2

/-- The world behind a yield. -/
theorem Rel.yielded (hr : Rel G e t o h a w) {tag : Nat} {xs : List (List SV)} (hg : o[tag]? = some (some (.ghost false xs))) {B B' : Nat → Prop} {w' : World} {s' : Bool} {xs' : List (List SV)} (p : PRb G a.defers e o h w B)
    (hinv : ∀ w'', SameB B' w' w'' → G.inv s' xs' B' w'') (hBB : ∀ k, B' k → k < w'.heap.size ∧ (B k ∨ w.heap.size ≤ k)) (hs : SameB (fun k => k < w.heap.size ∧ (¬ B k ∨ G.h k ≠ none)) w w') :
    Rel G e t (o.set tag (some (.ghost s' xs'))) h a w' := by
  obtain ⟨hT, hw, hkl⟩ := hr
  have hlt := idx_lt hg
  have hlv : ∀ (i : Nat) x, (o.set tag (some (.ghost s' xs')))[i]? = some (some x) → live e i x → o[i]? = some (some x) := fun i x hi hx => by
    rcases set_get hlt hi with ⟨rfl, rfl⟩ | ⟨_, h⟩
    · exact hx.elim
    · exact h
  have hsame : ∀ (i : Nat) x, o[i]? = some (some x) → live e i x → w'.heap[e.blk i]? = w.heap[e.blk i]? := fun i x hi hx => hs.block _ ⟨live_lt hw hi hx, .inl (p.lv i x hi hx)⟩
  have hhs : ∀ b x, h b = some x → w'.heap[b]? = some x := fun b x hx => by
    have h1 := hw.hh b x hx
    rw [hs.block b ⟨(Array.getElem?_eq_some_iff.1 h1).1, or_map (p.hb b x hx).symm (fun hq => by rw [hq]; simp)⟩]; exact h1
  refine ⟨by simpa using hT, { hh := hhs, ob := fun i x hi => ?_, sep := fun i j x y hi hj hx hy => hw.sep i j x y (hlv i x hi hx) (hlv j y hj hy) hx hy, hn := fun i x hi hx => hw.hn i x (hlv i x hi hx) hx, frm := ?_, own := fun i x hi hx => hw.own i x (hlv i x hi hx) hx, hle := hw.hle, hnew := hw.hnew, agr := hw.agr, pr := ?_ }, by simpa using hkl⟩
  · rw [List.length_set]
    rcases set_get hlt hi with ⟨rfl, rfl⟩ | ⟨_, hi'⟩
    · trivial
    · exact objOk_agr (Agr.refl _ _) (Nat.le_refl _) (idx_lt hi') (hw.ob i x hi') (fun hl => hsame i x hi' hl)
  · refine ⟨hs.os.trans hw.frm.os, hs.tape.trans hw.frm.tape, hs.output.trans hw.frm.output, Nat.le_trans hw.frm.size hs.size, fun k hk hm => ?_⟩
    have hlt' := Nat.lt_of_lt_of_le hk hw.frm.size
    rw [hs.block k ⟨hlt', .inl (fun hB => (p.ow k hB).elim hm (fun hge => by omega))⟩]
    exact hw.frm.block k hk hm
  · have only : ∀ (i : Nat) s ys, (o.set tag (some (.ghost s' xs')))[i]? = some (some (.ghost s ys)) → i = tag ∧ s = s' ∧ ys = xs' := fun i s ys hi => by
      rcases set_get hlt hi with ⟨rfl, hq⟩ | ⟨hne, hi'⟩
      · cases hq; exact ⟨rfl, rfl, rfl⟩
      · exact absurd (p.one i tag s false ys xs hi' hg) hne
    refine ⟨B', fun i s ys hi w'' hw'' => ?_, fun i j s s2 ys ys2 hi hj => (only i s ys hi).1.trans (only j s2 ys2 hj).1.symm, fun i x hi hx hB' => ?_, fun k hk => (hBB k hk).1, fun b x hx => ?_, fun k hk => (hBB k hk).2.elim (p.ow k) (fun hge => .inr (Nat.le_trans hw.frm.size hge)), p.rd, p.nd, fun d hd => ?_⟩
    · obtain ⟨rfl, rfl, rfl⟩ := only i s ys hi
      exact hinv w'' hw''
    · rcases (hBB _ hB').2 with hB | hge
      · exact p.lv i x (hlv i x hi hx) hx hB
      · have := live_lt hw (hlv i x hi hx) hx; omega
    · rcases p.hb b x hx with hq | hq
      · exact .inl hq
      · refine .inr (fun hB' => ?_)
        rcases (hBB _ hB').2 with hB | hge
        · exact hq hB
        · have := (Array.getElem?_eq_some_iff.1 (hw.hh b x hx)).1; omega
    · obtain ⟨Dn, q1, q2, q3, q4, q5, q6⟩ := p.ds d hd
      have hD : Dn < w.heap.size := (Array.getElem?_eq_some_iff.1 q4).1
      refine ⟨Dn, q1, fun hB' => ?_, q3, (hs.block Dn ⟨hD, .inl q2⟩).trans q4, fun i x hi hx => q5 i x (hlv i x hi hx) hx, q6⟩
      rcases (hBB _ hB').2 with hB | hge
      · exact q2 hB
      · omega

theorem noTags_den {l : List SV} (h : tagsL l = []) (e e' : Env) : denL e l = denL e' l := denL_tags l (fun t ht => by rw [h] at ht; cases ht)
theorem bel0_tags {v : SV} (h : bel 0 v = true) : ∀ t, t ∉ tags v := fun t ht => by have := tags_lt v h t ht; omega

theorem belL0_tags {l : List SV} (h : belL 0 l = true) : tagsL l = [] := by
  cases hq : tagsL l with
  | nil => rfl
  | cons t r => have := tagsL_lt l h t (by rw [hq]; simp); omega

theorem sYield_sound {r : Option Nat} {n : Nat} {p : Oper} {next : Act → World → Prop} {Q : Exit → Act → World → Prop} (hc : YCfg P G c) (hr : Rel G e t o h a w) (hn : Nxt G K next) {f : Operand} {args : Array Operand} {ats : Array TypeId}
    (hp : p.op = .call { callee := .value f, args, argTypes := ats }) {l : Nat} (hf : ev t f = .func (.yield l) [] [])
    (hk : sYield c l (args.toList.map (ev t)) p.dst t o h K) : p.wpIn (FW r) n P a w next Q := by
  unfold sYield at hk
  split at hk
  · exact hk.elim
  · rename_i hb
    rw [nrmKs_eq] at hk
    split at hk
    · rename_i _ tag xs hg
      obtain ⟨rfl, hok, hN, hk1, hk2⟩ := hk
      have ho := (findGhost_some hg).2
      rw [Nat.sub_zero] at ho
      obtain ⟨B, pb⟩ := hr.wok.pr
      rw [hc.yok] at hok
      rw [hc.yN] at hN
      have hy := hc.ok (n - 1) xs _ B w (fun w' hw' => pb.inv tag false xs ho w' hw') hok hN pb.lt (fun b x hx => hr.wok.hh b x (hr.wok.hle b x hx))
      obtain ⟨fn, tmps, assign, body, hrun, hround⟩ := hy
      obtain ⟨h1, _⟩ := SatL_den hr.tok args.toList (noJunk_bel hb)
      have e1 : args.map a.eval = (denL e0 (nrmL (args.toList.map (ev t)))).toArray := by
        rw [denL_nrm, ← noTags_den (e := e) (e' := e0) (belL0_tags hb), ← h1]; obtain ⟨l⟩ := args; simp
      have h2 := (ev_sat hr.tok f).eq (by rw [hf]; simp)
      rw [hf] at h2
      simp only [den, denL] at h2
      refine upon_of_run (x := .ok (.round c.yl fn tmps assign body) w) (by intro c; rw [hp]; simp) ?_ ?_
      · simp only [execOp, hp, resolve, h2, Deferred.ofValue, pure_bind, invoke]
        rw [hc.yl]
        simpa [e1] using hrun
      · refine ⟨fun hd => by simp [FW, Fence.wide] at hd, ?_⟩
        rw [hc.yl]
        refine RoundIn.mono (F := FW r) hround ?_
        rintro en w' ⟨b, B', rfl, hinv, _, hBB, hs⟩
        simp only [setK_eq] at hk1 hk2
        have hr' := hr.yielded ho pb hinv hBB hs
        cases b
        · obtain ⟨t', hk', hr''⟩ := hr'.put (u := .bool false) hk2 (.inr ⟨rfl, rfl⟩)
          exact hn _ _ _ _ _ _ hk' hr''
        · obtain ⟨t', hk', hr''⟩ := hr'.put (u := .bool true) hk1 (.inr ⟨rfl, rfl⟩)
          exact hn _ _ _ _ _ _ hk' hr''
    · exact hk.elim

theorem repCells_den {z : Value} {size len : Nat} (hz : z.cells.size = size) (hs : 0 < size) : (denL e (repCells z size len)).toArray = (Array.range (len * size)).map (fun j => z.cells[j % z.cells.size]!) ∧ belL 0 (repCells z size len) = true := by
  constructor
  · apply Array.ext'
    rw [denL_eq]
    simp only [repCells, List.map_map, Array.toList_map, Array.toList_range]
    apply List.map_congr_left
    intro j _
    have hj : j % size < z.cells.size := by rw [hz]; exact Nat.mod_lt _ hs
    simp only [Function.comp, den_ofC, hz]
    rw [List.getD_eq_getElem?_getD, Array.getElem?_toList, Array.getElem?_eq_getElem hj, getElem!_pos z.cells _ hj]
    rfl
  · rw [belL_eq, List.all_eq_true]
    intro x hx
    obtain ⟨j, _, rfl⟩ := List.mem_map.1 hx
    exact bel_ofC 0 _

theorem SlcRd.of_list (hr : Rel G e t o h a w) {tag : Nat} {ty : TypeId} {sz m : Nat} {ys : List Value} (ho : o[tag]? = some (some (.olist ty sz m ys))) : SlcRd w (den e (.loc tag)) m sz ys :=
  (show LAt w (e.blk tag) (e.loc tag) ty sz m ys from hr.wok.ob _ _ ho).rd

theorem SlcRd.of_data (hr : Rel G e t o h a w) {A : Option Addr} {m q sz : Nat} {ys : List Value} (hh : HSlc h A m sz ys) : SlcRd w (den e (.slc A m q)) m sz ys := by
  obtain ⟨h1, h2, ad, rfl, hsp, hq⟩ := hh
  refine ⟨h1, h2, .inr ⟨ad, q, rfl, fun j u hj => ?_⟩⟩
  rcases hq with rfl | ⟨cs, ty, fr, hb, hall⟩
  · obtain rfl := List.eq_nil_of_length_eq_zero (by simpa using h1); simp at hj
  · obtain ⟨b, off, sp⟩ := ad
    simp only at hsp; subst hsp
    rw [Addr.add_lit, cell_of_heap (hr.wok.hh _ _ hb)]
    exact hall j u hj

theorem sAppend_sound {r : Option Nat} {n : Nat} {p : Oper} {next : Act → World → Prop} {Q : Exit → Act → World → Prop} (hr : Rel G e t o h a w) (hn : Nxt G K next) {x y : Operand} {T elem : TypeId} {i : TypeInfo} {z : Value}
    (hp : p.op = .call { callee := .builtin .append, args := #[x, y], argTypes := #[T, T] }) (ht : P.underlying T = some (.slice elem)) (hi : P.info? elem = some i) (hz : i.zero = some z) (hzs : z.cells.size = i.size) (hsz : 0 < i.size)
    (hk : sAppend elem i.size i.bytes gs (ev t x) (ev t y) p.dst t o h K) : p.wpIn (FW r) n P a w next Q := by
  unfold sAppend at hk
  split at hk
  · exact hk.elim
  · rename_i tag n' xs hx
    have main : ∀ (m : Nat) (ys : List Value), SlcRd w (a.eval y) m i.size ys → AppOk i.bytes (n' + m) →
        putG gs p.dst (.loc o.length) t (kill o tag ++ [some (.olist elem i.size (n' + m) (xs ++ ys))]) h K → p.wpIn (FW r) n P a w next Q := fun m ys hy hok hk => by
      obtain ⟨_, _, _, _, hxj, _⟩ := appX_ok hr hx
      have hxv := (ev_sat hr.tok x).eq hxj
      obtain ⟨e', u, w', hrun, hu, hr'⟩ := hr.append (ty := p.type) ht hi hz hzs hsz hx hy hok
      obtain ⟨t', hk', hr''⟩ := hr'.putG hk (.inr ⟨hu.symm, by simp [bel, kill_length]⟩)
      refine upon_of_run (x := .ok (.value u) w') (by intro c; rw [hp]; simp) ?_ (hn _ _ _ _ _ _ hk' hr'')
      rw [← hxv] at hrun
      simp [execOp, hp, resolve, invoke, builtin, hrun, Result.andThen]
    have hkill : ∀ (K' : List (Option SObj) → Prop), killK o tag K' = K' (kill o tag) := fun K' => by rw [killK_eq]; rfl
    split at hk
    · rename_i tag2 hy
      have hyv := (ev_sat hr.tok y).eq (by rw [hy]; simp)
      rw [hy] at hyv
      split at hk
      · rename_i ty2 sz' m ys hg
        split at hk
        · rename_i hs
          obtain rfl := Nat.eq_of_beq_eq_true hs
          obtain ⟨hok, hk⟩ := hk
          rw [hkill, snocK_eq] at hk
          exact main m ys (by rw [hyv]; exact SlcRd.of_list hr (getList_some hg)) hok hk
        · exact hk.elim
      · exact hk.elim
    · rename_i A m q hy
      have hyv := (ev_sat hr.tok y).eq (by rw [hy]; simp)
      rw [hy] at hyv
      obtain ⟨ys, hh, hok, hk⟩ := hk
      rw [hkill, snocK_eq] at hk
      exact main m ys (by rw [hyv]; exact SlcRd.of_data hr hh) hok hk
    · exact hk.elim

theorem fill_size {place : Nat → Option (Nat × Nat)} : ∀ {l : List (Nat × Value)} {cells res : Array Value}, Instr.fill place cells l = some res → res.size = cells.size
  | [], cells, res, h => by simp [Instr.fill] at h; rw [h]
  | (i, v) :: l, cells, res, h => by
    unfold Instr.fill at h
    split at h
    · simp at h
    · split at h
      · simp at h
      · rw [fill_size h]
        rw [← Array.foldl_toList]
        generalize (v.cells.zipIdx).toList = q
        rename_i off _ _ _
        clear h
        have : ∀ (q : List (Value × Nat)) (cells : Array Value), (q.foldl (fun cs (p : Value × Nat) => cs.setIfInBounds (off + p.2) p.1) cells).size = cells.size := by
          intro q
          induction q with
          | nil => intro cells; rfl
          | cons x q ih => intro cells; simp only [List.foldl_cons]; rw [ih]; simp
        exact this q cells

theorem sop_sound {r : Option Nat} {n : Nat} {p : Oper} {next : Act → World → Prop} {Q : Exit → Act → World → Prop} (hc : YCfg P G c) (hr : Rel G e t o h a w) (hn : Nxt G K next) (hk : sop P c gs p.op p.dst t o h K) : p.wpIn (FW r) n P a w next Q := by
  unfold sop at hk
  have hd : ∀ c, p.op = .defer c → False := fun c hc => by rw [hc] at hk; simp [qop] at hk
  have hd' : ∀ c, p.op ≠ .defer c := fun c hc => hd c hc
  split at hk
  · rename_i v hv
    exact qop_sound (c := c) hr hn hd' (by rw [hv]; exact hk)
  · rename_i q v hv
    exact qop_sound (c := c) hr hn hd' (by rw [hv]; exact hk)
  · rename_i R hv
    exact qop_sound (c := c) hr hn hd' (by rw [hv]; exact hk)
  · split at hk
    · rename_i _ b x y hp
      split at hk
      · rename_i b' hb
        have h1 := ev_sat hr.tok b
        rw [hb] at h1
        have h2 := h1.eq (by simp)
        cases b'
        · obtain ⟨t', hk', hr'⟩ := hr.putG (hk.2 rfl) (ev_sat hr.tok y)
          exact upon_of_run hd' (x := .ok (.value (a.eval y)) w) (by simp only [execOp, hp, h2, den]; rfl) (hn _ _ _ _ _ _ hk' hr')
        · obtain ⟨t', hk', hr'⟩ := hr.putG (hk.1 rfl) (ev_sat hr.tok x)
          exact upon_of_run hd' (x := .ok (.value (a.eval x)) w) (by simp only [execOp, hp, h2, den]; rfl) (hn _ _ _ _ _ _ hk' hr')
      · exact hk.elim
    · rename_i _ elem hp
      split at hk
      · rename_i z hz
        simp only [forceVs_eq, snocK_eq] at hk
        obtain ⟨e', ha, hden, hr'⟩ := hr.alloc elem (zeroCells_bel o.length z)
        obtain ⟨t', hk', hr''⟩ := hr'.putG (u := .pointer (some ⟨w.heap.size, 0, none⟩)) hk (.inr ⟨hden.symm, by simp [bel]⟩)
        refine upon_of_run hd' (x := .ok (.value (.pointer (some ⟨w.heap.size, 0, none⟩))) (w.alloc (.cells (denL e (zeroCells z)).toArray elem))) ?_ (hn _ _ _ _ _ _ hk' hr'')
        rw [zeroCells_den]
        simp only [execOp, hp, Instr.alloc, Sem.run_bind, sZero_ok hz, Result.andThen_ok, newVar, newRow, run_newObj, Sem.run_pure]
        rfl
      · exact hk.elim
    · rename_i _ elem x hp
      split at hk
      · rename_i cs hc
        obtain ⟨hj, hcells, hbel⟩ := svc_cells (e := e) hc
        have h1 := ev_sat hr.tok x
        have h2 := h1.eq hj
        simp only [forceVs_eq, snocK_eq] at hk
        obtain ⟨e', ha, hden, hr'⟩ := hr.alloc elem (hbel _ (h1.bel hj))
        obtain ⟨t', hk', hr''⟩ := hr'.putG (u := .pointer (some ⟨w.heap.size, 0, none⟩)) hk (.inr ⟨hden.symm, by simp [bel]⟩)
        refine upon_of_run hd' (x := .ok (.value (.pointer (some ⟨w.heap.size, 0, none⟩))) (w.alloc (.cells (denL e cs).toArray elem))) ?_ (hn _ _ _ _ _ _ hk' hr'')
        have hcc : (denL e cs).toArray = (den e (ev t x)).cells := by rw [← hcells]
        rw [hcc, ← h2]
        simp only [execOp, hp, Instr.box, Sem.run_bind, newVar, newRow, run_newObj, Sem.run_pure, Result.andThen_ok]
        rfl
      · exact hk.elim
    · rename_i _ ty A x hp
      split at hk
      · rename_i tag off xs i hA hc hi
        split at hk
        · rename_i ty' cs hg
          split at hk
          · rename_i hcond
            simp only [Bool.and_eq_true] at hcond
            have g1 : xs.length = i.size := Nat.eq_of_beq_eq_true hcond.1.1
            have g2 : off + xs.length ≤ cs.length := Nat.le_of_ble_eq_true hcond.1.2
            have ho := getCells_some hg
            obtain ⟨hj, hcells, hbel⟩ := svc_cells (e := e) hc
            have h1 := ev_sat hr.tok x
            have h2 := h1.eq hj
            have h3 := ev_sat hr.tok A
            rw [hA] at h3
            have h4 := h3.eq (by simp)
            obtain ⟨k1, k2⟩ := hr.wok.ob _ _ ho
            obtain ⟨w', hrun, hheap, hwr⟩ := run_storeVar (P := P) (v := a.eval x) (xs := denL e xs) (off := off) k1 hi (by rw [h2]; exact hcells) (by rw [denL_length]; exact g1) (by rw [denL_length, denL_length]; exact g2) (cellsB_den hcond.2)
            rw [← setAll_denL] at hheap
            have hr' := hr.wrote ho trivial (y := .cells ty' (setAll cs off xs)) trivial hwr (by intros; simp) ⟨hheap, setAll_bel _ _ _ k2 (hbel _ (h1.bel hj))⟩
            simp only [forceVs_eq, setAllK_eq, setK_eq] at hk
            obtain ⟨t', hk', hr''⟩ := hr'.put (u := undef) hk (.inl rfl)
            refine upon_of_run hd' (x := .ok .skip w') ?_ (hn _ _ _ _ _ _ hk' hr'')
            simp only [execOp, hp, Instr.storeAt, h4, den, Instr.sureAddr, Sem.run_bind, Sem.run_pure, Result.andThen_ok, hrun]
          · exact hk.elim
        · exact hk.elim
      · rename_i tag off xs i hA hc hi
        split at hk
        · rename_i ty' sz n' ys hg
          split at hk
          · rename_i hcond
            simp only [Bool.and_eq_true] at hcond
            have g0 : 0 < xs.length := by simpa [Nat.blt_eq] using hcond.1
            have g1 : xs.length = i.size := Nat.eq_of_beq_eq_true hcond.2.1
            have ho := getList_some hg
            obtain ⟨hj, hcells, hbel⟩ := svc_cells (e := e) hc
            have h2 := (ev_sat hr.tok x).eq hj
            have h3 := ev_sat hr.tok A
            rw [hA] at h3
            have h4 := h3.eq (by simp)
            obtain ⟨hle, hk⟩ := hk
            have hcl : (a.eval x).cells.toList = denL e0 xs := by rw [h2, hcells]; exact noTags_den (belL0_tags hcond.2.2.2) _ _
            obtain ⟨w', hrun, hr'⟩ := hr.storeList (off := off) ho hi hcl (by rw [denL_length]; exact g1) (by rw [denL_length]; exact g0) (by rw [denL_length]; exact hle) (cellsB_den hcond.2.2.1)
            simp only [forceVs_eq, setK_eq] at hk
            obtain ⟨t', hk', hr''⟩ := hr'.put (u := undef) hk (.inl rfl)
            refine upon_of_run hd' (x := .ok .skip w') ?_ (hn _ _ _ _ _ _ hk' hr'')
            simp only [execOp, hp, Instr.storeAt, h4, den, Instr.sureAddr, Sem.run_bind, Sem.run_pure, Result.andThen_ok, hrun]
          · exact hk.elim
        · exact hk.elim
      · exact hk.elim
    · rename_i _ f args ats hp
      split at hk
      · rename_i k first captured hf
        exact sCall_sound hr hn hp hf hk
      · rename_i l hf
        exact sYield_sound hc hr hn hp hf hk
      · exact hk.elim
    · rename_i _ args ats hp
      split at hk
      · rename_i x y T T2 ha hat
        split at hk
        · rename_i elem hbeq hu
          obtain rfl := Nat.eq_of_beq_eq_true hbeq
          split at hk
          · rename_i i z hi hz
            split at hk
            · rename_i hcond
              simp only [Bool.and_eq_true] at hcond
              have hz' : i.zero = some z := by simpa [sZero, hi] using hz
              obtain rfl : args = #[x, y] := by rw [← Array.toList_inj]; exact ha
              obtain rfl : ats = #[T, T] := by rw [← Array.toList_inj]; exact hat
              rw [forceN_eq] at hk
              exact sAppend_sound hr hn hp hu hi hz' (Nat.eq_of_beq_eq_true hcond.1) (by simpa [Nat.blt_eq] using hcond.2) hk
            · exact hk.elim
          · exact hk.elim
        · exact hk.elim
      · exact hk.elim
    · rename_i _ ty len parts hp
      split at hk
      · rename_i elem hu
        split at hk
        · rename_i i z hi hz
          split at hk
          · rename_i hcond
            simp only [Bool.and_eq_true] at hcond
            have g1 : 0 < i.size := by simpa [Nat.blt_eq] using hcond.1
            have g2 : len * i.size ≤ 16777216 := Nat.le_of_ble_eq_true hcond.2.1
            have g3 : z.cells.size = i.size := Nat.eq_of_beq_eq_true hcond.2.2
            split at hk
            · rename_i cells hfill
              split at hk
              · rename_i hcb
                simp only [Bool.and_eq_true] at hcb
                simp only [forceVs_eq, forceN_eq, snocK_eq] at hk
                obtain ⟨r1, r2⟩ := repCells_den (e := e) (len := len) g3 g1
                obtain ⟨h1, h2⟩ := sFill_ok (e := e) (n := o.length) _ _ _ _ _ (partsSat (e := e) (S := ⟨t, o, h⟩) hr.tok parts.toList) hfill (belL_mono (Nat.zero_le _) _ r2)
                have hlen : cells.length = len * i.size := by
                  have := fill_size h1
                  rw [r1] at this
                  simpa [denL_length] using this
                have hle : len ≤ maxLen := by
                  have : len ≤ len * i.size := Nat.le_mul_of_pos_right _ g1
                  simp only [maxLen]; omega
                have hden : denL e cells = denL e0 cells := noTags_den (belL0_tags hcb.2) _ _
                obtain ⟨e', hd', hr'⟩ := hr.newList elem i.size len (denL e0 cells) (by rw [denL_length]; exact hlen) (cellsB_den hcb.1) hle
                obtain ⟨t', hk', hr''⟩ := hr'.putG (u := .slice (some ⟨w.heap.size, 0, none⟩) len len) hk (.inr ⟨hd'.symm, by simp [bel]⟩)
                refine upon_of_run (by intro c; rw [hp]; simp) (x := .ok (.value (.slice (some ⟨w.heap.size, 0, none⟩) len len)) (w.alloc (.cells (denL e0 cells).toArray elem))) ?_ (hn _ _ _ _ _ _ hk' hr'')
                rw [r1] at h1
                rw [hden] at h1
                have hparts : (parts.toList.map fun p => (p.1, a.eval p.2)) = (parts.map fun p => (p.1, a.eval p.2)).toList := by obtain ⟨l⟩ := parts; simp
                rw [hparts] at h1
                have hg2 : ¬ len * i.size > 2 ^ 24 := by omega
                by_cases h0 : len * i.size = 0
                · have hr0 : (Array.range (len * i.size)).map (fun j => (#[] : Array Value)[j % (#[] : Array Value).size]!) = (Array.range (len * i.size)).map (fun j => z.cells[j % z.cells.size]!) := by simp [h0]
                  simp only [execOp, hp, Instr.buildSlice, Sem.run_bind, run_under hu, Result.andThen_ok, run_size hi, if_neg hg2, Sem.run_pure, if_pos h0, hr0, h1, newRow, run_newObj]
                  rfl
                · simp only [execOp, hp, Instr.buildSlice, Sem.run_bind, run_under hu, Result.andThen_ok, run_size hi, if_neg hg2, Sem.run_pure, if_neg h0, sZero_ok hz, h1, newRow, run_newObj]
                  rfl
              · exact hk.elim
            · exact hk.elim
          · exact hk.elim
        · exact hk.elim
      · exact hk.elim
    · exact hk.elim

/-! ### guards -/

theorem guard_wanted (hT : TOk e o.length t a.tmps) {ops : Array Oper} {p : Oper} {j : Nat} {want b : Bool} (hg : p.guard = some (j, want)) (hv : guardVal ops t j = .bool b) : Region.wanted p (yielded ops a.tmps) = (b == want) := by
  unfold guardVal at hv
  split at hv
  · rename_i q hq
    split at hv
    · rename_i d hd
      by_cases hlt : d < t.length
      · have h1 : t[d]? = some (.bool b) := by
          rw [List.getElem?_eq_getElem hlt]
          simpa [List.getD, hlt] using hv
        have h2 := (hT.2 d _ h1).resolve_left (by simp)
        have h3 : yielded ops a.tmps j = some b := by
          simp [yielded, hq, hd, h2.1, den]
        simp only [Region.wanted, hg, h3]
        cases b <;> cases want <;> rfl
      · simp [List.getD, Nat.le_of_not_lt hlt] at hv
    · simp at hv
  · simp at hv

theorem guard_undef (hT : TOk e o.length t a.tmps) {ops : Array Oper} {p : Oper} {j : Nat} {want : Bool} {vs : List SV} (hg : p.guard = some (j, want)) (hv : guardVal ops t j = .tuple vs) : Region.wanted p (yielded ops a.tmps) = false := by
  unfold guardVal at hv
  split at hv
  · rename_i q hq
    split at hv
    · rename_i d hd
      by_cases hlt : d < t.length
      · have h1 : t[d]? = some (.tuple vs) := by
          rw [List.getElem?_eq_getElem hlt]
          simpa [List.getD, hlt] using hv
        have h2 := (hT.2 d _ h1).resolve_left (by simp)
        have h3 : yielded ops a.tmps j = none := by
          simp [yielded, hq, hd, h2.1, den]
        simp [Region.wanted, hg, h3]
      · simp [List.getD, Nat.le_of_not_lt hlt] at hv
    · simp at hv
  · simp at hv

theorem undef_sat (n : Nat) : Sat e n (.tuple []) undef := .inr ⟨rfl, rfl⟩

theorem sops_sound {r : Option Nat} {n : Nat} {ops : Array Oper} {Q : Exit → Act → World → Prop} (hc : YCfg P G c) (hn : Nxt G K (Q .normal)) : ∀ (l : List Oper) (e : Env) (t : List SV) (o : List (Option SObj)) (h : Hp) (a : Act) (w : World),
    Rel G e t o h a w → sops P c gs ops l t o h K → wpListIn (FW r) n P ops Q l a w
  | [], _, _, _, _, _, _, hr, hk => hn _ _ _ _ _ _ hk hr
  | p :: l, e, t, o, h, a, w, hr, hk => by
    have go : sop P c gs p.op p.dst t o h (fun t o h => sops P c gs ops l t o h K) → p.wpIn (FW r) n P a w (wpListIn (FW r) n P ops Q l) Q := fun hk =>
      sop_sound hc (n := n) (Q := Q) (K := fun t o h => sops P c gs ops l t o h K) hr (fun e t o h a w hk hr => sops_sound hc hn l e t o h a w hr hk) hk
    unfold sops at hk
    unfold wpListIn
    split at hk
    · rename_i hg
      have : Region.wanted p (yielded ops a.tmps) = true := by simp [Region.wanted, hg]
      rw [if_pos this]
      exact go hk
    · rename_i j want hg
      split at hk
      · rename_i b hv
        have hw := guard_wanted hr.tok hg hv
        split at hk
        · rename_i hb
          rw [if_pos (by rw [hw, hb])]
          exact go hk
        · rename_i hb
          rw [if_neg (by rw [hw, hb]; simp)]
          refine ⟨fun _ _ => trivial, ?_⟩
          obtain ⟨t', hk', hr'⟩ := hr.put (u := undef) hk (undef_sat _)
          exact sops_sound hc hn l e t' o h _ w hr' hk'
      · rename_i vs hv
        rw [if_neg (by rw [guard_undef hr.tok hg hv]; simp)]
        refine ⟨fun _ _ => trivial, ?_⟩
        obtain ⟨t', hk', hr'⟩ := hr.put (u := undef) hk (undef_sat _)
        exact sops_sound hc hn l e t' o h _ w hr' hk'
      · exact hk.elim

/-! ### a region that draws its order -/

theorem WOk.frm' {D : List Deferred} {w' : World} (hw : WOk G D e o h w) (hf : Frm (fun _ => False) w w') : WOk G D e o h w' := by
  have hb : ∀ k, k < w.heap.size → w'.heap[k]? = w.heap[k]? := fun k hk => hf.block k hk (fun x => x)
  exact hw.step hf.size hf.os hf.tape hf.output (fun k hk _ => hb k hk) (fun _ _ => ⟨rfl, rfl⟩)
    (fun i x hi => objOk_agr (Agr.refl _ _) (Nat.le_refl _) (idx_lt hi) (hw.ob i x hi) (fun hl => hb _ (live_lt hw hi hl)))
    (fun i x hi hx => .inl ⟨i, x, hi, hx, rfl⟩) (fun i j x y hi hj hx hy hij => hw.sep i j x y hi hj hx hy hij) (fun _ _ _ hi => hi)

theorem WOk.drew {D : List Deferred} (hw : WOk G D e o h w) : WOk G D e o h { w with drawn := w.drawn + 1 } := hw.frm' ⟨rfl, rfl, rfl, Nat.le_refl _, fun _ _ _ => rfl⟩

/-- The class of worlds. -/
abbrev Cls (G : Base) (D : List Deferred) (e : Env) (o : List (Option SObj)) (h : Hp) : World → Prop := WOk G D e o h

theorem sopsQ_sound {D : List Deferred} {n : Nat} {ops : Array Oper} {QQ : Act → Prop} (hO : ∀ t, ObB ⟨t, o, h⟩) (hn : ∀ t' a', K t' o h → TOk e o.length t' a'.tmps → a'.defers = D → QQ a') : ∀ (l : List Oper) (t : List SV) (a : Act),
    TOk e o.length t a.tmps → a.defers = D → sopsQ P c gs ops l t o h K → wpQuietIn (FW none) n P ops (Cls G D e o h) QQ l a
  | [], t, a, hT, hd, hk => hn t a hk hT hd
  | p :: l, t, a, hT, hd, hk => by
    have fin : ∀ {v : SV} {u : Value}, putG gs p.dst v t o h (fun t o h => sopsQ P c gs ops l t o h K) → Sat e o.length v u → wpQuietIn (FW none) n P ops (Cls G D e o h) QQ l (a.put p.dst u) := fun hk hs => by
      obtain ⟨t', h1, h2⟩ := putG_ok (a := a) hk hT hs
      exact sopsQ_sound hO hn l t' _ h2 ((put_defers _ _ _).trans hd) h1
    have one : sopQ P c gs p.op p.dst t o h (fun t o h => sopsQ P c gs ops l t o h K) → p.quietIn (FW none) n P a (Cls G D e o h) (wpQuietIn (FW none) n P ops (Cls G D e o h) QQ l) := fun hk => by
      have hq := qop_ok (G := G) (e := e) (S := ⟨t, o, h⟩) (P := P) hT (hO t) c p
      unfold sopQ at hk
      split at hk
      · rename_i v hv
        rw [hv] at hq
        obtain ⟨u, hs, hx⟩ := hq trivial
        exact ⟨u, fun w hw => by unfold Oper.quietAtIn; rw [hx w hw.toWR]; exact ⟨rfl, rfl⟩, fin hk hs⟩
      · rename_i q v hv
        rw [hv] at hq
        obtain ⟨u, hs, hx⟩ := hq hk.1
        exact ⟨u, fun w hw => by unfold Oper.quietAtIn; rw [hx w hw.toWR]; exact ⟨rfl, rfl⟩, fin hk.2 hs⟩
      · rename_i R hv
        rw [hv] at hq
        obtain ⟨v, hR, hk⟩ := hk
        obtain ⟨u, hs, hx⟩ := hq v hR
        exact ⟨u, fun w hw => by unfold Oper.quietAtIn; rw [hx w hw.toWR]; exact ⟨rfl, rfl⟩, fin hk hs⟩
      · split at hk
        · rename_i _ b x y hp
          split at hk
          · rename_i b' hb
            have h1 := ev_sat hT b
            rw [hb] at h1
            have h2 := h1.eq (by simp)
            cases b'
            · refine ⟨a.eval y, fun w hw => ?_, fin (hk.2 rfl) (ev_sat hT y)⟩
              have : (execOp a.eval p).run P w = .ok (.value (a.eval y)) w := by simp only [execOp, hp, h2, den]; rfl
              unfold Oper.quietAtIn; rw [this]; exact ⟨rfl, rfl⟩
            · refine ⟨a.eval x, fun w hw => ?_, fin (hk.1 rfl) (ev_sat hT x)⟩
              have : (execOp a.eval p).run P w = .ok (.value (a.eval x)) w := by simp only [execOp, hp, h2, den]; rfl
              unfold Oper.quietAtIn; rw [this]; exact ⟨rfl, rfl⟩
          · exact hk.elim
        · rename_i _ f args ats hp
          split at hk
          · rename_i k first captured hf
            unfold sCallQ at hk
            split at hk
            · exact hk.elim
            · rename_i hj
              simp only [Bool.and_eq_true] at hj
              simp only [nrmKs_eq] at hk
              obtain ⟨v, ⟨hb, hspec⟩, hk⟩ := hk
              obtain ⟨h1, h2, h3⟩ := args_den hT hf args hj.1
              have hnt : tagsL (first ++ args.toList.map (ev t) ++ captured) = [] := by simpa using hj.2
              refine ⟨den e v, fun w hw => ?_, fin hk (.inr ⟨rfl, bel_mono (Nat.zero_le _) v hb⟩)⟩
              unfold Oper.quietAtIn
              rw [run_call hp h1 hspec.1, h2]
              refine ⟨rfl, fun hd => by simp [FW, Fence.wide] at hd, callsIn_FW ?_⟩
              have hent : WOk (Base.entry e w [] h) [] e (([] : List SObj).map some) h w :=
                { hh := hw.hh, ob := fun i x hi => by simp at hi, sep := fun i j x y hi => by simp at hi, hn := fun i x hi => by simp at hi, frm := Frm.refl _ _, own := fun i x hi => by simp at hi, hle := HLe.refl _, hnew := fun b x hx => .inl hx, agr := fun i _ => ⟨rfl, rfl⟩,
                  pr := ⟨fun _ => False, fun i s xs hi => by simp at hi, fun i j s s' xs xs' hi => by simp at hi, fun i x hi => by simp at hi, fun _ h => h.elim, fun b x hx => .inl hx, fun _ h => h.elim, fun _ => rfl, List.nodup_nil, fun d hd => by cases hd⟩ }
              have hargs : denL e (nrmL (first ++ args.toList.map (ev t) ++ captured)) = denL e (first ++ args.toList.map (ev t) ++ captured) := denL_nrm e _
              rw [← hargs]
              refine (hspec.2 e w hent).mono ?_
              rintro en w' ⟨e', sv, o', h', rfl, hbs, _, rfl, hw'⟩
              refine ⟨by rw [den_tags (e := e') (e' := e) _ (fun t ht => absurd ht (bel0_tags hb t))], hw.frm' ?_⟩
              refine ⟨hw'.frm.os, hw'.frm.tape, hw'.frm.output, hw'.frm.size, fun k hk _ => hw'.frm.block k hk ?_⟩
              rintro ⟨i, x, hx, _⟩
              simp at hx
          · exact hk.elim
        · exact hk.elim
    unfold sopsQ at hk
    unfold wpQuietIn
    refine ⟨fun _ _ _ _ => trivial, ?_⟩
    split at hk
    · rename_i hg
      have : Region.wanted p (yielded ops a.tmps) = true := by simp [Region.wanted, hg]
      rw [if_pos this]
      exact one hk
    · rename_i j want hg
      split at hk
      · rename_i b hv
        have hw := guard_wanted hT hg hv
        split at hk
        · rename_i hb
          rw [if_pos (by rw [hw, hb])]
          exact one hk
        · rename_i hb
          rw [if_neg (by rw [hw, hb]; simp)]
          obtain ⟨t', h1, h2⟩ := put_ok (a := a) (u := undef) hk hT (undef_sat _)
          exact sopsQ_sound hO hn l t' _ h2 ((put_defers _ _ _).trans hd) h1
      · rename_i vs hv
        rw [if_neg (by rw [guard_undef hT hg hv]; simp)]
        obtain ⟨t', h1, h2⟩ := put_ok (a := a) (u := undef) hk hT (undef_sat _)
        exact sopsQ_sound hO hn l t' _ h2 ((put_defers _ _ _).trans hd) h1
      · exact hk.elim

end Go.Pw
