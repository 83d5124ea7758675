import Derived.Test.YtkjdghlefdmjaaaTe
import Derived.Test.YtkjdghlefdmjaaaTl
set_option linter.unusedSimpArgs false
set_option linter.unusedVariables false
set_option maxRecDepth 100000
namespace Go.Proofs.Ytkjdghlefdmjaaa
open Go Go.Cx
def blB (s : List Nat) : Bool := s.all fun c => decide (clsN c = 5)
theorem cls_gb {s : List Nat} {k : Nat} (h : k < s.length) : cls (gbN s k) = clsN s[k] := by
 unfold gbN clsN
 rw [Int.toNat_natCast, List.getD_eq_getElem?_getD, List.getElem?_eq_getElem h]; rfl
theorem blB_no {s : List Nat} {k : Nat} (h : k < s.length) (hc : cls (gbN s k) ≠ 5) : blB s = false := by
 unfold blB
 rw [Bool.eq_false_iff, Ne, List.all_eq_true]
 intro hh
 have := hh _ (List.getElem_mem h)
 rw [cls_gb h] at hc
 exact hc (by simpa using this)
theorem blB_all {s : List Nat} (h : ∀ i, i < s.length → cls (gbN s i) = 5) : blB s = true := by
 unfold blB
 rw [List.all_eq_true]
 intro x hx
 obtain ⟨i, hi, rfl⟩ := List.mem_iff_getElem.1 hx
 have := h i hi
 rw [cls_gb hi] at this
 simpa using this
theorem cls5 {c : Int} : cls c = 5 ↔ c = 9 ∨ c = 10 ∨ c = 13 ∨ c = 32 := by
 unfold cls; repeat' split <;> omega
theorem stepB {p : Nat → Prop} {k : Nat} (h0 : ∀ i, i < k → p i) (h : p k) : ∀ i, i < k + 1 → p i := fun i hi => by
 rcases Nat.lt_succ_iff_lt_or_eq.1 hi with h1 | rfl
 ·exact h0 _ h1
 ·exact h
theorem blanks_d (s : List Nat) (hs : s.length ≤ 1000000) : DSpec Try.prog axX axG 7 [.cv (.str s)] [] (fun v O => v = ab (blB s) ∧ O = []) := by
 refine dspec_of { glb := axG, ann := [(2, [3])] } true Try.func7 (by kernel_rfl) rfl ?_
 repeat' (
   (conv => whnf)
   first
    | exact closedB (by kernel_rfl)
    | refine And.intro ?_ ?_
    | refine splitB_intro ?_ ?_
    | ((refine ⟨fun vs O _ => ∃ k : Nat, k ≤ s.length ∧ (∀ i : Nat, i < k → cls (gbN s i) = 5) ∧ vs = [ai k] ∧ O = [], fun vs O => match vs with | [.cv (.int _ k)] => s.length - k.toNat | _ => 0, ⟨0, Nat.zero_le _, fun i hi => absurd hi (by omega), rfl, rfl⟩, ?_⟩; rintro vs O _ ⟨k, hk, h0, rfl, rfl⟩))
    | intro _)
 all_goals first
  | rfl
  | omega
  | (simp only [zz] at *; omega)
  | exact congrArg ab (blB_no (k := k) (by (simp only [zz] at *; omega)) (by rw [Ne, cls5]; (simp only [zz] at *; omega))).symm
  | exact congrArg ab (blB_all fun i hi => h0 i (by (simp only [zz] at *; omega))).symm
  | exact ⟨k + 1, by (simp only [zz] at *; omega), stepB h0 (by rw [cls5]; (simp only [zz] at *; omega)), rfl, rfl⟩
theorem blB_nm (l : List UInt8) : blB (nm l) = l.all Pw.isBl := by
 unfold blB nm
 rw [List.all_map]
 congr 1
 funext c
 show decide (clsN c.toNat = 5) = decide (Pw.cls c.toNat = 5)
 rw [clsN_nm]
theorem subN_nm (l : List UInt8) (a b : Nat) : subN (nm l) a b = nm ((l.drop a).take (b - a)) := by
 unfold subN
 rw [Int.toNat_natCast, Int.toNat_natCast, nm_drop, nm_take]
structure TkAt (s : List UInt8) (a : Nat) (l : List Pw.Tok) (k p : Nat) (t : Tok) : Prop where
 pos : t.pos = p
 le : a ≤ p
 len : p + t.text.length ≤ s.length
 bl : blB (subN (nm s) a p) = true
 tx : subN (nm s) p ((p : Int) + t.text.length) = t.text
 ok : chkT t = 0
 chn : Pw.Chn s (p + t.text.length) (l.drop (k + 1))
theorem wholeB_ok {t : Pw.Tok} (h : Pw.TokOk t) : wholeB (tkN t) = true := by
 have h1 := Pw.tokOk_nxt0 h
 have h2 : nxt (tkN t).text 0 = (tkN ⟨t.kind, t.text, 0⟩, (t.text.length : Int), ftN Pw.flt0) := by
  show nxt (nm t.text) 0 = _
  rw [nxt_nm, h1]
 refine whole_yes ?_ ?_ ?_ ?_ <;> rw [h2]
 ·rfl
 ·rfl
 ·show (t.text.length : Int) = ((nm t.text).length : Int); rw [nm_len]
 ·rfl
theorem chn_at {s : List UInt8} {a k : Nat} {l : List Pw.Tok} (hk : k < l.length) (hok : ∀ t ∈ l, Pw.TokOk t) (h : Pw.Chn s a (l.drop k)) : ∃ p, TkAt s a l k p ((l.map tkN).getD k default) := by
 have ht : (l.map tkN).getD k default = tkN l[k] := by
  rw [List.getD_eq_getElem?_getD, List.getElem?_map, List.getElem?_eq_getElem hk]; rfl
 rw [List.drop_eq_getElem_cons hk] at h
 obtain ⟨p, h1, h2, h3, h4, h5, h6, h7, h8⟩ := h
 have hl : (tkN l[k]).text.length = l[k].text.length := nm_len _
 rw [ht]
 refine ⟨p, h1, h2, by rw [hl]; exact h3, ?_, ?_, ?_, by rw [hl]; exact h8⟩
 ·rw [subN_nm, blB_nm]; exact h4
 ·rw [hl, ← Int.natCast_add, subN_nm, Nat.add_sub_cancel_left, h5]; rfl
 ·exact chkT_ok (by show ¬ ((l[k]).kind < 1 ∨ 4 < (l[k]).kind); omega) (wholeB_ok (hok _ (List.getElem_mem hk))) (by show ¬ (l[k]).pos < 0; omega)
theorem toks_ok' (s : List UInt8) : ∀ t ∈ (Pw.toks s).1, Pw.TokOk t := by
 unfold Pw.toks
 split
 ·intro t ht; cases ht
 ·split
  ·exact Pw.toksF_ok s _ 0
  ·intro t ht; cases ht
theorem toks_txt' (s : List UInt8) : Pw.txtLen (Pw.toks s).1 ≤ s.length := by
 unfold Pw.toks
 split
 ·exact Nat.zero_le _
 ·split
  ·have := Pw.toksF_txt s (s.length + 1 - (0 : Int).toNat) 0 (by omega) (by omega)
   exact Nat.le_trans (Nat.le_add_right _ _) this
  ·exact Nat.zero_le _
theorem text_le' : ∀ (l : List Pw.Tok) (t : Pw.Tok), t ∈ l → t.text.length ≤ Pw.txtLen l
 | [], t, h => by cases h
 | x :: r, t, h => by
  have e : Pw.txtLen (x :: r) = x.text.length + Pw.txtLen r := by unfold Pw.txtLen; rw [List.map_cons, List.sum_cons]
  rcases List.mem_cons.1 h with rfl | h
  ·omega
  ·have := text_le' r t h; omega
theorem joinL_nm : ∀ l : List (List UInt8), joinL [32] (l.map nm) = nm (Lib.join l [32])
 | [] => rfl
 | [x] => by rw [Lib.join_one]; rfl
 | x :: y :: r => by
  have ih := joinL_nm (y :: r)
  show nm x ++ ([32] ++ joinL [32] ((y :: r).map nm)) = _
  rw [ih, Lib.join_cons, Lib.join_cons]
  unfold nm
  simp [Lib.joinTail]
theorem same_of : ∀ {a b : List Pw.Tok}, a.map (fun t => (t.kind, t.text)) = b.map (fun t => (t.kind, t.text)) → sameB (a.map tkN) (b.map tkN) = true
 | [], [], _ => rfl
 | x :: a, y :: b, h => by
  simp only [List.map_cons, List.cons.injEq, Prod.mk.injEq] at h
  show (sameT (tkN x) (tkN y) && sameB (a.map tkN) (b.map tkN)) = true
  rw [same_of h.2, Bool.and_true]
  show (x.kind == y.kind && beqL (nm x.text) (nm y.text)) = true
  rw [h.1.1, h.1.2, beqL_eq]
  simp
 | [], _ :: _, h => by cases h
 | _ :: _, [], h => by cases h
theorem toks_zero' {s : List UInt8} (h : (Pw.toks s).2.err = 0) : (Pw.toks s).2 = Pw.flt0 := by
 revert h
 unfold Pw.toks
 split
 ·intro h; exact absurd h (by decide)
 ·split
  ·intro _; rfl
  ·intro h; exact absurd h (Pw.toksF_nz' s)
theorem chn_kinds {s : List UInt8} : ∀ {l : List Pw.Tok} {a : Nat}, Pw.Chn s a l → ∀ t ∈ l, 1 ≤ t.kind ∧ t.kind ≤ 4 ∧ 0 ≤ t.pos
 | [], _, _, t, ht => by cases ht
 | x :: r, a, h, t, ht => by
  obtain ⟨p, h1, h2, h3, h4, h5, h6, h7, h8⟩ := h
  rcases List.mem_cons.1 ht with rfl | ht
  ·exact ⟨h6, h7, by omega⟩
  ·exact chn_kinds h8 t ht
theorem stood_flt : StoodNo Try.prog 26 := ⟨by kernel_rfl⟩
theorem ljoin_nm (l : List Pw.Tok) : joinL [32] ((l.map tkN).map Tok.text) = nm (Pw.ljoin l) := by
 unfold Pw.ljoin
 rw [← joinL_nm, List.map_map, List.map_map]; rfl
set_option maxHeartbeats 4000000 in
theorem TokenBack_d (s : List UInt8) (hw : DSpec Try.prog axX axG 4 [] [] (fun v O => v = ab true ∧ O = [])) : DSpec Try.prog axX axG 3 [.cv (.str (nm s))] [] (fun v _ => v = .cv (.bool true)) := by
 by_cases h190 : 190 < s.length
 ·have hnl := nm_len s
  refine dspec_of { glb := axG, ann := [(8, [6, 5])] } true Try.func3 (by kernel_rfl) rfl ?_
  repeat' (
    (conv => whnf)
    first
     | exact closedB (by kernel_rfl)
     | refine And.intro ?_ ?_
     | refine splitB_intro ?_ ?_
     | (refine ⟨_, hw, ?_⟩; rintro v O' ⟨rfl, rfl⟩)
     | intro _)
  all_goals skip
  all_goals first
   | rfl
   | (exfalso; (simp only [zz] at *; omega))
 ·have hs : s.length ≤ 1000000 := by omega
  have hT := Tokens_d (nm s) (by rw [nm_len]; exact hs)
  rw [toks_nm] at hT
  by_cases he : (Pw.toks s).2.err = 0
  ·have hz := toks_zero' he
   have hchn := Pw.chn_toks he
   have hok := toks_ok' s
   have htx := toks_txt' s
   have hcnt := Pw.txtLen_count _ hok
   have hbk := Pw.toks_ljoin (Pw.toks s).1 hok (by have := Pw.ljoin_len (Pw.toks s).1; omega)
   have hjl := Pw.ljoin_len (Pw.toks s).1
   have hlt := text_le' (Pw.toks s).1
   rw [hz] at hT
   generalize (Pw.toks s).1 = K at hT hchn hok htx hcnt hbk hjl hlt
   have hat : ∀ a k, k < K.length → Pw.Chn s a (K.drop k) → ∃ p, TkAt s a K k p ((K.map tkN).getD k default) := fun a k hk h => chn_at hk hok h
   have hall : ∀ i, i < (K.map tkN).length → chkT ((K.map tkN).getD i default) = 0 := fun i hi => by
    rw [List.length_map] at hi
    rw [List.getD_eq_getElem?_getD, List.getElem?_map, List.getElem?_eq_getElem hi]
    have h1 := hok _ (List.getElem_mem hi)
    have h2 := chn_kinds hchn _ (List.getElem_mem hi)
    exact chkT_ok (t := tkN K[i]) (by show ¬ ((K[i]).kind < 1 ∨ 4 < (K[i]).kind); omega) (wholeB_ok h1) (by show ¬ (K[i]).pos < 0; omega)
   have hL : (K.map tkN).length = K.length := List.length_map ..
   have htl : ∀ t ∈ K.map tkN, t.text.length ≤ 1000000 := fun t ht => by
    obtain ⟨u, hu, rfl⟩ := List.mem_map.1 ht
    have := hlt u hu
    show (nm u.text).length ≤ _; rw [nm_len]; omega
   have hX := Text_d (K.map tkN) (by omega) htl (by rw [ljoin_nm, nm_len]; omega)
   rw [txt_all hall, ljoin_nm] at hX
   have hT2 := Tokens_d (nm (Pw.ljoin K)) (by rw [nm_len]; omega)
   rw [toks_nm, hbk.1] at hT2
   have hS := same_of hbk.2
   have hBl : (Pw.toks (Pw.ljoin K)).1.length = K.length := by have := congrArg List.length hbk.2; simpa using this
   generalize (Pw.toks (Pw.ljoin K)).1 = B at hT2 hS hBl
   have hSm := Same_d (B.map tkN) (K.map tkN) (by rw [List.length_map]; omega)
   rw [hS] at hSm
   have hend : ∀ a k, ¬ k < K.length → Pw.Chn s a (K.drop k) → a ≤ s.length ∧ blB (subN (nm s) a ((nm s).length : Nat)) = true := fun a k hk h => by
    rw [List.drop_eq_nil_of_le (by omega)] at h
    refine ⟨h.1, ?_⟩
    rw [subN_nm, blB_nm, nm_len, List.take_of_length_le (by rw [List.length_drop]; omega)]; exact h.2
   have hnl := nm_len s
   have hsl : ∀ a b, (subN (nm s) a b).length ≤ (nm s).length := fun a b => subN_len
   generalize hLk : K.map tkN = L at *
   refine dspec_of { glb := axG, ann := [(8, [6, 5])] } true Try.func3 (by kernel_rfl) rfl ?_
   repeat' (
     (conv => whnf)
     first
      | exact closedB (by kernel_rfl)
      | refine And.intro ?_ ?_
      | refine splitB_intro ?_ ?_
      | (refine ⟨_, hw, ?_⟩; rintro v O' ⟨rfl, rfl⟩)
      | (refine ⟨_, hT, ?_⟩; rintro v O' ⟨rfl, rfl⟩)
      | (refine ⟨_, hT2, ?_⟩; rintro v O' ⟨rfl, rfl⟩)
      | (refine ⟨_, hX, ?_⟩; rintro v O' ⟨rfl, rfl⟩)
      | (refine ⟨_, hSm, ?_⟩; rintro v O' ⟨rfl, rfl⟩)
      | (refine ⟨_, Check_t (L.getD _ default) (htl _ (getD_mem (by (simp only [zz] at *; omega)))), ?_⟩; rintro v O' ⟨rfl, rfl⟩)
      | (refine ⟨_, blanks_d _ (Nat.le_trans (hsl _ _) (by omega)), ?_⟩; rintro v O' ⟨rfl, rfl⟩)
      | ((refine ⟨fun vs O _ => ∃ k a : Nat, k ≤ L.length ∧ Pw.Chn s a (K.drop k) ∧ vs = [ai k, ai a] ∧ O = [.cells 26 [ai 0, ai 0]], fun vs O => match vs with | [.cv (.int _ k), _] => L.length - k.toNat | _ => 0, ⟨0, 0, Nat.zero_le _, hchn, rfl, rfl⟩, ?_⟩; rintro vs O _ ⟨k, a, hk, hc, rfl, rfl⟩; by_cases hkl : k < L.length; obtain ⟨p, hp⟩ := hat a k (by omega) hc; have hp1 := hp.pos; have hp2 := hp.le; have hp3 := hp.len; rotate_left; have he1 := hend a k (by omega) hc; rotate_left))
      | intro _)
   all_goals first
    | rfl
    | omega
    | (simp only [zz] at *; omega)
    | exact stood_flt
    | (rename_i hz; exact absurd hz (by show ¬ (chkT (L.getD k default) != 0) = true; rw [hp.ok]; decide))
    | (rename_i hz; exact absurd (of_decide_eq_true hz) (by show ¬ (L.getD k default).pos < (a : Int); omega))
    | (rename_i hz; exact absurd (of_decide_eq_true hz) (by show ¬ ((L.getD k default).text.length : Int) > ((nm s).length : Int) - (L.getD k default).pos; omega))
    | (rename_i hz; exact absurd hz (by show ¬ (!beqL (subN (nm s) (L.getD k default).pos ((L.getD k default).pos + ((L.getD k default).text.length : Int))) (L.getD k default).text) = true; rw [hp1, hp.tx, beqL_eq]; simp))
    | (rename_i hz; exact absurd hz (by show ¬ (!blB (subN (nm s) a (L.getD k default).pos)) = true; rw [hp1, hp.bl]; decide))
    | (rename_i hz; exact absurd hz (by rw [he1.2]; decide))
    | (show (-9223372036854775808 : Int) ≤ ((nm s).length : Int) - (L.getD k default).pos; omega)
    | exact ⟨k + 1, p + (L.getD k default).text.length, by omega, hp.chn, by show [ai ((k : Int) + 1), ai ((L.getD k default).pos + ((L.getD k default).text.length : Int))] = _; rw [hp1]; rfl, rfl⟩
    | (exfalso; (simp only [zz] at *; omega))
  ·obtain ⟨h1, h2, h3⟩ := Pw.toks_bad (by omega) he
   rw [h1] at hT
   have hnl := nm_len s
   have h4 : (ftN (Pw.toks s).2).err ≠ 0 := he
   have h5 : (ftN (Pw.toks s).2).pos = (Pw.toks s).2.pos := rfl
   generalize ftN (Pw.toks s).2 = F at hT h4 h5
   refine dspec_of { glb := axG, ann := [(8, [6, 5])] } true Try.func3 (by kernel_rfl) rfl ?_
   repeat' (
     (conv => whnf)
     first
      | exact closedB (by kernel_rfl)
      | refine And.intro ?_ ?_
      | refine splitB_intro ?_ ?_
      | (refine ⟨_, hw, ?_⟩; rintro v O' ⟨rfl, rfl⟩)
      | (refine ⟨_, hT, ?_⟩; rintro v O' ⟨rfl, rfl⟩)
      | intro _)
   all_goals first
    | rfl
    | (exfalso; (simp only [zz] at *; omega))
theorem tokenBack_law (s : List UInt8) : DSpec Try.prog axX [] 3 [.cv (.str (nm s))] [] (fun v _ => v = .cv (.bool true)) := TokenBack_d s (ax_d rfl)
end Go.Proofs.Ytkjdghlefdmjaaa
