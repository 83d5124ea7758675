import Derived.Test.YtkjdghlefdmjaaaTk
import Derived.Test.YtkjdghlefdmjaaaTd
set_option linter.unusedSimpArgs false
set_option linter.unusedVariables false
namespace Go.Proofs.Ytkjdghlefdmjaaa
open Go Go.Cx
theorem clsN_nm (c : UInt8) : clsN c.toNat = Pw.cls c.toNat := by
 have := c.toNat_lt
 unfold clsN
 rw [Nat.mod_eq_of_lt this]; rfl
theorem nm_drop (l : List UInt8) (n : Nat) : (nm l).drop n = nm (l.drop n) := by unfold nm; rw [List.map_drop]
theorem nm_take (l : List UInt8) (n : Nat) : (nm l).take n = nm (l.take n) := by unfold nm; rw [List.map_take]
theorem nm_len (l : List UInt8) : (nm l).length = l.length := by unfold nm; rw [List.length_map]
theorem rl_nm (k : Int) : ∀ l : List UInt8, rl k (nm l) = Pw.rl k l
 | [] => rfl
 | c :: l => by
  show (if clsN c.toNat = k then rl k (nm l) + 1 else 0) = if Pw.cls c.toNat = k then Pw.rl k l + 1 else 0
  rw [clsN_nm, rl_nm k l]
theorem gbN_nm (l : List UInt8) (i : Int) : gbN (nm l) i = Pw.gb l i := by
 unfold gbN Pw.gb nm
 rw [List.getD_eq_getElem?_getD, List.getD_eq_getElem?_getD, List.getElem?_map]
 cases l[i.toNat]? with
 | none => rfl
 | some c => show ((c.toNat % 256 : Nat) : Int) = _; rw [Nat.mod_eq_of_lt c.toNat_lt]; rfl
theorem of_nm (l : List UInt8) : (nm l).map UInt8.ofNat = l := by
 unfold nm
 rw [List.map_map]
 conv => rhs; rw [← List.map_id l]
 exact List.map_congr_left fun c _ => UInt8.ofNat_toNat
theorem isPre_nm (p s : List UInt8) : isPre (nm p) (nm s) = p.isPrefixOf s := by
 unfold isPre
 rw [nm_len, nm_len, nm_take, beqL_eq, of_nm, of_nm, Bool.eq_iff_iff, Bool.and_eq_true, decide_eq_true_eq, beq_iff_eq, List.isPrefixOf_iff_prefix]
 constructor
 ·rintro ⟨h1, h2⟩
  rw [← h2]; exact List.take_prefix _ _
 ·intro h
  exact ⟨h.length_le, (List.prefix_iff_eq_take.1 h).symm⟩
theorem sgs_nm : sgs = Pw.sgs.map nm := by decide
theorem sgLen_nm (l : List UInt8) : sgLen (nm l) = Pw.sgLen l := by
 unfold sgLen Pw.sgLen
 rw [sgs_nm, List.find?_map]
 have : ((fun x => isPre x (nm l)) ∘ nm) = fun x : List UInt8 => x.isPrefixOf l := funext fun x => isPre_nm x l
 rw [this]
 cases Pw.sgs.find? (fun x => x.isPrefixOf l) with
 | none => rfl
 | some x => exact nm_len x
theorem numB_nm (l : List UInt8) : numB (nm l) = Pw.numB l := by
 unfold numB Pw.numB nNeg nDig Pw.nNeg Pw.nDig nNeg Pw.nNeg
 rw [rl_nm, nm_drop, rl_nm, gbN_nm]
theorem beg_nm (l : List UInt8) : beg (nm l) = Pw.beg l := by
 cases l with
 | nil => decide
 | cons c r =>
  have hc : clsN ((nm (c :: r)).headD 0) = Pw.cls c.toNat := clsN_nm c
  have h4 : nNeg (nm (c :: r)) = Pw.nNeg (c :: r) := rl_nm 4 _
  have h3 : nDig (nm (c :: r)) = Pw.nDig (c :: r) := by unfold nDig Pw.nDig; rw [h4, nm_drop, rl_nm]
  unfold beg
  rw [hc, rl_nm, numB_nm, sgLen_nm, h3, h4]
  rfl
theorem beg_zero (l : List UInt8) : (Pw.beg l).1 = 0 ↔ (Pw.beg l).2 = 0 := by
 rw [← beg_nm]
 cases l with
 | nil => decide
 | cons c r =>
  constructor
  ·intro h
   revert h
   unfold beg
   split
   ·intro h; exact absurd h (by show ¬ (1 : Int) = 0; decide)
   ·split
    ·intro h; exact absurd h (by show ¬ (2 : Int) = 0; decide)
    ·split
     ·split
      ·intro h; exact absurd h (by show ¬ (3 : Int) = 0; decide)
      ·intro _; rfl
     ·split
      ·intro h; exact absurd h (by show ¬ (4 : Int) = 0; decide)
      ·intro _; rfl
  ·intro h
   rcases Int.decEq (beg (nm (c :: r))).1 0 with h1 | h1
   ·have := beg_pos (l := nm (c :: r)) (by rw [nm_len]; simp) h1
    omega
   ·exact h1
def tkN (t : Pw.Tok) : Tok := ⟨t.kind, nm t.text, t.pos⟩
def ftN (f : Pw.Flt) : Flt := ⟨f.err, f.pos⟩
theorem nxt_nm (s : List UInt8) (i : Int) : nxt (nm s) i = (tkN (Pw.nxt s i).1, (Pw.nxt s i).2.1, ftN (Pw.nxt s i).2.2) := by
 unfold nxt Pw.nxt
 rw [nm_len]
 split
 ·rfl
 ·simp only
  rw [nm_drop, rl_nm, nm_drop, beg_nm]
  split
  ·rfl
  ·have hz := beg_zero (s.drop (i.toNat + Pw.rl 5 (s.drop i.toNat)))
   by_cases h : (Pw.beg (s.drop (i.toNat + Pw.rl 5 (s.drop i.toNat)))).2 = 0
   ·rw [if_pos (hz.2 h), if_pos h]; rfl
   ·rw [if_neg (fun hh => h (hz.1 hh)), if_neg h, nm_take]; rfl
theorem toksF_nm (s : List UInt8) : ∀ (n : Nat) (i : Int), toksF (nm s) n i = ((Pw.toksF s n i).1.map tkN, ftN (Pw.toksF s n i).2)
 | 0, i => rfl
 | n + 1, i => by
  simp only [toksF, Pw.toksF, nxt_nm, toksF_nm s n]
  show (if (Pw.nxt s i).2.2.err = 0 then _ else _) = _
  split <;> rfl
theorem toks_nm (s : List UInt8) : toks (nm s) = ((Pw.toks s).1.map tkN, ftN (Pw.toks s).2) := by
 unfold toks Pw.toks toksAt Pw.toksAt
 rw [nm_len, toksF_nm]
 split
 ·rfl
 ·simp only
  show (if (Pw.toksF s _ 0).2.err = 5 then _ else _) = _
  split <;> rfl
end Go.Proofs.Ytkjdghlefdmjaaa
