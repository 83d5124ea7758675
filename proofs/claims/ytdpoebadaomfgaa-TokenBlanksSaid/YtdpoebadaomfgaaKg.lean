/-
  The reference's tokens: contracts of Next, Tokens, Word; the law's helpers.
-/
import Derived.Test.YtdpoebadaomfgaaKf
set_option linter.unusedSimpArgs false
set_option linter.unusedVariables false
namespace Go.Proofs.Ytdpoebadaomfgaa
open Go Go.Pw

theorem begK_eq {s : List UInt8} (h0 : 0 < s.length) (hb : (beg s).2 ≠ 0) : begK s = (beg s).1 := by
  unfold begK
  split
  · rename_i h
    have := (finN h0 h.2.1 h.2.2 (by omega)).2
    rw [h.1] at this
    exact absurd this hb
  · rfl

structure NxJ (s : List UInt8) (a : Nat) (h : Hp) (vs : List SV) (o : List (Option SObj)) (h' : Hp) : Prop where
  ex : ∃ n : Nat, a + n ≤ s.length ∧ rl 5 (s.drop a) = n + rl 5 (s.drop (a + n)) ∧ vs = [.int .i64 (a + n : Nat)] ∧
    o = [some (.cells 30 [.int .i64 0, .str [], .int .i64 0]), some (.cells 26 [.int .i64 0, .int .i64 0])] ∧ h' = h

theorem take_nil {l : List UInt8} {n : Nat} (hn : n ≤ l.length) : l.take n = [] ↔ n = 0 := by
  rw [List.take_eq_nil_iff]
  constructor
  · rintro (h | h)
    · exact h
    · subst h; simpa using hn
  · exact .inl

set_option maxRecDepth 10000 in
theorem next_r (s : List UInt8) (x : Int) (hs : s.length ≤ 1000000) (h : Hp) :
    CSpec Try.prog 13 [.str s, .int .i64 x] [] h (fun sv o h' => sv = nxtSv (nxt s x) ∧ o = [] ∧ h' = h) := by
  by_cases hr : x < 0 ∨ (s.length : Int) < x
  · rw [nxt_range hr]
    refine spec_of_swpF { ann := [(3, { slots := [1] })], pull := [(11, [0, 1])] } Try.func13 (enters_of Try.func13 (by kernel_rfl) rfl) rfl ?_
    repeat' (
        (conv => whnf)
        first
          | exact closedB (by kernel_rfl)
          | refine And.intro ?_ ?_
          | intro _)
    all_goals try (first | rfl | omega | (exfalso; simp at *; omega))
  · obtain ⟨n, rfl⟩ : ∃ n : Nat, x = n := ⟨x.toNat, by omega⟩
    have hn : n ≤ s.length := by omega
    have hb := rl5_le s n hn
    refine spec_of_swpF { ann := [(3, { slots := [1] })], pull := [(11, [0, 1])] } Try.func13 (enters_of Try.func13 (by kernel_rfl) rfl) rfl ?_
    repeat' (
        (conv => whnf)
        first
          | exact closedB (by kernel_rfl)
          | refine And.intro ?_ ?_
          | ((refine ⟨NxJ s n _, fun vs _ _ => match vs with | [.int _ n] => s.length - n.toNat | _ => 0, ⟨rfl, 0, by omega, by simp, rfl, rfl, rfl⟩, ?_⟩; rintro vs o1 h1 _ ⟨k, hk, hrl, rfl, rfl, rfl⟩; have hsub : sub s ((n + k : Nat) : Int) s.length = s.drop (n + k) := by simp only [sub, Int.toNat_natCast]; exact List.take_of_length_le (by simp)))
          | (refine ⟨_, blank_r _ _, ?_⟩; rintro sv o' h' _ ⟨rfl, rfl, rfl⟩)
          | ((rw [hsub]; refine ⟨_, begins_r (s.drop (n + k)) (by simp at *; omega) (by simp; omega) _, ?_⟩; rintro sv o' h' _ ⟨rfl, rfl, rfl⟩))
          | intro _)
    all_goals (try simp only [Bool.and_eq_true, Bool.or_eq_true, Bool.not_eq_true', Bool.not_eq_false', decide_eq_true_eq, decide_eq_false_iff_not, beq_iff_eq, bne_iff_ne, bne_eq_false_iff_eq, beq_eq_false_iff_ne, Bool.false_eq_true, Bool.true_eq_false, ne_eq] at *)
    all_goals first
      | rfl
      | omega
      | (have hd := rl_drop 5 s (n + k) (by omega); rw [if_pos (by assumption)] at hd; exact ⟨k + 1, by omega, by rw [hrl, hd]; simp only [Nat.add_assoc, Nat.add_comm], by simp; omega, rfl, rfl⟩)
      | (show s.length - ((n + k : Nat) + 1 : Int).toNat < s.length - ((n + k : Nat) : Int).toNat; omega)
      | (have hz : rl 5 (s.drop (n + k)) = 0 := by first | exact rl_end 5 s (n + k) (by omega) | (rw [rl_drop 5 s (n + k) (by omega), if_neg (by assumption)])
         rw [hz, Nat.add_zero] at hrl
         have hle := beg_le (s.drop (n + k))
         first
           | (rw [nxt_short hn (by omega)]; simp only [nxtSv, Tok.sv, Flt.sv, tok0]; congr; done)
           | (have hl0 : 0 < (s.drop (n + k)).length := by simp; omega
              have hq := (take_nil hle).1 (by assumption)
              rw [nxt_form hn (by omega) (by rw [hrl]; exact (beg_zero _).2 hq), hrl]; rfl)
           | (have hl0 : 0 < (s.drop (n + k)).length := by simp; omega
              have hq : (beg (s.drop (n + k))).2 ≠ 0 := fun hc => (by assumption : ¬ _) ((take_nil hle).2 hc)
              rw [nxt_tok hn (by omega) (by rw [hrl]; exact fun hc => hq ((beg_zero _).1 hc)), hrl, begK_eq hl0 hq]
              simp only [nxtSv, Tok.sv, Flt.sv, flt0, List.length_take, Nat.min_eq_left hle])
           | (rw [List.length_take, Nat.min_eq_left hle]; simp at hle; omega))
end Go.Proofs.Ytdpoebadaomfgaa
