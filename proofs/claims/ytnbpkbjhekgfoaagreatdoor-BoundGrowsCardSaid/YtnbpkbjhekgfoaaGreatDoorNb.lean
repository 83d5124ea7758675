import Derived.Test.YtnbpkbjhekgfoaaGreatDoorNa
set_option linter.unusedSimpArgs false
set_option linter.unusedVariables false
namespace Go.Proofs.YtnbpkbjhekgfoaaGreatDoor
open Go Go.Cx
def okC (c : ClsM) : Bool := inB c.size 1 64 && inB c.rate 0 64
def seenB (l : List ClsM) (n : Nat) (x : Int) : Bool := (l.take n).any fun y => y.lab == x
def errC (l : List ClsM) (n : Nat) : Int := if okC (l.getD n default) then (if seenB l n (l.getD n default).lab then 8 else 0) else 2
def okT (t : TenM) : Bool := inB t.bud 1 64 && (inB t.qs 0 4 && (inB t.cap 0 64 && (inB t.out 0 64 && inB t.aud 0 64)))
def errT (t : TenM) : Int := if okT t then 0 else 2
def ConfM.ten (c : ConfM) : Nat → TenM
 | 0 => c.t0
 | 1 => c.t1
 | 2 => c.t2
 | 3 => c.t3
 | 4 => c.t4
 | _ => c.t5
def okR (r : RuleM) : Bool := inB r.owner 1 6 && (inB r.kind 0 25 && !(r.any && !(r.kind == 0)))
noncomputable def errR (r : RuleM) : Int := if okR r then (if belowB r.res r.auth then (if r.low ≤ r.high then 0 else 9) else 13) else 2
def SeenF (l : List ClsM) (n : Nat) (f : CV → Option SV) : Prop := ∀ x, f (.int .u64 x) = if seenB l n x then some (cb true) else none
theorem SeenF.nil (l : List ClsM) : SeenF l 0 fun _ => none := fun x => by simp [seenB]
theorem seenB_step {l : List ClsM} {n : Nat} (h : n < l.length) (x : Int) : seenB l (n + 1) x = (seenB l n x || (l.getD n default).lab == x) := by
 unfold seenB
 rw [List.take_add_one, List.getElem?_eq_getElem h, List.any_append]
 simp [List.getElem?_eq_getElem h]
theorem SeenF.step {l : List ClsM} {n : Nat} {f : CV → Option SV} (h : SeenF l n f) (hn : n < l.length) : SeenF l (n + 1) (updM (.int .u64 (l.getD n default).lab) (cb true) f) := fun x => by
 unfold updM
 rw [seenB_step hn, h x]
 simp only [keqB, ieq_eq]
 split
 ·rename_i hq
  have : x = (l.getD n default).lab := by simpa using hq
  subst this
  simp
 ·rename_i hq
  have hq : ¬ x = (l.getD n default).lab := by simpa using hq
  have : ((l.getD n default).lab == x) = false := by simpa using fun hh => hq (Eq.symm hh)
  rw [this, Bool.or_false]
theorem SeenF.allB {l : List ClsM} {n : Nat} {f : CV → Option SV} (h : SeenF l n f) (x : Int) : allB f (.int .u64 x) := fun v hv => by
 rw [h x] at hv
 split at hv
 ·cases hv; exact ⟨_, rfl⟩
 ·cases hv
theorem SeenF.mapB {l : List ClsM} {n : Nat} {f : CV → Option SV} (h : SeenF l n f) (x : Int) : mapB f (.int .u64 x) = seenB l n x := by
 unfold Go.Cx.mapB
 rw [h x]
 cases seenB l n x <;> rfl
theorem ysg {n m : Nat} {x y : Int} (h : n < m) (he : x = y) : (if n < m then some [ci n, ci x] else none) = some [ci n, ci y] := by
 rw [if_pos h, he]
theorem ysc {n : Int} {x y : Int} (he : x = y) : some [ci n, ci x] = some [ci n, ci y] := by rw [he]
theorem stt {n : Nat} {p : Prop} (h : (⟨n, true⟩ : Gh).st = false) : p := Bool.noConfusion h
theorem errT2 {t : TenM} (h : (!okT t) = true) : errT t = 2 := by
 unfold errT; rw [if_neg (by simpa using h)]
theorem errT0 {t : TenM} (h : (!okT t) = false) : errT t = 0 := by
 unfold errT; rw [if_pos (by simpa using h)]
set_option maxRecDepth 10000 in
theorem rules1_d (c : ConfM) (hl : c.rl.length ≤ 9223372036854775807) :
  DIter Tryz.prog noX [] 52 (fun l => [.cv (.yld l), .ipt (confS c) 0]) (fun n => if n < c.rl.length then some [ci n, ci (errR (c.rl.getD n default))] else none) (fun g v => v = .tup [] ∧ (g.st = false → g.n = c.rl.length)) := by
 refine diter_of { ann := [(1, [9])] } Tryz.func52 (by kernel_rfl) rfl fun l => ?_
 repeat' (
   (conv => whnf)
   first
    | exact closedB (by kernel_rfl)
    | refine And.intro ?_ ?_
    | refine splitB_intro ?_ ?_
    | ((refine ⟨fun vs O g => ∃ n : Nat, n ≤ c.rl.length ∧ vs = [ci n] ∧ O = [] ∧ g = ⟨n, false⟩, fun vs O => match vs with | [.cv (.int _ k)] => c.rl.length - k.toNat | _ => 0, ⟨0, Nat.zero_le _, rfl, rfl, rfl⟩, ?_⟩; rintro vs O g ⟨n, hn, rfl, rfl, rfl⟩))
    | (refine ⟨_, Below_d _ _, ?_⟩; rintro v O' ⟨rfl, rfl⟩)
    | intro _)
 all_goals first
  | rfl
  | omega
  | exact stt (by assumption)
  | exact ⟨n + 1, by (simp only [inB, List.getD_eq_getElem?_getD, Bool.and_eq_true, Bool.or_eq_true, Bool.and_eq_false_iff, Bool.or_eq_false_iff, Bool.not_eq_true', Bool.not_eq_false', decide_eq_true_eq, decide_eq_false_iff_not, beq_iff_eq, bne_iff_ne, bne_eq_false_iff_eq, beq_eq_false_iff_ne, Bool.false_eq_true, Bool.true_eq_false, ne_eq, true_iff, iff_true, false_iff, iff_false, Bool.not_eq_true, Bool.not_eq_false] at *; omega), rfl, rfl, rfl⟩
  | exact ysg (by (simp only [inB, List.getD_eq_getElem?_getD, Bool.and_eq_true, Bool.or_eq_true, Bool.and_eq_false_iff, Bool.or_eq_false_iff, Bool.not_eq_true', Bool.not_eq_false', decide_eq_true_eq, decide_eq_false_iff_not, beq_iff_eq, bne_iff_ne, bne_eq_false_iff_eq, beq_eq_false_iff_ne, Bool.false_eq_true, Bool.true_eq_false, ne_eq, true_iff, iff_true, false_iff, iff_false, Bool.not_eq_true, Bool.not_eq_false] at *; omega)) (by simp only [Int.toNat_natCast] at *; unfold errR; split <;> (try split) <;> (try split) <;> first | rfl | (exfalso; simp only [okR, inB] at *; simp only [inB, List.getD_eq_getElem?_getD, Bool.and_eq_true, Bool.or_eq_true, Bool.and_eq_false_iff, Bool.or_eq_false_iff, Bool.not_eq_true', Bool.not_eq_false', decide_eq_true_eq, decide_eq_false_iff_not, beq_iff_eq, bne_iff_ne, bne_eq_false_iff_eq, beq_eq_false_iff_ne, Bool.false_eq_true, Bool.true_eq_false, ne_eq, true_iff, iff_true, false_iff, iff_false, Bool.not_eq_true, Bool.not_eq_false] at *; grind))
  | ((try dsimp only); (simp only [inB, List.getD_eq_getElem?_getD, Bool.and_eq_true, Bool.or_eq_true, Bool.and_eq_false_iff, Bool.or_eq_false_iff, Bool.not_eq_true', Bool.not_eq_false', decide_eq_true_eq, decide_eq_false_iff_not, beq_iff_eq, bne_iff_ne, bne_eq_false_iff_eq, beq_eq_false_iff_ne, Bool.false_eq_true, Bool.true_eq_false, ne_eq, true_iff, iff_true, false_iff, iff_false, Bool.not_eq_true, Bool.not_eq_false] at *; omega))
set_option maxRecDepth 10000 in
theorem classes1_d (c : ConfM) (hl : c.cl.length ≤ 9223372036854775807) :
  DIter Tryz.prog noX [] 49 (fun l => [.cv (.yld l), .ipt (confS c) 0]) (fun n => if n < c.cl.length then some [ci n, ci (errC c.cl n)] else none) (fun g v => v = .tup [] ∧ (g.st = false → g.n = c.cl.length)) := by
 refine diter_of { ann := [(2, [11])] } Tryz.func49 (by kernel_rfl) rfl fun l => ?_
 repeat' (
   (conv => whnf)
   first
    | exact closedB (by kernel_rfl)
    | refine And.intro ?_ ?_
    | refine splitB_intro ?_ ?_
    | ((refine ⟨fun vs O g => ∃ (n : Nat) (f : CV → Option SV) (st : _), n ≤ c.cl.length ∧ SeenF c.cl n f ∧ vs = [ci n] ∧ O = [.map (.int .u64) f st] ∧ g = ⟨n, false⟩, fun vs O => match vs with | [.cv (.int _ k)] => c.cl.length - k.toNat | _ => 0, ⟨0, _, _, Nat.zero_le _, SeenF.nil _, rfl, rfl, rfl⟩, ?_⟩; rintro vs O g ⟨n, f, st, hn, hf, rfl, rfl, rfl⟩))
    | (refine ⟨_, within2_d _ _ _ _ _ _, ?_⟩; rintro v O' ⟨rfl, rfl⟩)
    | intro _)
 all_goals first
  | rfl
  | omega
  | exact stt (by assumption)
  | exact ⟨n + 1, _, _, by (simp only [inB, List.getD_eq_getElem?_getD, Bool.and_eq_true, Bool.or_eq_true, Bool.and_eq_false_iff, Bool.or_eq_false_iff, Bool.not_eq_true', Bool.not_eq_false', decide_eq_true_eq, decide_eq_false_iff_not, beq_iff_eq, bne_iff_ne, bne_eq_false_iff_eq, beq_eq_false_iff_ne, Bool.false_eq_true, Bool.true_eq_false, ne_eq, true_iff, iff_true, false_iff, iff_false, Bool.not_eq_true, Bool.not_eq_false] at *; omega), hf.step (by (simp only [inB, List.getD_eq_getElem?_getD, Bool.and_eq_true, Bool.or_eq_true, Bool.and_eq_false_iff, Bool.or_eq_false_iff, Bool.not_eq_true', Bool.not_eq_false', decide_eq_true_eq, decide_eq_false_iff_not, beq_iff_eq, bne_iff_ne, bne_eq_false_iff_eq, beq_eq_false_iff_ne, Bool.false_eq_true, Bool.true_eq_false, ne_eq, true_iff, iff_true, false_iff, iff_false, Bool.not_eq_true, Bool.not_eq_false] at *; omega)), rfl, rfl, rfl⟩
  | exact hf.allB _ _ (by assumption)
  | exact ysg (by (simp only [inB, List.getD_eq_getElem?_getD, Bool.and_eq_true, Bool.or_eq_true, Bool.and_eq_false_iff, Bool.or_eq_false_iff, Bool.not_eq_true', Bool.not_eq_false', decide_eq_true_eq, decide_eq_false_iff_not, beq_iff_eq, bne_iff_ne, bne_eq_false_iff_eq, beq_eq_false_iff_ne, Bool.false_eq_true, Bool.true_eq_false, ne_eq, true_iff, iff_true, false_iff, iff_false, Bool.not_eq_true, Bool.not_eq_false] at *; omega)) (by simp only [Int.toNat_natCast] at *; have hm := hf.mapB (c.cl.getD n default).lab; unfold errC okC; split <;> (try split) <;> first | rfl | (exfalso; simp only [inB, List.getD_eq_getElem?_getD, Bool.and_eq_true, Bool.or_eq_true, Bool.and_eq_false_iff, Bool.or_eq_false_iff, Bool.not_eq_true', Bool.not_eq_false', decide_eq_true_eq, decide_eq_false_iff_not, beq_iff_eq, bne_iff_ne, bne_eq_false_iff_eq, beq_eq_false_iff_ne, Bool.false_eq_true, Bool.true_eq_false, ne_eq, true_iff, iff_true, false_iff, iff_false, Bool.not_eq_true, Bool.not_eq_false] at *; grind))
  | ((try dsimp only); (simp only [inB, List.getD_eq_getElem?_getD, Bool.and_eq_true, Bool.or_eq_true, Bool.and_eq_false_iff, Bool.or_eq_false_iff, Bool.not_eq_true', Bool.not_eq_false', decide_eq_true_eq, decide_eq_false_iff_not, beq_iff_eq, bne_iff_ne, bne_eq_false_iff_eq, beq_eq_false_iff_ne, Bool.false_eq_true, Bool.true_eq_false, ne_eq, true_iff, iff_true, false_iff, iff_false, Bool.not_eq_true, Bool.not_eq_false] at *; omega))
set_option maxRecDepth 100000 in
theorem tenants1_d (c : ConfM) :
  DIter Tryz.prog noX [] 51 (fun l => [.cv (.yld l), .ipt (confS c) 0]) (fun n => if n < 6 then some [ci n, ci (errT (c.ten n))] else none) (fun g v => v = .tup [] ∧ (g.st = false → g.n = 6)) := by
 refine diter_of { ann := [(2, [15, 3])] } Tryz.func51 (by kernel_rfl) rfl fun l => ?_
 repeat' (
   (conv => whnf)
   first
    | exact closedB (by kernel_rfl)
    | refine And.intro ?_ ?_
    | refine splitB_intro ?_ ?_
    | ((refine ⟨fun vs O g => ∃ n : Nat, n ≤ 6 ∧ vs = [ci n, .lst 0] ∧ O = [.list 145 2 5 (cutEl 2 [ci 1, ci 64, ci 0, ci 4, ci 0, ci 64, ci 0, ci 64, ci 0, ci 64])] ∧ g = ⟨n, false⟩, fun vs O => match vs with | [.cv (.int _ k), _] => 6 - k.toNat | _ => 0, ⟨0, by decide, rfl, rfl, rfl⟩, ?_⟩; rintro vs O g ⟨n, hn, rfl, rfl, rfl⟩; obtain rfl | rfl | rfl | rfl | rfl | rfl | rfl : n = 0 ∨ n = 1 ∨ n = 2 ∨ n = 3 ∨ n = 4 ∨ n = 5 ∨ n = 6 := by omega))
    | (refine ⟨_, within5_d _ _ _ _ _ _ _ _ _ _ _ _ _ _ _, ?_⟩; rintro v O' ⟨rfl, rfl⟩)
    | intro _)
 all_goals first
  | rfl
  | omega
  | exact stt (by assumption)
  | exact ⟨0 + 1, by decide, rfl, rfl, rfl⟩
  | exact ⟨1 + 1, by decide, rfl, rfl, rfl⟩
  | exact ⟨2 + 1, by decide, rfl, rfl, rfl⟩
  | exact ⟨3 + 1, by decide, rfl, rfl, rfl⟩
  | exact ⟨4 + 1, by decide, rfl, rfl, rfl⟩
  | exact ⟨5 + 1, by decide, rfl, rfl, rfl⟩
  | decide
  | (rename_i hh; exact ysc (errT0 hh))
  | (rename_i hh; exact ysc (errT2 hh))
end Go.Proofs.YtnbpkbjhekgfoaaGreatDoor
