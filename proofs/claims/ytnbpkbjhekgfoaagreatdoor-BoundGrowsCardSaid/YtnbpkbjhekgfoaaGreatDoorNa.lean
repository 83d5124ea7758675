import Derived.Test.YtnbpkbjhekgfoaaGreatDoorGg
import Derived.Test.YtnbpkbjhekgfoaaGreatDoorProg
import Derived.KernelRfl
set_option linter.unusedSimpArgs false
set_option linter.unusedVariables false
namespace Go.Proofs.YtnbpkbjhekgfoaaGreatDoor
open Go Go.Cx
noncomputable def bkX : Ext := fun f => match Nat.beq f 4 with
 | true => some fun _ args => match args with
  | [] => some (.bool true)
  | _ :: _ => none
 | false => none
noncomputable abbrev noX : Ext := bkX
theorem BoundKnown_d : DSpec Tryz.prog noX [] 4 [] [] (fun v O => v = SV.cv (.bool true) ∧ O = []) :=
 dspec_ext (g := fun _ args => match args with | [] => some (.bool true) | _ :: _ => none) rfl (y := .bool true) (fun _ _ => .cv rfl) (fun _ _ _ _ h => by cases h; rfl) rfl
structure ClsM where
 lab : Int
 size : Int
 rate : Int
 deriving Inhabited
structure RuleM where
 owner : Int
 auth : Int
 res : Int
 any : Bool
 kind : Int
 low : Int
 high : Int
 deriving Inhabited
structure TenM where
 bud : Int
 qs : Int
 cap : Int
 out : Int
 aud : Int
 deriving Inhabited
structure ConfM where
 cl : List ClsM
 t0 : TenM
 t1 : TenM
 t2 : TenM
 t3 : TenM
 t4 : TenM
 t5 : TenM
 rl : List RuleM
 hz : Int
@[reducible] def ci (x : Int) : SV := .cv (.int .i64 x)
@[reducible] def cu (x : Int) : SV := .cv (.int .u64 x)
@[reducible] def cb (x : Bool) : SV := .cv (.bool x)
def clsS (c : ClsM) : List SV := [cu c.lab, ci c.size, ci c.rate]
def clsEl (l : List ClsM) : Nat → List SV := fun i => clsS (l.getD i default)
def ruleS (r : RuleM) : List SV := [ci r.owner, cu r.auth, cu r.res, cb r.any, ci r.kind, ci r.low, ci r.high]
def rulesEl (l : List RuleM) : Nat → List SV := fun i => ruleS (l.getD i default)
def tenS (t : TenM) : List SV := [ci t.bud, ci t.qs, ci t.cap, ci t.out, ci t.aud]
def confS (c : ConfM) : List SV := [.isl 3 c.cl.length (clsEl c.cl), ci c.t0.bud, ci c.t0.qs, ci c.t0.cap, ci c.t0.out, ci c.t0.aud, ci c.t1.bud, ci c.t1.qs, ci c.t1.cap, ci c.t1.out, ci c.t1.aud, ci c.t2.bud, ci c.t2.qs, ci c.t2.cap, ci c.t2.out, ci c.t2.aud, ci c.t3.bud, ci c.t3.qs, ci c.t3.cap, ci c.t3.out, ci c.t3.aud, ci c.t4.bud, ci c.t4.qs, ci c.t4.cap, ci c.t4.out, ci c.t4.aud, ci c.t5.bud, ci c.t5.qs, ci c.t5.cap, ci c.t5.out, ci c.t5.aud, .isl 7 c.rl.length (rulesEl c.rl), cu c.hz]
def inB (x l h : Int) : Bool := decide (l ≤ x) && decide (x ≤ h)
noncomputable def belowB (a b : Int) : Bool := b2 .andNot .u64 a b == 0
theorem Below_d (a b : Int) : DSpec Tryz.prog noX [] 53 [cu a, cu b] [] (fun v O => v = cb (belowB a b) ∧ O = []) := by
 refine dspec_of {} true Tryz.func53 (by kernel_rfl) rfl ?_
 repeat' (
   (conv => whnf)
   first
    | exact closedB (by kernel_rfl)
    | refine And.intro ?_ ?_
    | refine splitB_intro ?_ ?_
    | intro _)
 all_goals rfl
set_option maxRecDepth 10000 in
theorem within2_d (x0 x1 l0 h0 l1 h1 : Int) : DSpec Tryz.prog noX [] 50 [.isl 1 2 (cutEl 1 [ci x0, ci x1]), .isl 2 2 (cutEl 2 [ci l0, ci h0, ci l1, ci h1])] [] (fun v O => v = cb (inB x0 l0 h0 && inB x1 l1 h1) ∧ O = []) := by
 refine dspec_of { ann := [(2, [9])] } true Tryz.func50 (by kernel_rfl) rfl ?_
 repeat' (
   (conv => whnf)
   first
    | exact closedB (by kernel_rfl)
    | refine And.intro ?_ ?_
    | refine splitB_intro ?_ ?_
    | ((refine ⟨fun vs O _ => ∃ k : Nat, k ≤ 2 ∧ (0 < k → inB x0 l0 h0 = true) ∧ (1 < k → inB x1 l1 h1 = true) ∧ vs = [ci k] ∧ O = [], fun vs O => match vs with | [.cv (.int _ k)] => 2 - k.toNat | _ => 0, ⟨0, by decide, by simp, by simp, rfl, rfl⟩, ?_⟩; rintro vs O _ ⟨k, hk, hw0, hw1, rfl, rfl⟩; obtain rfl | rfl | rfl : k = 0 ∨ k = 1 ∨ k = 2 := by omega))
    | intro _)
 all_goals first
  | rfl
  | omega
  | ((try (refine congrArg (fun b => SV.cv (CV.bool b)) ?_)); (try rw [Bool.eq_iff_iff]); simp only [inB, List.getD_eq_getElem?_getD, Bool.and_eq_true, Bool.or_eq_true, Bool.and_eq_false_iff, Bool.or_eq_false_iff, Bool.not_eq_true', Bool.not_eq_false', decide_eq_true_eq, decide_eq_false_iff_not, beq_iff_eq, bne_iff_ne, bne_eq_false_iff_eq, beq_eq_false_iff_ne, Bool.false_eq_true, Bool.true_eq_false, ne_eq, true_iff, iff_true, false_iff, iff_false, Bool.not_eq_true, Bool.not_eq_false] at *; first | done | omega)
  | exact ⟨0 + 1, by decide, fun _ => by ((try (refine congrArg (fun b => SV.cv (CV.bool b)) ?_)); (try rw [Bool.eq_iff_iff]); simp only [inB, List.getD_eq_getElem?_getD, Bool.and_eq_true, Bool.or_eq_true, Bool.and_eq_false_iff, Bool.or_eq_false_iff, Bool.not_eq_true', Bool.not_eq_false', decide_eq_true_eq, decide_eq_false_iff_not, beq_iff_eq, bne_iff_ne, bne_eq_false_iff_eq, beq_eq_false_iff_ne, Bool.false_eq_true, Bool.true_eq_false, ne_eq, true_iff, iff_true, false_iff, iff_false, Bool.not_eq_true, Bool.not_eq_false] at *; first | done | omega), fun h => absurd h (by decide), rfl, rfl⟩
  | exact ⟨1 + 1, by decide, fun _ => hw0 (by decide), fun _ => by ((try (refine congrArg (fun b => SV.cv (CV.bool b)) ?_)); (try rw [Bool.eq_iff_iff]); simp only [inB, List.getD_eq_getElem?_getD, Bool.and_eq_true, Bool.or_eq_true, Bool.and_eq_false_iff, Bool.or_eq_false_iff, Bool.not_eq_true', Bool.not_eq_false', decide_eq_true_eq, decide_eq_false_iff_not, beq_iff_eq, bne_iff_ne, bne_eq_false_iff_eq, beq_eq_false_iff_ne, Bool.false_eq_true, Bool.true_eq_false, ne_eq, true_iff, iff_true, false_iff, iff_false, Bool.not_eq_true, Bool.not_eq_false] at *; first | done | omega), rfl, rfl⟩
set_option maxRecDepth 10000 in
theorem within5_d (x0 x1 x2 x3 x4 l0 h0 l1 h1 l2 h2 l3 h3 l4 h4 : Int) : DSpec Tryz.prog noX [] 50 [.isl 1 5 (cutEl 1 [ci x0, ci x1, ci x2, ci x3, ci x4]), .isl 2 5 (cutEl 2 [ci l0, ci h0, ci l1, ci h1, ci l2, ci h2, ci l3, ci h3, ci l4, ci h4])] [] (fun v O => v = cb (inB x0 l0 h0 && (inB x1 l1 h1 && (inB x2 l2 h2 && (inB x3 l3 h3 && inB x4 l4 h4)))) ∧ O = []) := by
 refine dspec_of { ann := [(2, [9])] } true Tryz.func50 (by kernel_rfl) rfl ?_
 repeat' (
   (conv => whnf)
   first
    | exact closedB (by kernel_rfl)
    | refine And.intro ?_ ?_
    | refine splitB_intro ?_ ?_
    | ((refine ⟨fun vs O _ => ∃ k : Nat, k ≤ 5 ∧ (0 < k → inB x0 l0 h0 = true) ∧ (1 < k → inB x1 l1 h1 = true) ∧ (2 < k → inB x2 l2 h2 = true) ∧ (3 < k → inB x3 l3 h3 = true) ∧ (4 < k → inB x4 l4 h4 = true) ∧ vs = [ci k] ∧ O = [], fun vs O => match vs with | [.cv (.int _ k)] => 5 - k.toNat | _ => 0, ⟨0, by decide, by simp, by simp, by simp, by simp, by simp, rfl, rfl⟩, ?_⟩; rintro vs O _ ⟨k, hk, hw0, hw1, hw2, hw3, hw4, rfl, rfl⟩; obtain rfl | rfl | rfl | rfl | rfl | rfl : k = 0 ∨ k = 1 ∨ k = 2 ∨ k = 3 ∨ k = 4 ∨ k = 5 := by omega))
    | intro _)
 all_goals first
  | rfl
  | omega
  | ((try (refine congrArg (fun b => SV.cv (CV.bool b)) ?_)); (try rw [Bool.eq_iff_iff]); simp only [inB, List.getD_eq_getElem?_getD, Bool.and_eq_true, Bool.or_eq_true, Bool.and_eq_false_iff, Bool.or_eq_false_iff, Bool.not_eq_true', Bool.not_eq_false', decide_eq_true_eq, decide_eq_false_iff_not, beq_iff_eq, bne_iff_ne, bne_eq_false_iff_eq, beq_eq_false_iff_ne, Bool.false_eq_true, Bool.true_eq_false, ne_eq, true_iff, iff_true, false_iff, iff_false, Bool.not_eq_true, Bool.not_eq_false] at *; first | done | omega)
  | exact ⟨0 + 1, by decide, fun _ => by ((try (refine congrArg (fun b => SV.cv (CV.bool b)) ?_)); (try rw [Bool.eq_iff_iff]); simp only [inB, List.getD_eq_getElem?_getD, Bool.and_eq_true, Bool.or_eq_true, Bool.and_eq_false_iff, Bool.or_eq_false_iff, Bool.not_eq_true', Bool.not_eq_false', decide_eq_true_eq, decide_eq_false_iff_not, beq_iff_eq, bne_iff_ne, bne_eq_false_iff_eq, beq_eq_false_iff_ne, Bool.false_eq_true, Bool.true_eq_false, ne_eq, true_iff, iff_true, false_iff, iff_false, Bool.not_eq_true, Bool.not_eq_false] at *; first | done | omega), fun h => absurd h (by decide), fun h => absurd h (by decide), fun h => absurd h (by decide), fun h => absurd h (by decide), rfl, rfl⟩
  | exact ⟨1 + 1, by decide, fun _ => hw0 (by decide), fun _ => by ((try (refine congrArg (fun b => SV.cv (CV.bool b)) ?_)); (try rw [Bool.eq_iff_iff]); simp only [inB, List.getD_eq_getElem?_getD, Bool.and_eq_true, Bool.or_eq_true, Bool.and_eq_false_iff, Bool.or_eq_false_iff, Bool.not_eq_true', Bool.not_eq_false', decide_eq_true_eq, decide_eq_false_iff_not, beq_iff_eq, bne_iff_ne, bne_eq_false_iff_eq, beq_eq_false_iff_ne, Bool.false_eq_true, Bool.true_eq_false, ne_eq, true_iff, iff_true, false_iff, iff_false, Bool.not_eq_true, Bool.not_eq_false] at *; first | done | omega), fun h => absurd h (by decide), fun h => absurd h (by decide), fun h => absurd h (by decide), rfl, rfl⟩
  | exact ⟨2 + 1, by decide, fun _ => hw0 (by decide), fun _ => hw1 (by decide), fun _ => by ((try (refine congrArg (fun b => SV.cv (CV.bool b)) ?_)); (try rw [Bool.eq_iff_iff]); simp only [inB, List.getD_eq_getElem?_getD, Bool.and_eq_true, Bool.or_eq_true, Bool.and_eq_false_iff, Bool.or_eq_false_iff, Bool.not_eq_true', Bool.not_eq_false', decide_eq_true_eq, decide_eq_false_iff_not, beq_iff_eq, bne_iff_ne, bne_eq_false_iff_eq, beq_eq_false_iff_ne, Bool.false_eq_true, Bool.true_eq_false, ne_eq, true_iff, iff_true, false_iff, iff_false, Bool.not_eq_true, Bool.not_eq_false] at *; first | done | omega), fun h => absurd h (by decide), fun h => absurd h (by decide), rfl, rfl⟩
  | exact ⟨3 + 1, by decide, fun _ => hw0 (by decide), fun _ => hw1 (by decide), fun _ => hw2 (by decide), fun _ => by ((try (refine congrArg (fun b => SV.cv (CV.bool b)) ?_)); (try rw [Bool.eq_iff_iff]); simp only [inB, List.getD_eq_getElem?_getD, Bool.and_eq_true, Bool.or_eq_true, Bool.and_eq_false_iff, Bool.or_eq_false_iff, Bool.not_eq_true', Bool.not_eq_false', decide_eq_true_eq, decide_eq_false_iff_not, beq_iff_eq, bne_iff_ne, bne_eq_false_iff_eq, beq_eq_false_iff_ne, Bool.false_eq_true, Bool.true_eq_false, ne_eq, true_iff, iff_true, false_iff, iff_false, Bool.not_eq_true, Bool.not_eq_false] at *; first | done | omega), fun h => absurd h (by decide), rfl, rfl⟩
  | exact ⟨4 + 1, by decide, fun _ => hw0 (by decide), fun _ => hw1 (by decide), fun _ => hw2 (by decide), fun _ => hw3 (by decide), fun _ => by ((try (refine congrArg (fun b => SV.cv (CV.bool b)) ?_)); (try rw [Bool.eq_iff_iff]); simp only [inB, List.getD_eq_getElem?_getD, Bool.and_eq_true, Bool.or_eq_true, Bool.and_eq_false_iff, Bool.or_eq_false_iff, Bool.not_eq_true', Bool.not_eq_false', decide_eq_true_eq, decide_eq_false_iff_not, beq_iff_eq, bne_iff_ne, bne_eq_false_iff_eq, beq_eq_false_iff_ne, Bool.false_eq_true, Bool.true_eq_false, ne_eq, true_iff, iff_true, false_iff, iff_false, Bool.not_eq_true, Bool.not_eq_false] at *; first | done | omega), rfl, rfl⟩
end Go.Proofs.YtnbpkbjhekgfoaaGreatDoor
