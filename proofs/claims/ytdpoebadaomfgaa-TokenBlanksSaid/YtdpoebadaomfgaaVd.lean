/-
  A verification-condition generator for Go's IR. Part d: 'qop' joined.
-/
import Derived.Test.YtdpoebadaomfgaaVc
set_option linter.unusedSimpArgs false
set_option linter.unusedVariables false
namespace Go.Pw
open Go Go.RowKit
variable {G : Base} {e : Env} {S : SS} {P : Program}

theorem qno {s : Sem Next} : QOk G e S P .no s := trivial

theorem qmove {a : Act} (hT : TOk e S.o.length S.t a.tmps) (x : Operand) : QOk G e S P (.val none (ev S.t x)) (pure (.value (a.eval x))) :=
  fun _ => ⟨_, ev_sat hT x, fun _ _ => rfl⟩

theorem satO {a : Act} (hT : TOk e S.o.length S.t a.tmps) (x : Option Operand) : SatO e S.o.length (x.map (ev S.t)) (x.map a.eval) := by
  cases x with
  | none => trivial
  | some x => exact ev_sat hT x

theorem partsSat {a : Act} (hT : TOk e S.o.length S.t a.tmps) : ∀ l : List (Nat × Operand), PartsSat e S.o.length (l.map fun p => (p.1, ev S.t p.2)) (l.map fun p => (p.1, a.eval p.2))
  | [] => trivial
  | p :: l => ⟨rfl, ev_sat hT p.2, partsSat hT l⟩

theorem qbuiltin {a : Act} {b : Builtin} {args : Array Operand} {ats : Array TypeId} {o : Oper} (ho : o.op = .call { callee := .builtin b, args, argTypes := ats }) {r : QR} {s : Sem Value}
    (hb : ∀ consts, builtin b ats o.type consts (args.map a.eval) = (do pure (.value (← s)))) (h : QOkV G e S P r s) : QOk G e S P r (execOp a.eval o) := by
  have : execOp a.eval o = (do pure (.value (← s))) := by
    unfold execOp
    rw [ho]
    exact hb _
  rw [this]
  exact h.next

theorem qop_ok {a : Act} (hT : TOk e S.o.length S.t a.tmps) (hO : ObB S) (c : Cfg) (o : Oper) : QOk G e S P (qop P c S o.op) (execOp a.eval o) := by
  have E := fun x => ev_sat hT x
  obtain ⟨dst, op, ty, pos, after, guard⟩ := o
  cases op with
  | move x => exact qmove hT x
  | assign x => exact qmove hT x
  | pick b x y =>
    have hb := E b
    simp only [qop]
    split
    · rename_i h
      have h1 := (E b).eq (by rw [h]; simp)
      rw [h] at h1
      exact fun _ => ⟨_, E x, fun w _ => by simp [execOp, h1, den, asBool]⟩
    · rename_i h
      have h1 := (E b).eq (by rw [h]; simp)
      rw [h] at h1
      exact fun _ => ⟨_, E y, fun w _ => by simp [execOp, h1, den, asBool]⟩
    · trivial
  | nilCheck x => exact sNil_ok (E x) x a rfl _ rfl
  | binOp op t x y z => exact (sBin_ok (E x) (E y) c op t x y).next
  | unOp op t x => exact (sUn_ok (E x) c op).next
  | convert s d x => exact (sConv_ok (E x) c s d).next
  | fieldAddr s x f => exact (sFieldAddr_ok (E x) s f).next
  | field t x f => exact (sField_ok (E x) t f).next
  | index t x i => exact (sIndex_ok (E x) (E i) t).next
  | indexAddr t x i => exact (sIndexAddr_ok (E x) (E i) t).next
  | slice t x lo hi mx => exact (sSlice_ok (E x) (satO hT lo) (satO hT hi) (satO hT mx) t).next
  | extract x i => exact (sExtract_ok (E x) i).next
  | load t x => exact (sLoad_ok hO (E x) t).next
  | build t parts =>
    have h := sBuild_ok (G := G) (P := P) (partsSat (e := e) hT parts.toList) t
    have hp : (parts.toList.map fun p => (p.1, a.eval p.2)).toArray = parts.map fun p => (p.1, a.eval p.2) := by
      obtain ⟨l⟩ := parts; simp
    rw [hp] at h
    exact h.next
  | makeFunc fn x y =>
    simp only [qop]
    split
    · rename_i h
      simp only [Bool.and_eq_true] at h
      obtain ⟨h1, h1'⟩ := SatL_den hT x.toList h.1
      obtain ⟨h2, h2'⟩ := SatL_den hT y.toList h.2
      intro _
      refine ⟨_, .inr ⟨rfl, by simp [bel, h1', h2']⟩, fun w _ => ?_⟩
      have e1 : x.map a.eval = (denL e (x.toList.map (ev S.t))).toArray := by rw [← h1]; obtain ⟨l⟩ := x; simp
      have e2 : y.map a.eval = (denL e (y.toList.map (ev S.t))).toArray := by rw [← h2]; obtain ⟨l⟩ := y; simp
      simp [execOp, Instr.makeFunc, den, e1, e2]
    · trivial
  | call c =>
    obtain ⟨callee, args, ats⟩ := c
    cases callee with
    | value f => exact qno
    | invoke r m => exact qno
    | builtin b =>
      cases b <;> first
        | exact qno
        | skip
      · -- len
        simp only [qop]
        split
        · rename_i x t h1 h2
          have e1 : args = #[x] := by rw [← Array.toList_inj]; exact h1
          have e2 : ats = #[t] := by rw [← Array.toList_inj]; exact h2
          subst e1; subst e2
          exact qbuiltin rfl (s := Builtin.len_ #[t] ty #[a.eval x]) (fun _ => by simp [builtin]) (sLen_ok (E x) t _)
        · trivial
      · -- max
        refine qbuiltin rfl (s := Builtin.max_ ats ty (args.map a.eval)) (fun _ => rfl) ?_
        have := sMinMax_ok (G := G) (S := S) (P := P) (e := e) true (vs := args.toList.map a.eval) (xs := args.toList.map (ev S.t)) (fun hj => (SatL_den hT _ hj).1) ats ty
        have e1 : (args.toList.map a.eval).toArray = args.map a.eval := by obtain ⟨l⟩ := args; simp
        rw [e1] at this
        exact this
      · -- min
        refine qbuiltin rfl (s := Builtin.min_ ats ty (args.map a.eval)) (fun _ => rfl) ?_
        have := sMinMax_ok (G := G) (S := S) (P := P) (e := e) false (vs := args.toList.map a.eval) (xs := args.toList.map (ev S.t)) (fun hj => (SatL_den hT _ hj).1) ats ty
        have e1 : (args.toList.map a.eval).toArray = args.map a.eval := by obtain ⟨l⟩ := args; simp
        rw [e1] at this
        exact this
  | _ => exact qno
end Go.Pw
