import Derived.Test.YtlfhikphdkpfgaaGreatDoorGh
set_option linter.unusedSimpArgs false
set_option linter.unusedVariables false
namespace Go.Proofs.YtlfhikphdkpfgaaGreatDoor
open Go Go.Cx
@[reducible] def ai (x : Int) : SV := .cv (.int .i64 x)
@[reducible] def au (x : Int) : SV := .cv (.int .u64 x)
@[reducible] def ab (x : Bool) : SV := .cv (.bool x)
def nm (x : List UInt8) : List Nat := x.map UInt8.toNat
@[reducible] def zrz (x : List UInt8) : SV := .cv (.str (nm x))
structure CondM where
 op : Int
 val : Int
 deriving Inhabited, DecidableEq
structure AtomM where
 kind : Int
 bnd : Bool
 bound : Int
 cs : List CondM
 name : List UInt8
 deriving Inhabited, DecidableEq
inductive NodeM where
 | mk (kind mn mx : Int) (atom : AtomM) (kids : List NodeM)
instance : Inhabited NodeM := ⟨.mk 0 0 0 default []⟩
def NodeM.kind : NodeM -> Int | .mk k _ _ _ _ => k
def NodeM.mn : NodeM -> Int | .mk _ x _ _ _ => x
def NodeM.mx : NodeM -> Int | .mk _ _ x _ _ => x
def NodeM.atom : NodeM -> AtomM | .mk _ _ _ a _ => a
def NodeM.kids : NodeM -> List NodeM | .mk _ _ _ _ l => l
structure AggM where
 fn : Int
 name : List UInt8
 deriving Inhabited, DecidableEq
structure HaveM where
 agg : AggM
 cond : CondM
 deriving Inhabited, DecidableEq
structure QueryM where
 p : NodeM
 within : Int
 hv : List HaveM
 em : List AggM
 deriving Inhabited
def ztd (c : CondM) : List SV := [ai c.op, ai c.val]
def zdx (l : List CondM) : Nat -> List SV := fun i => ztd (l.getD i default)
def zcU (a : AtomM) : List SV := [ai a.kind, ab a.bnd, au a.bound, .isl 2 a.cs.length (zdx a.cs), zrz a.name]
def zxC (a : AggM) : List SV := [ai a.fn, zrz a.name]
def zuV (l : List AggM) : Nat -> List SV := fun i => zxC (l.getD i default)
def zv7 (h : HaveM) : List SV := [ai h.agg.fn, zrz h.agg.name, ai h.cond.op, ai h.cond.val]
def zpH (l : List HaveM) : Nat -> List SV := fun i => zv7 (l.getD i default)
def zcg (n : NodeM) (k : Nat -> List SV) : List SV := [ai n.kind, ai n.mn, ai n.mx, ai n.atom.kind, ab n.atom.bnd, au n.atom.bound, .isl 2 n.atom.cs.length (zdx n.atom.cs), zrz n.atom.name, .isl 9 n.kids.length k]
mutual
def nodeW : NodeM -> List SV
 | .mk kind mn mx a kids => [ai kind, ai mn, ai mx, ai a.kind, ab a.bnd, au a.bound, .isl 2 a.cs.length (zdx a.cs), zrz a.name, .isl 9 kids.length fun i => (nodesW kids).getD i ((nodesW kids).headD [])]
def nodesW : List NodeM -> List (List SV)
 | [] => []
 | n :: r => nodeW n :: nodesW r
end
def zbY (l : List NodeM) : Nat -> List SV := fun i => (nodesW l).getD i ((nodesW l).headD [])
def zah (n : NodeM) : List SV := zcg n (zbY n.kids)
theorem zvA (n : NodeM) : nodeW n = zah n := by cases n; rw [nodeW]; rfl
theorem zgm : ∀ l : List NodeM, nodesW l = l.map zah
 | [] => by rw [nodesW]; rfl
 | n :: r => by rw [nodesW, zvA, zgm r]; rfl
@[reducible] def atN (l : List NodeM) (i : Nat) : NodeM := l.getD i (l.headD default)
theorem zpa {l : List NodeM} (h : l ≠ []) : zbY l = fun i => zah (atN l i) := by
 funext i
 unfold zbY atN
 rw [zgm, List.getD_eq_getElem?_getD, List.getElem?_map, List.getD_eq_getElem?_getD]
 cases l with
 | nil => exact absurd rfl h
 | cons a r =>
  cases (a :: r)[i]? with
  | some x => rfl
  | none => rfl
theorem zbr (n : NodeM) : n.kids.length = 0 \/ zah n = zcg n (fun i => zah (atN n.kids i)) := by
 cases h : n.kids with
 | nil => exact .inl rfl
 | cons a r =>
  refine .inr ?_
  show zcg n (zbY n.kids) = _
  rw [zpa (by rw [h]; simp), h]
theorem zqN (l : List NodeM) : l.length = 0 \/ zbY l = fun i => zah (atN l i) := by
 cases l with
 | nil => exact .inl rfl
 | cons a r => exact .inr (zpa (by simp))
theorem zaY {l : List NodeM} {k : Nat} (hk : k < l.length) : atN l k ∈ l := by
 unfold atN
 rw [List.getD_eq_getElem?_getD, List.getElem?_eq_getElem hk]; exact List.getElem_mem hk
theorem zhb {l : List NodeM} {k : Nat} (hk : k < l.length) : atN l k = l[k] := by
 unfold atN
 rw [List.getD_eq_getElem?_getD, List.getElem?_eq_getElem hk]; rfl
theorem stA {n : Nat} {p : Prop} (h : (⟨n, true⟩ : Gh).st = false) : p := Bool.noConfusion h
def zaj (q : QueryM) : List SV := [ai q.p.kind, ai q.p.mn, ai q.p.mx, ai q.p.atom.kind, ab q.p.atom.bnd, au q.p.atom.bound, .isl 2 q.p.atom.cs.length (zdx q.p.atom.cs), zrz q.p.atom.name, .isl 9 q.p.kids.length (zbY q.p.kids), au q.within, .isl 4 q.hv.length (zpH q.hv), .isl 2 q.em.length (zuV q.em)]
mutual

def NodeM.dep : NodeM -> Nat
 | .mk _ _ _ _ kids => depL kids + 1
def depL : List NodeM -> Nat
 | [] => 0
 | n :: r => max n.dep (depL r)
end
theorem zbI (n : NodeM) : n.dep = depL n.kids + 1 := by cases n; rw [NodeM.dep]; rfl
theorem zn4 {n : NodeM} : ∀ {l : List NodeM}, n ∈ l -> n.dep ≤ depL l
 | [], h => by cases h
 | m :: r, h => by
  rw [depL]
  rcases List.mem_cons.1 h with rfl | h
  ·omega
  ·have := zn4 h; omega
theorem zld : ∀ {l : List NodeM}, l ≠ [] -> ∃ m ∈ l, m.dep = depL l
 | [], h => absurd rfl h
 | [n], _ => ⟨n, List.mem_cons_self, by rw [depL, depL]; omega⟩
 | n :: a :: r, _ => by
  obtain ⟨m, hm, he⟩ := zld (l := a :: r) (by simp)
  rw [depL]
  by_cases h : n.dep ≤ depL (a :: r)
  ·exact ⟨m, List.mem_cons_of_mem _ hm, by omega⟩
  ·exact ⟨n, List.mem_cons_self, by omega⟩
theorem zgU {n m : NodeM} (h : m ∈ n.kids) : m.dep < n.dep := by
 have := zn4 h
 rw [zbI n]; omega
theorem zbH {p : NodeM -> Prop} (h : ∀ n, (∀ m ∈ n.kids, p m) -> p n) (n : NodeM) : p n := by
 have key : ∀ d n, NodeM.dep n ≤ d -> p n := by
  intro d
  induction d with
  | zero => intro n hn; rw [zbI] at hn; omega
  | succ d ih => intro n hn; exact h n fun m hm => ih m (by have := zgU hm; omega)
 exact key n.dep n (Nat.le_refl _)
def pre (f : Nat) (d : Int) (n : NodeM) : List (Int × NodeM) := match f with
 | 0 => []
 | f + 1 => (d, n) :: n.kids.flatMap (pre f (d + 1))
theorem zpd : ∀ {f : Nat} {d : Int} {n : NodeM} {g : Nat}, n.dep ≤ f -> n.dep ≤ g -> pre f d n = pre g d n
 | 0, d, n, _, h, _ => by rw [zbI] at h; omega
 | _ + 1, d, n, 0, _, h => by rw [zbI] at h; omega
 | f + 1, d, n, g + 1, h1, h2 => by
  show (d, n) :: n.kids.flatMap (pre f (d + 1)) = (d, n) :: n.kids.flatMap (pre g (d + 1))
  congr 1
  have : ∀ l : List NodeM, (∀ m ∈ l, m ∈ n.kids) -> l.flatMap (pre f (d + 1)) = l.flatMap (pre g (d + 1)) := by
   intro l
   induction l with
   | nil => intro _; rfl
   | cons m r ih =>
    intro h
    have hm := zgU (h m List.mem_cons_self)
    rw [List.flatMap_cons, List.flatMap_cons, ih fun x hx => h x (List.mem_cons_of_mem _ hx), zpd (f := f) (g := g) (by omega) (by omega)]
  exact this _ fun m hm => hm
def zaL (d : Int) (n : NodeM) : List (Int × NodeM) := pre n.dep d n
theorem zbg (d : Int) (n : NodeM) : zaL d n = (d, n) :: n.kids.flatMap (zaL (d + 1)) := by
 unfold zaL
 rw [zbI]
 show (d, n) :: n.kids.flatMap (pre (depL n.kids) (d + 1)) = _
 congr 1
 have : ∀ l : List NodeM, (∀ m ∈ l, m.dep ≤ depL n.kids) -> l.flatMap (pre (depL n.kids) (d + 1)) = l.flatMap (zaL (d + 1)) := by
  intro l
  induction l with
  | nil => intro _; rfl
  | cons m r ih =>
   intro h
   rw [List.flatMap_cons, List.flatMap_cons, ih fun x hx => h x (List.mem_cons_of_mem _ hx)]
   unfold zaL
   rw [zpd (h m List.mem_cons_self) (Nat.le_refl _)]
 exact this _ fun m hm => zn4 hm
theorem zsu {d : Int} {n m : NodeM} (h : m ∈ n.kids) {p : Int × NodeM} (hp : p ∈ zaL (d + 1) m) : p ∈ zaL d n := by
 rw [zbg]
 exact List.mem_cons_of_mem _ (List.mem_flatMap.2 ⟨m, h, hp⟩)
def Fit (n : NodeM) : Prop := ∀ d p, p ∈ zaL d n -> p.2.kids.length ≤ 1000000 /\ p.2.atom.cs.length ≤ 1000000
theorem Fit.kid {n m : NodeM} (h : Fit n) (hm : m ∈ n.kids) : Fit m := fun d p hp => by
 have := h (d - 1) p
 exact this (zsu hm (by rw [show d - 1 + 1 = d by omega]; exact hp))
theorem Fit.self {n : NodeM} (h : Fit n) : n.kids.length ≤ 1000000 /\ n.atom.cs.length ≤ 1000000 := h 0 (0, n) (by rw [zbg]; exact List.mem_cons_self)
structure NFit (n : NodeM) : Prop where
 fit : Fit n
 dep : n.dep ≤ 100000
 num : (zaL 1 n).length ≤ 100000
structure QFit (q : QueryM) : Prop extends NFit q.p where
 hv : q.hv.length ≤ 1000000
 em : q.em.length ≤ 1000000
end Go.Proofs.YtlfhikphdkpfgaaGreatDoor
