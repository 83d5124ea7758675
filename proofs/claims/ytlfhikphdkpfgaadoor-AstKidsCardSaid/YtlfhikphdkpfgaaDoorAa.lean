import Derived.Test.YtlfhikphdkpfgaaDoorGh
set_option linter.unusedSimpArgs false
set_option linter.unusedVariables false
namespace Go.Proofs.YtlfhikphdkpfgaaDoor
open Go Go.Cx
@[reducible] def ai (x : Int) : SV := .cv (.int .i64 x)
@[reducible] def au (x : Int) : SV := .cv (.int .u64 x)
@[reducible] def ab (x : Bool) : SV := .cv (.bool x)
def nm (x : List UInt8) : List Nat := x.map UInt8.toNat
@[reducible] def zvh (x : List UInt8) : SV := .cv (.str (nm x))
structure CondM where
 op : Int
 val : Int
 deriving Inhabited, DecidableEq
structure AtomM where
 kind : Int
 bnd : Bool
 bound : Int
 cs : List CondM
 name : List UInt8
 deriving Inhabited, DecidableEq
inductive NodeM where
 | mk (kind mn mx : Int) (atom : AtomM) (kids : List NodeM)
instance : Inhabited NodeM := ⟨.mk 0 0 0 default []⟩
def NodeM.kind : NodeM -> Int | .mk k _ _ _ _ => k
def NodeM.mn : NodeM -> Int | .mk _ x _ _ _ => x
def NodeM.mx : NodeM -> Int | .mk _ _ x _ _ => x
def NodeM.atom : NodeM -> AtomM | .mk _ _ _ a _ => a
def NodeM.kids : NodeM -> List NodeM | .mk _ _ _ _ l => l
structure AggM where
 fn : Int
 name : List UInt8
 deriving Inhabited, DecidableEq
structure HaveM where
 agg : AggM
 cond : CondM
 deriving Inhabited, DecidableEq
structure QueryM where
 p : NodeM
 within : Int
 hv : List HaveM
 em : List AggM
 deriving Inhabited
def zq6 (c : CondM) : List SV := [ai c.op, ai c.val]
def zdI (l : List CondM) : Nat -> List SV := fun i => zq6 (l.getD i default)
def zbA (a : AtomM) : List SV := [ai a.kind, ab a.bnd, au a.bound, .isl 2 a.cs.length (zdI a.cs), zvh a.name]
def zyi (a : AggM) : List SV := [ai a.fn, zvh a.name]
def ztX (l : List AggM) : Nat -> List SV := fun i => zyi (l.getD i default)
def zwF (h : HaveM) : List SV := [ai h.agg.fn, zvh h.agg.name, ai h.cond.op, ai h.cond.val]
def zoB (l : List HaveM) : Nat -> List SV := fun i => zwF (l.getD i default)
def zfm (n : NodeM) (k : Nat -> List SV) : List SV := [ai n.kind, ai n.mn, ai n.mx, ai n.atom.kind, ab n.atom.bnd, au n.atom.bound, .isl 2 n.atom.cs.length (zdI n.atom.cs), zvh n.atom.name, .isl 9 n.kids.length k]
mutual
def nodeW : NodeM -> List SV
 | .mk kind mn mx a kids => [ai kind, ai mn, ai mx, ai a.kind, ab a.bnd, au a.bound, .isl 2 a.cs.length (zdI a.cs), zvh a.name, .isl 9 kids.length fun i => (nodesW kids).getD i ((nodesW kids).headD [])]
def nodesW : List NodeM -> List (List SV)
 | [] => []
 | n :: r => nodeW n :: nodesW r
end
def zeb (l : List NodeM) : Nat -> List SV := fun i => (nodesW l).getD i ((nodesW l).headD [])
def zaj (n : NodeM) : List SV := zfm n (zeb n.kids)
theorem ztU (n : NodeM) : nodeW n = zaj n := by cases n; rw [nodeW]; rfl
theorem ziS : ∀ l : List NodeM, nodesW l = l.map zaj
 | [] => by rw [nodesW]; rfl
 | n :: r => by rw [nodesW, ztU, ziS r]; rfl
@[reducible] def atN (l : List NodeM) (i : Nat) : NodeM := l.getD i (l.headD default)
theorem zoT {l : List NodeM} (h : l ≠ []) : zeb l = fun i => zaj (atN l i) := by
 funext i
 unfold zeb atN
 rw [ziS, List.getD_eq_getElem?_getD, List.getElem?_map, List.getD_eq_getElem?_getD]
 cases l with
 | nil => exact absurd rfl h
 | cons a r =>
  cases (a :: r)[i]? with
  | some x => rfl
  | none => rfl
theorem zbM (n : NodeM) : n.kids.length = 0 \/ zaj n = zfm n (fun i => zaj (atN n.kids i)) := by
 cases h : n.kids with
 | nil => exact .inl rfl
 | cons a r =>
  refine .inr ?_
  show zfm n (zeb n.kids) = _
  rw [zoT (by rw [h]; simp), h]
theorem zf8 (l : List NodeM) : l.length = 0 \/ zeb l = fun i => zaj (atN l i) := by
 cases l with
 | nil => exact .inl rfl
 | cons a r => exact .inr (zoT (by simp))
theorem zba {l : List NodeM} {k : Nat} (hk : k < l.length) : atN l k ∈ l := by
 unfold atN
 rw [List.getD_eq_getElem?_getD, List.getElem?_eq_getElem hk]; exact List.getElem_mem hk
theorem zia {l : List NodeM} {k : Nat} (hk : k < l.length) : atN l k = l[k] := by
 unfold atN
 rw [List.getD_eq_getElem?_getD, List.getElem?_eq_getElem hk]; rfl
theorem stA {n : Nat} {p : Prop} (h : (⟨n, true⟩ : Gh).st = false) : p := Bool.noConfusion h
def zcs (q : QueryM) : List SV := [ai q.p.kind, ai q.p.mn, ai q.p.mx, ai q.p.atom.kind, ab q.p.atom.bnd, au q.p.atom.bound, .isl 2 q.p.atom.cs.length (zdI q.p.atom.cs), zvh q.p.atom.name, .isl 9 q.p.kids.length (zeb q.p.kids), au q.within, .isl 4 q.hv.length (zoB q.hv), .isl 2 q.em.length (ztX q.em)]
mutual

def NodeM.dep : NodeM -> Nat
 | .mk _ _ _ _ kids => depL kids + 1
def depL : List NodeM -> Nat
 | [] => 0
 | n :: r => max n.dep (depL r)
end
theorem zaT (n : NodeM) : n.dep = depL n.kids + 1 := by cases n; rw [NodeM.dep]; rfl
theorem znb {n : NodeM} : ∀ {l : List NodeM}, n ∈ l -> n.dep ≤ depL l
 | [], h => by cases h
 | m :: r, h => by
  rw [depL]
  rcases List.mem_cons.1 h with rfl | h
  ·omega
  ·have := znb h; omega
theorem zht : ∀ {l : List NodeM}, l ≠ [] -> ∃ m ∈ l, m.dep = depL l
 | [], h => absurd rfl h
 | [n], _ => ⟨n, List.mem_cons_self, by rw [depL, depL]; omega⟩
 | n :: a :: r, _ => by
  obtain ⟨m, hm, he⟩ := zht (l := a :: r) (by simp)
  rw [depL]
  by_cases h : n.dep ≤ depL (a :: r)
  ·exact ⟨m, List.mem_cons_of_mem _ hm, by omega⟩
  ·exact ⟨n, List.mem_cons_self, by omega⟩
theorem zcW {n m : NodeM} (h : m ∈ n.kids) : m.dep < n.dep := by
 have := znb h
 rw [zaT n]; omega
theorem zce {p : NodeM -> Prop} (h : ∀ n, (∀ m ∈ n.kids, p m) -> p n) (n : NodeM) : p n := by
 have key : ∀ d n, NodeM.dep n ≤ d -> p n := by
  intro d
  induction d with
  | zero => intro n hn; rw [zaT] at hn; omega
  | succ d ih => intro n hn; exact h n fun m hm => ih m (by have := zcW hm; omega)
 exact key n.dep n (Nat.le_refl _)
def pre (f : Nat) (d : Int) (n : NodeM) : List (Int × NodeM) := match f with
 | 0 => []
 | f + 1 => (d, n) :: n.kids.flatMap (pre f (d + 1))
theorem zo6 : ∀ {f : Nat} {d : Int} {n : NodeM} {g : Nat}, n.dep ≤ f -> n.dep ≤ g -> pre f d n = pre g d n
 | 0, d, n, _, h, _ => by rw [zaT] at h; omega
 | _ + 1, d, n, 0, _, h => by rw [zaT] at h; omega
 | f + 1, d, n, g + 1, h1, h2 => by
  show (d, n) :: n.kids.flatMap (pre f (d + 1)) = (d, n) :: n.kids.flatMap (pre g (d + 1))
  congr 1
  have : ∀ l : List NodeM, (∀ m ∈ l, m ∈ n.kids) -> l.flatMap (pre f (d + 1)) = l.flatMap (pre g (d + 1)) := by
   intro l
   induction l with
   | nil => intro _; rfl
   | cons m r ih =>
    intro h
    have hm := zcW (h m List.mem_cons_self)
    rw [List.flatMap_cons, List.flatMap_cons, ih fun x hx => h x (List.mem_cons_of_mem _ hx), zo6 (f := f) (g := g) (by omega) (by omega)]
  exact this _ fun m hm => hm
def zaE (d : Int) (n : NodeM) : List (Int × NodeM) := pre n.dep d n
theorem zaG (d : Int) (n : NodeM) : zaE d n = (d, n) :: n.kids.flatMap (zaE (d + 1)) := by
 unfold zaE
 rw [zaT]
 show (d, n) :: n.kids.flatMap (pre (depL n.kids) (d + 1)) = _
 congr 1
 have : ∀ l : List NodeM, (∀ m ∈ l, m.dep ≤ depL n.kids) -> l.flatMap (pre (depL n.kids) (d + 1)) = l.flatMap (zaE (d + 1)) := by
  intro l
  induction l with
  | nil => intro _; rfl
  | cons m r ih =>
   intro h
   rw [List.flatMap_cons, List.flatMap_cons, ih fun x hx => h x (List.mem_cons_of_mem _ hx)]
   unfold zaE
   rw [zo6 (h m List.mem_cons_self) (Nat.le_refl _)]
 exact this _ fun m hm => znb hm
theorem znT {d : Int} {n m : NodeM} (h : m ∈ n.kids) {p : Int × NodeM} (hp : p ∈ zaE (d + 1) m) : p ∈ zaE d n := by
 rw [zaG]
 exact List.mem_cons_of_mem _ (List.mem_flatMap.2 ⟨m, h, hp⟩)
def Fit (n : NodeM) : Prop := ∀ d p, p ∈ zaE d n -> p.2.kids.length ≤ 1000000 /\ p.2.atom.cs.length ≤ 1000000
theorem Fit.kid {n m : NodeM} (h : Fit n) (hm : m ∈ n.kids) : Fit m := fun d p hp => by
 have := h (d - 1) p
 exact this (znT hm (by rw [show d - 1 + 1 = d by omega]; exact hp))
theorem Fit.self {n : NodeM} (h : Fit n) : n.kids.length ≤ 1000000 /\ n.atom.cs.length ≤ 1000000 := h 0 (0, n) (by rw [zaG]; exact List.mem_cons_self)
structure NFit (n : NodeM) : Prop where
 fit : Fit n
 dep : n.dep ≤ 100000
 num : (zaE 1 n).length ≤ 100000
structure QFit (q : QueryM) : Prop extends NFit q.p where
 hv : q.hv.length ≤ 1000000
 em : q.em.length ≤ 1000000
end Go.Proofs.YtlfhikphdkpfgaaDoor
