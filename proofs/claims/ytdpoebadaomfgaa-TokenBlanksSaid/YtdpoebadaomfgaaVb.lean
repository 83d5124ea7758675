/-
  A verification-condition generator for Go's IR. Part b: operations that leave the world alone, and what they yield.
-/
import Derived.Test.YtdpoebadaomfgaaVa
import Derived.Lib.Strings
set_option linter.unusedSimpArgs false
set_option linter.unusedVariables false
namespace Go.Pw
open Go Go.RowKit

/-- A place that holds an owned list: a temporary, or a cell of an object. -/
inductive Plc where
  | slot (s : Nat)
  | cell (tag off : Nat)

structure Ann where
  slots : List Nat
  /-- Places of owned lists that are carried on, with the element's type and size: they are given tags of their own ahead of the loop. -/
  lists : List (Plc × TypeId × Nat) := []

structure Cfg where
  wrap : Bool := false
  /-- Loops, by their first region. -/
  ann : List (Nat × Ann) := []
  /-- Places at which ways meet again, by the region that comes next. -/
  cut : List (Nat × Ann) := []
  /-- Regions that draw their order and whose calls turn the world. -/
  loud : List Nat := []
  /-- Regions whose stores may come ahead of some reads, with the tags of the objects that they store into. -/
  pull : List (Nat × List Nat) := []
  /-- In the body of a range over a function. -/
  round : Bool := false
  /-- In an iterator: its yield, what it may yield, and how often. -/
  yl : Nat := 0
  yok : List (List SV) → List SV → Prop := fun _ _ => False
  yN : Nat := 0

def inK : IntKind → Int → Prop
  | .i8, n => -128 ≤ n ∧ n ≤ 127
  | .i16, n => -32768 ≤ n ∧ n ≤ 32767
  | .i32, n => -2147483648 ≤ n ∧ n ≤ 2147483647
  | .i64, n => -9223372036854775808 ≤ n ∧ n ≤ 9223372036854775807
  | .u8, n => 0 ≤ n ∧ n ≤ 255
  | .u16, n => 0 ≤ n ∧ n ≤ 65535
  | .u32, n => 0 ≤ n ∧ n ≤ 4294967295
  | .u64, n => 0 ≤ n ∧ n ≤ 18446744073709551615
theorem wrap_in {k : IntKind} {n : Int} (h : inK k n) : k.wrap n = n := by
  cases k <;> simp only [inK] at h <;> simp [IntKind.wrap, IntKind.bits, IntKind.signed] <;> omega

/-- The byte of a string at a place. -/
def gb (s : List UInt8) (i : Int) : Int := ((s.getD i.toNat 0).toNat : Int)
/-- A part of a string. -/
def sub (s : List UInt8) (a b : Int) : List UInt8 := (s.drop a.toNat).take (b.toNat - a.toNat)

/-- A symbolic value without tags, and the value that it is. -/
def SVal (v : SV) (u : Value) : Prop := (∀ e, den e v = u) ∧ bel 0 v = true
def HRd1 (h : Hp) (a : Addr) (v : SV) : Prop := a.spot = none ∧ ∃ cs ty fr u, h a.block = some (.cells cs ty fr) ∧ cs[a.off]? = some u ∧ SVal v u
def HRdN (h : Hp) (a : Addr) (n : Nat) (v : SV) : Prop := a.spot = none ∧ ∃ cs ty fr, h a.block = some (.cells cs ty fr) ∧ a.off + n ≤ cs.size ∧ SVal v (.agg (cs.extract a.off (a.off + n)))
/-- The same, of an owned list's row. -/
def ORd1 (xs : List Value) (off : Nat) (v : SV) : Prop := ∃ u, xs[off]? = some u ∧ SVal v u
def ORdN (xs : List Value) (off n : Nat) (v : SV) : Prop := off + n ≤ xs.length ∧ SVal v (.agg ((xs.drop off).take n).toArray)

/-- A Bool of the program's own tables: the kernel reckons it. -/
@[irreducible] def ClosedB (b : Bool) : Prop := b = true
theorem closedB {b : Bool} (h : b = true) : ClosedB b := by unfold ClosedB; exact h
theorem ClosedB.out {b : Bool} (h : ClosedB b) : b = true := by unfold ClosedB at h; exact h

inductive QR where
  | no
  | val (ob : Option Prop) (v : SV)
  | rd (R : Hp → SV → Prop)

/-- How many cells, if the type is a struct or an array. -/
def aggSize (P : Program) (t : TypeId) : Option (Option Nat) :=
  match P.underlying t with
  | some (.struct _) => match P.info? t with | some i => some (some i.size) | none => none
  | some (.array _ _) => match P.info? t with | some i => some (some i.size) | none => none
  | some _ => some none
  | none => none

def sFieldAddr (P : Program) (s : TypeId) (x : SV) (f : Nat) : QR :=
  match P.underlying s with
  | some (.struct fs) => match fs[f]? with
    | some fd => match P.info? fd.type with
      | some i => match i.size with
        | 0 => .no
        | _ + 1 => match x with
          | .ptr t off => .val none (.ptr t (off + fd.offset))
          | .optr t off => .val none (.optr t (off + fd.offset))
          | .dptr (some a) => .val none (.dptr (some (a.add fd.offset)))
          | _ => .no
      | none => .no
    | none => .no
  | _ => .no

def getCells (o : List (Option SObj)) (t : Nat) : Option (TypeId × List SV) :=
  match o[t]? with
  | some (some (.cells ty cs)) => some (ty, cs)
  | _ => none

def getList (o : List (Option SObj)) (t : Nat) : Option (TypeId × Nat × Nat × List Value) :=
  match o[t]? with
  | some (some (.olist ty sz n xs)) => some (ty, sz, n, xs)
  | _ => none

def sLoad (P : Program) (S : SS) (t : TypeId) (x : SV) : QR :=
  match x with
  | .ptr tag off => match getCells S.o tag with
    | some (_, cs) => match aggSize P t with
      | some none => match cs[off]? with | some v => .val none v | none => .no
      | some (some n) => if Nat.ble (off + n) cs.length then .val none (.agg ((cs.drop off).take n)) else .no
      | none => .no
    | none => .no
  | .optr tag off => match getList S.o tag with
    | some (_, _, _, xs) => match aggSize P t with
      | some none => .rd (fun _ v => ORd1 xs off v)
      | some (some n) => .rd (fun _ v => ORdN xs off n v)
      | none => .no
    | none => .no
  | .dptr (some a) => match aggSize P t with
    | some none => .rd (fun h v => HRd1 h a v)
    | some (some n) => .rd (fun h v => HRdN h a n v)
    | none => .no
  | _ => .no

def sPart (P : Program) (t : TypeId) (cs : List SV) (off : Nat) : Option SV :=
  match aggSize P t with
  | some none => cs[off]?
  | some (some n) => if Nat.ble (off + n) cs.length then some (.agg ((cs.drop off).take n)) else none
  | none => none

def sIndex (P : Program) (t : TypeId) (x i : SV) : QR :=
  match P.underlying t, x, i with
  | some .string, .str s, .int _ n => .val (some (0 ≤ n ∧ n < s.length)) (.int .u8 (gb s n))
  | some (.array len elem), .agg cs, .int _ n => match P.info? elem with
    | some inf => .rd (fun _ v => (0 ≤ n ∧ n < len) ∧ ∃ sv, sPart P elem cs (n.toNat * inf.size) = some sv ∧ (∀ e, den e v = den e sv) ∧ bel 0 v = true)
    | _ => .no
  | _, _, _ => .no

def sBound (x : Option SV) (d : Int) : Option Int :=
  match x with
  | none => some d
  | some (.int _ n) => some n
  | some _ => none

def sSlice (P : Program) (t : TypeId) (x : SV) (lo hi mx : Option SV) : QR :=
  match mx with
  | some _ => .no
  | none => match P.underlying t, x with
    | some .string, .str s => match sBound lo 0, sBound hi s.length with
      | some a, some b => .val (some (0 ≤ a ∧ a ≤ b ∧ b ≤ s.length)) (.str (sub s a b))
      | _, _ => .no
    | some (.slice elem), .slc ad n c => match sBound lo 0, sBound hi n, P.info? elem with
      | some a, some b, some i => .val (some (0 ≤ a ∧ a ≤ b ∧ b ≤ c)) (.slc (if c = a.toNat then ad else ad.map (·.add (a.toNat * i.size))) (b.toNat - a.toNat) (c - a.toNat))
      | _, _, _ => .no
    | _, _ => .no

def sLen (P : Program) (o : List (Option SObj)) (t : TypeId) (x : SV) : QR :=
  match P.underlying t, x with
  | some .string, .str s => .val none (.int .i64 s.length)
  | some (.slice _), .slc _ n _ => .val none (.int .i64 n)
  | some (.slice _), .loc tag => match o[tag]? with
    | some (some (.olist _ _ n _)) => .val none (.int .i64 n)
    | _ => .no
  | some (.array n _), _ => .val none (.int .i64 n)
  | _, _ => .no

def boolOf : SV → Option Bool
  | .bool b => some b
  | .bexp b => some b
  | _ => none


def sEqF (P : Program) (eq : TypeId → SV → SV → Option (Bool × Bool)) (xs ys : List SV) : List Field → Option (Bool × Bool)
  | [] => some (true, true)
  | f :: fs => match f.name == "_" with
    | true => none
    | false => match sPart P f.type xs f.offset, sPart P f.type ys f.offset with
      | some a, some b => match eq f.type a b, sEqF P eq xs ys fs with
        | some (p, r), some (q, r') => some (p && q, r && r')
        | _, _ => none
      | _, _ => none

/-- '==' by type, to a depth. The first part: what must be known of the program's types. -/
def sEq (P : Program) : Nat → TypeId → SV → SV → Option (Bool × Bool)
  | 0, _, _, _ => none
  | d + 1, t, x, y => match P.underlying t, x, y with
    | some (.int _), .int k a, .int k' b => if k = k' then some (true, a == b) else none
    | some .string, .str a, .str b => some (true, a == b)
    | some .bool, x, y => match boolOf x, boolOf y with
      | some a, some b => some (true, a == b)
      | _, _ => none
    | some (.struct fs), .agg xs, .agg ys => match sEqF P (sEq P d) xs ys fs.toList with
      | some (p, b) => some (!P.stoodInHeld t && p, b)
      | none => none
    | _, _, _ => none

def sBin (P : Program) (c : Cfg) (op : BinOp) (t : TypeId) (x y : SV) : QR :=
  match x, y with
  | .int k a, .int k' b => match op with
    | .shl => .no
    | .shr => .no
    | _ => if k = k' then match op with
      | .add => if c.wrap then .val none (.int k (k.wrap (a + b))) else .val (some (inK k (a + b))) (.int k (a + b))
      | .sub => if c.wrap then .val none (.int k (k.wrap (a - b))) else .val (some (inK k (a - b))) (.int k (a - b))
      | .mul => if c.wrap then .val none (.int k (k.wrap (a * b))) else .val (some (inK k (a * b))) (.int k (a * b))
      | .quo => .val (some (b ≠ 0 ∧ inK k (a.tdiv b))) (.int k (a.tdiv b))
      | .rem => .val (some (b ≠ 0)) (.int k (a.tmod b))
      | .and => .val none (.int k (bits .and k a b))
      | .or => .val none (.int k (bits .or k a b))
      | .xor => .val none (.int k (bits .xor k a b))
      | .andNot => .val none (.int k (bits .andNot k a b))
      | .eql => .val none (.bexp (a == b))
      | .neq => .val none (.bexp (a != b))
      | .lss => .val none (.bexp (decide (a < b)))
      | .leq => .val none (.bexp (decide (a ≤ b)))
      | .gtr => .val none (.bexp (decide (a > b)))
      | .geq => .val none (.bexp (decide (a ≥ b)))
      | _ => .no
      else .no
  | .str a, .str b => match op with
    | .add => .val (some (a.length + b.length ≤ 9223372036854775807)) (.str (a ++ b))
    | .eql => .val none (.bexp (a == b))
    | .neq => .val none (.bexp (!(a == b)))
    | .lss => .val none (.bexp (Op.bytesLess a b))
    | .leq => .val none (.bexp (Op.bytesLess a b || a == b))
    | .gtr => .val none (.bexp (!(Op.bytesLess a b || a == b)))
    | .geq => .val none (.bexp (!Op.bytesLess a b))
    | _ => .no
  | .agg xs, .agg ys => match op with
    | .eql => match sEq P 4 t (.agg xs) (.agg ys) with
      | some (p, b) => .val (some (ClosedB (!P.eqGuardType P.depth t && p))) (.bexp b)
      | none => .no
    | .neq => match sEq P 4 t (.agg xs) (.agg ys) with
      | some (p, b) => .val (some (ClosedB (!P.eqGuardType P.depth t && p))) (.bexp (!b))
      | none => .no
    | _ => .no
  | x, y => match op, boolOf x, boolOf y, P.underlying t with
    | .eql, some a, some b, some .bool => .val none (.bexp (a == b))
    | .neq, some a, some b, some .bool => .val none (.bexp (!(a == b)))
    | _, _, _, _ => .no

def sUn (c : Cfg) (op : UnOp) (x : SV) : QR :=
  match op, x with
  | .not, .bool b => .val none (.bool (!b))
  | .not, .bexp b => .val none (.bexp (!b))
  | .neg, .int k n => if c.wrap then .val none (.int k (k.wrap (0 - n))) else .val (some (inK k (-n))) (.int k (-n))
  | _, _ => .no

def sConv (P : Program) (c : Cfg) (src dst : TypeId) (x : SV) : QR :=
  match P.underlying src, P.underlying dst, x with
  | some _, some (.int k), .int _ n => if c.wrap then .val none (.int k (k.wrap n)) else .val (some (inK k n)) (.int k n)
  | some _, some .string, .str s => .val none (.str s)
  | _, _, _ => .no

def svc : SV → Option (List SV)
  | .junk => none
  | .tuple _ => none
  | .agg cs => some cs
  | .val (.agg _) => none
  | .val (.tuple _) => none
  | v => some [v]

def setK {A : Type} {R : Sort _} : List A → Nat → A → (List A → R) → R
  | [], _, _, k => k []
  | _ :: xs, 0, v, k => k (v :: xs)
  | x :: xs, n + 1, v, k => setK xs n v fun r => k (x :: r)
theorem setK_eq {A : Type} {R : Sort _} : ∀ (l : List A) (n : Nat) (v : A) (k : List A → R), setK l n v k = k (l.set n v)
  | [], _, _, _ => rfl
  | _ :: _, 0, _, _ => rfl
  | x :: xs, n + 1, v, k => by rw [setK, setK_eq xs n v]; rfl

def setAll : List SV → Nat → List SV → List SV
  | cells, _, [] => cells
  | cells, off, c :: cs => setAll (cells.set off c) (off + 1) cs

/-- 'setAll', each step written out before the next. -/
def setAllK {R : Sort _} : List SV → Nat → List SV → (List SV → R) → R
  | cells, _, [], k => k cells
  | cells, off, c :: cs, k => setK cells off c fun cells => setAllK cells (off + 1) cs k
theorem setAllK_eq {R : Sort _} : ∀ (cs cells : List SV) (off : Nat) (k : List SV → R), setAllK cells off cs k = k (setAll cells off cs)
  | [], _, _, _ => rfl
  | c :: cs, cells, off, k => by rw [setAllK, setK_eq, setAllK_eq cs]; rfl

def sFill (place : Nat → Option (Nat × Nat)) (cells : List SV) : List (Nat × SV) → Option (List SV)
  | [] => some cells
  | (i, v) :: rest => match place i, svc v with
    | some (off, size), some cs => if Nat.beq cs.length size && Nat.ble (off + cs.length) cells.length then setAllK cells off cs fun cells => sFill place cells rest else none
    | _, _ => none

def sZero (P : Program) (t : TypeId) : Option Value :=
  match P.info? t with
  | some i => i.zero
  | none => none

def zeroCells (v : Value) : List SV := v.cells.toList.map ofC

def infoAll (P : Program) : List Field → Bool
  | [] => true
  | f :: fs => (P.info? f.type).isSome && infoAll P fs

def structPlace (P : Program) (fs : Array Field) (i : Nat) : Option (Nat × Nat) :=
  match fs[i]? with
  | some f => some (f.offset, P.cellsOf f.type)
  | none => none

def sBuild (P : Program) (t : TypeId) (parts : List (Nat × SV)) : QR :=
  match sZero P t with
  | none => .no
  | some z => match P.underlying t with
    | some (.struct fs) => if infoAll P fs.toList then match sFill (structPlace P fs) (zeroCells z) parts with
        | some cells => .val none (.agg cells)
        | none => .no
      else .no
    | some (.array _ elem) => match P.info? elem with
      | some i => match sFill (fun k => some (k * i.size, i.size)) (zeroCells z) parts with
        | some cells => .val none (.agg cells)
        | none => .no
      | none => .no
    | _ => .no

def sField (P : Program) (t : TypeId) (x : SV) (f : Nat) : QR :=
  match P.underlying t, x with
  | some (.struct fs), .agg cs => match fs[f]? with
    | some fd => match sPart P fd.type cs fd.offset with
      | some v => .val none v
      | none => .no
    | none => .no
  | _, _ => .no

def sExtract (x : SV) (i : Nat) : QR :=
  match x with
  | .tuple vs => match vs[i]? with
    | some v => .val none v
    | none => .no
  | _ => .no

def sIndexAddr (P : Program) (o : List (Option SObj)) (t : TypeId) (x i : SV) : QR :=
  match P.underlying t, x, i with
  | some (.slice elem), .slc a n _, .int _ k => match P.info? elem with
    | some inf => .rd (fun _ v => (0 ≤ k ∧ k < n) ∧ ∃ ad : Addr, a = some ad ∧ v = .dptr (some (ad.add (k.toNat * inf.size))))
    | none => .no
  | some (.slice elem), .loc tag, .int _ k => match P.info? elem, getList o tag with
    | some inf, some (_, sz, n, _) => match Nat.beq inf.size sz with
      | true => .val (some (0 ≤ k ∧ k < n)) (.optr tag (k.toNat * sz))
      | false => .no
    | _, _ => .no
  | _, _, _ => .no

def sMinMax (mx : Bool) : List SV → QR
  | [.int k a, .int k' b] => if k = k' then .val none (.int k (if mx then max a b else min a b)) else .no
  | _ => .no

def sNil (x : SV) : QR :=
  match x with
  | .ptr t f => .val none (.ptr t f)
  | .optr t f => .val none (.optr t f)
  | .dptr (some a) => .val none (.dptr (some a))
  | .func (.func k) a b => .val none (.func (.func k) a b)
  | .func (.yield k) a b => .val none (.func (.yield k) a b)
  | _ => .no

def noJunk : List SV → Bool
  | [] => true
  | .junk :: _ => false
  | _ :: r => noJunk r

def qop (P : Program) (c : Cfg) (S : SS) (op : Op) : QR :=
  match op with
  | .move x => .val none (ev S.t x)
  | .assign x => .val none (ev S.t x)
  | .pick b x y => match ev S.t b with
    | .bool true => .val none (ev S.t x)
    | .bool false => .val none (ev S.t y)
    | _ => .no
  | .nilCheck x => sNil (ev S.t x)
  | .binOp op t x y _ => sBin P c op t (ev S.t x) (ev S.t y)
  | .unOp op _ x => sUn c op (ev S.t x)
  | .convert s d x => sConv P c s d (ev S.t x)
  | .fieldAddr s x f => sFieldAddr P s (ev S.t x) f
  | .field t x f => sField P t (ev S.t x) f
  | .index t x i => sIndex P t (ev S.t x) (ev S.t i)
  | .indexAddr t x i => sIndexAddr P S.o t (ev S.t x) (ev S.t i)
  | .slice t x lo hi mx => sSlice P t (ev S.t x) (lo.map (ev S.t)) (hi.map (ev S.t)) (mx.map (ev S.t))
  | .extract x i => sExtract (ev S.t x) i
  | .build t parts => sBuild P t (parts.toList.map fun p => (p.1, ev S.t p.2))
  | .makeFunc fn a b => if noJunk (a.toList.map (ev S.t)) && noJunk (b.toList.map (ev S.t)) then .val none (.func fn (a.toList.map (ev S.t)) (b.toList.map (ev S.t))) else .no
  | .load t a => sLoad P S t (ev S.t a)
  | .call { callee := .builtin .len, args, argTypes } => match args.toList, argTypes.toList with
    | [x], [t] => sLen P S.o t (ev S.t x)
    | _, _ => .no
  | .call { callee := .builtin .max, args, .. } => sMinMax true (args.toList.map (ev S.t))
  | .call { callee := .builtin .min, args, .. } => sMinMax false (args.toList.map (ev S.t))
  | _ => .no

end Go.Pw
