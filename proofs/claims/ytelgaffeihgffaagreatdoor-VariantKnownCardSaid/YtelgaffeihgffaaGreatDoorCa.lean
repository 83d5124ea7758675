/-
  A concrete evaluator for Go's IR. Part a: values, memory, what an operation does.
-/
import Derived.WalkKit
import Derived.DeepKeys3
set_option linter.unusedSimpArgs false
set_option linter.unusedVariables false
namespace Go.Cx
open Go

/-- Values. Blocks are named by tags. 'slc t off n c': a slice into block t from cell off on. 'opn t k n': a slice into the open row t, from its element k on; its capacity is not known. 'emp t k a': what is left of an open row behind its known end. 'res x k r h': a number of which the rest modulo k alone is known. 'void a': a slice without elements and without room that came in. -/
inductive CV where
  | bool (b : Bool)
  | int (k : IntKind) (n : Int)
  | str (s : List Nat)
  | agg (cs : List CV)
  | tup (vs : List CV)
  | ptr (t off : Nat)
  | slc (t off n c : Nat)
  | opn (t k n : Nat)
  | emp (t k a : Nat)
  | fn (f : FuncId) (first captured : List CV)
  | yld (l : Nat)
  | map (t : Nat)
  | ifc (ty : TypeId) (v : CV)
  | nilp
  | nils
  | nilf
  | nilm
  | nili
  | res (x : Int) (k r : Nat) (h : x.emod k = r)
  | void (a : Addr)
  deriving Inhabited

/-- A tree over numbers. -/
inductive Tr (α : Type) where
  | nil
  | node (l : Tr α) (v : Option α) (r : Tr α)
  deriving Inhabited

noncomputable def Tr.get {α : Type} (t : Tr α) : Nat → Option α :=
  Tr.rec (motive := fun _ => Nat → Option α) (fun _ => none)
    (fun _ v _ gl gr n => Nat.rec (motive := fun _ => Option α) v (fun k _ => Bool.rec (motive := fun _ => Option α) (gr (Nat.div k 2)) (gl (Nat.div k 2)) (Nat.beq (Nat.mod k 2) 0)) n) t

noncomputable def Tr.set {α : Type} (f : Nat) (t : Tr α) (n : Nat) (x : Option α) : Tr α :=
  Nat.rec (motive := fun _ => Tr α → Nat → Tr α) (fun t _ => t)
    (fun _ ih t n => Nat.rec (motive := fun _ => Tr α)
      (Tr.rec (motive := fun _ => Tr α) (.node .nil x .nil) (fun l _ r _ _ => .node l x r) t)
      (fun k _ => Bool.rec (motive := fun _ => Tr α)
        (Tr.rec (motive := fun _ => Tr α) (.node .nil none (ih .nil (Nat.div k 2))) (fun l v r _ _ => .node l v (ih r (Nat.div k 2))) t)
        (Tr.rec (motive := fun _ => Tr α) (.node (ih .nil (Nat.div k 2)) none .nil) (fun l v r _ _ => .node (ih l (Nat.div k 2)) v r) t)
        (Nat.beq (Nat.mod k 2) 0)) n) f t n

structure Tmps where
  sz : Nat
  tr : Tr CV
  deriving Inhabited
noncomputable def Tmps.get (t : Tmps) (i : Nat) : Option CV := Tmps.rec (motive := fun _ => Option CV) (fun sz tr => Bool.rec (motive := fun _ => Option CV) none (tr.get i) (Nat.ble (Nat.succ i) sz)) t
noncomputable def Tmps.set (t : Tmps) (i : Nat) (v : CV) : Tmps := Tmps.rec (motive := fun _ => Tmps) (fun sz tr => ⟨sz, tr.set (Nat.succ i) i (some v)⟩) t
noncomputable def Tmps.unset (t : Tmps) (i : Nat) : Tmps := Tmps.rec (motive := fun _ => Tmps) (fun sz tr => ⟨sz, tr.set (Nat.succ i) i none⟩) t

inductive CO where
  | cells (ty : TypeId) (cs : List CV)
  | opn (ty : TypeId) (sz : Nat) (cs : List CV)
  | map (es : List (CV × CV × Nat)) (clock : Nat)
  | loop (st : LoopState) (pending : Option Code) (t : Tmps) (params : List Tmp) (assign body : Code) (defers : Nat)
  | dfr (live : Bool)
  | ro (cs : List CV)
  deriving Inhabited

structure Mem where
  nxt : Nat
  tr : Tr CO
  deriving Inhabited

noncomputable def Mem.get (m : Mem) (t : Nat) : Option CO := m.tr.get t
noncomputable def Mem.put (m : Mem) (t : Nat) (o : CO) : Mem := ⟨m.nxt, m.tr.set (t + 1) t (some o)⟩
noncomputable def Mem.kill (m : Mem) (t : Nat) : Mem := ⟨m.nxt, m.tr.set (t + 1) t none⟩
/-- A new object under the tag T (mostly the next tag; a tag that was kept free, in regions that draw their order). -/
noncomputable def Mem.newAt (m : Mem) (T : Nat) (o : CO) : Mem := ⟨Bool.rec (motive := fun _ => Nat) (Nat.succ T) m.nxt (Nat.blt T m.nxt), m.tr.set (T + 1) T (some o)⟩
noncomputable def Mem.new (m : Mem) (o : CO) : Mem := ⟨m.nxt + 1, m.tr.set (m.nxt + 1) m.nxt (some o)⟩
/-- A tag is used up; nothing is known of what it names. -/
noncomputable def Mem.up (m : Mem) : Mem := ⟨m.nxt + 1, m.tr⟩

inductive COut where
  | no (why : String)
  | val (v : CV)
  | mem (v : CV) (m : Mem)
  | call (f : FuncId) (args : List CV)
  | yield (l : Nat) (args : List CV)
  | defer (f : FuncId) (args : List CV)
  | recover
  | panic (v : CV)

noncomputable def undefC : CV := .tup []

noncomputable def nth {α : Type} (l : List α) : Nat → Option α :=
  List.rec (motive := fun _ => Nat → Option α) (fun _ => none) (fun x _ ih n => Nat.rec (motive := fun _ => Option α) (some x) (fun k _ => ih k) n) l

noncomputable def kNum : IntKind → Nat
  | .i8 => 0 | .i16 => 1 | .i32 => 2 | .i64 => 3 | .u8 => 4 | .u16 => 5 | .u32 => 6 | .u64 => 7
noncomputable def kEq (a b : IntKind) : Bool := Nat.beq (kNum a) (kNum b)
/-- The bound below which a number that is not negative is its own wrap. -/
noncomputable def kTop : IntKind → Nat
  | .i8 => 128 | .i16 => 32768 | .i32 => 2147483648 | .i64 => 9223372036854775808
  | .u8 => 256 | .u16 => 65536 | .u32 => 4294967296 | .u64 => 18446744073709551616
noncomputable def wrapC (k : IntKind) (n : Int) : Int :=
  match n with
  | .ofNat a => match Nat.blt a (kTop k) with
    | true => .ofNat a
    | false => k.wrap (.ofNat a)
  | .negSucc a => k.wrap (.negSucc a)
noncomputable def ieq : Int → Int → Bool
  | .ofNat a, .ofNat b => Nat.beq a b
  | .negSucc a, .negSucc b => Nat.beq a b
  | _, _ => false
noncomputable def ilt : Int → Int → Bool
  | .ofNat a, .ofNat b => Nat.blt a b
  | .negSucc a, .negSucc b => Nat.blt b a
  | .negSucc _, .ofNat _ => true
  | .ofNat _, .negSucc _ => false

noncomputable def ofV1 : Value → Option CV
  | .bool b => some (.bool b)
  | .int k n => some (.int k n)
  | .string s => some (.str (s.data.toList.map UInt8.toNat))
  | .func (.func f) ⟨[]⟩ ⟨[]⟩ => some (.fn f [] [])
  | .pointer none => some .nilp
  | .slice none 0 0 => some .nils
  | .nilFunc => some .nilf
  | .map none => some .nilm
  | .nilIface => some .nili
  | _ => none
noncomputable def ofVL : List Value → Option (List CV)
  | [] => some []
  | v :: vs => match ofV1 v with
    | some x => match ofVL vs with
      | some xs => some (x :: xs)
      | none => none
    | none => none
noncomputable def ofV : Value → Option CV
  | .agg cs => match ofVL cs.toList with
    | some l => some (.agg l)
    | none => none
  | v => ofV1 v

/-- How many cells, if the type is a struct or an array. -/
noncomputable def aggSize (P : Program) (t : TypeId) : Option (Option Nat) :=
  match P.underlying t with
  | some (.struct _) => match P.info? t with | some i => some (some i.size) | none => none
  | some (.array _ _) => match P.info? t with | some i => some (some i.size) | none => none
  | some _ => some none
  | none => none

noncomputable def takeB (cs : List CV) (off n : Nat) : Option (List CV) :=
  match Nat.ble (off + n) cs.length with
  | true => some ((cs.drop off).take n)
  | false => none

noncomputable def rdCells (m : Mem) (t : Nat) : Option (List CV) :=
  match m.get t with
  | some (.cells _ cs) => some cs
  | some (.opn _ _ cs) => some cs
  | some (.ro cs) => some cs
  | _ => none

noncomputable def part (P : Program) (t : TypeId) (cs : List CV) (off : Nat) : Option CV :=
  match aggSize P t with
  | some none => nth cs off
  | some (some n) => match takeB cs off n with
    | some l => some (.agg l)
    | none => none
  | none => none

/-- The cells of a value. -/
noncomputable def cvCells : CV → Option (List CV)
  | .agg cs => some cs
  | .tup _ => none
  | v => some [v]
/-- Values of one cell. -/
noncomputable def one : CV → Bool
  | .agg _ => false
  | .tup _ => false
  | _ => true

noncomputable def wrCells (cs : List CV) : Nat → List CV → List CV
  | _, [] => cs
  | off, v :: vs => wrCells (cs.set off v) (off + 1) vs

noncomputable def wr (m : Mem) (t off : Nat) (vs : List CV) : Option Mem :=
  match vs.all one with
  | false => none
  | true => match m.get t with
    | some (.cells ty cs) => match Nat.ble (off + vs.length) cs.length with
      | true => some (m.put t (.cells ty (wrCells cs off vs)))
      | false => none
    | some (.opn ty sz cs) => match Nat.ble (off + vs.length) cs.length with
      | true => some (m.put t (.opn ty sz (wrCells cs off vs)))
      | false => none
    | _ => none

noncomputable def beqL : List Nat → List Nat → Bool
  | [], [] => true
  | a :: x, b :: y => match Nat.beq (a % 256) (b % 256) with
    | true => beqL x y
    | false => false
  | _, _ => false
noncomputable def ltL : List Nat → List Nat → Bool
  | _, [] => false
  | [], _ :: _ => true
  | a :: x, b :: y => match Nat.blt (a % 256) (b % 256) with
    | true => true
    | false => match Nat.beq (a % 256) (b % 256) with
      | true => ltL x y
      | false => false

noncomputable def eqInt : CV → CV → Option Bool
  | .int k a, .int k' b => match kEq k k' with
    | true => some (ieq a b)
    | false => none
  | _, _ => none
noncomputable def eqStr : CV → CV → Option Bool
  | .str a, .str b => some (beqL a b)
  | _, _ => none
noncomputable def eqBool : CV → CV → Option Bool
  | .bool a, .bool b => some (match a with | true => b | false => !b)
  | _, _ => none
noncomputable def eqPtr (P : Program) (el : TypeId) : CV → CV → Option Bool
  | .nilp, .nilp => some true
  | .ptr _ _, .nilp => some false
  | .nilp, .ptr _ _ => some false
  | .ptr a b, .ptr a' b' => match Nat.beq a a' && Nat.beq b b', P.info? el with
    | true, some _ => some true
    | _, _ => none
  | _, _ => none
noncomputable def eqSameI (P : Program) (eq : TypeId → CV → CV → Option Bool) (t : TypeId) (v v' : CV) : Option Bool :=
  match P.info? t with
  | some i => match i.comparable with
    | true => eq t v v'
    | false => none
  | none => none
noncomputable def eqIfc (P : Program) (eq : TypeId → CV → CV → Option Bool) : CV → CV → Option Bool
  | .nili, .nili => some true
  | .nili, .ifc _ _ => some false
  | .ifc _ _, .nili => some false
  | .ifc t v, .ifc t' v' => match Nat.beq t t' with
    | true => eqSameI P eq t v v'
    | false => some false
  | _, _ => none
noncomputable def eqSlc : CV → CV → Option Bool
  | .nils, .nils => some true
  | .slc _ _ _ _, .nils => some false
  | .opn _ _ _, .nils => some false
  | .emp _ _ _, .nils => some false
  | .void _, .nils => some false
  | _, _ => none
noncomputable def eqFn : CV → CV → Option Bool
  | .fn _ _ _, .nilf => some false
  | .nilf, .nilf => some true
  | _, _ => none
noncomputable def eqMap : CV → CV → Option Bool
  | .map _, .nilm => some false
  | .nilm, .nilm => some true
  | _, _ => none

/-- The fields of a struct, one by one. -/
noncomputable def ceqF (P : Program) (eq : TypeId → CV → CV → Option Bool) (xs ys : List CV) : List Field → Option Bool
  | [] => some true
  | f :: fs => match f.name == "_" with
    | true => none
    | false => match part P f.type xs f.offset, part P f.type ys f.offset with
      | some a, some b => match eq f.type a b with
        | some true => ceqF P eq xs ys fs
        | r => r
      | _, _ => none
noncomputable def eqStruct (P : Program) (eq : TypeId → CV → CV → Option Bool) (t : TypeId) (fs : List Field) : CV → CV → Option Bool
  | .agg xs, .agg ys => match P.stoodInHeld t with
    | true => none
    | false => ceqF P eq xs ys fs
  | _, _ => none
noncomputable def ceqA (P : Program) (eq : TypeId → CV → CV → Option Bool) (e : TypeId) (sz : Nat) (xs ys : List CV) : Nat → Nat → Option Bool
  | _, 0 => some true
  | i, n + 1 => match part P e xs (i * sz), part P e ys (i * sz) with
    | some a, some b => match eq e a b with
      | some true => ceqA P eq e sz xs ys (i + 1) n
      | r => r
    | _, _ => none
noncomputable def eqArr (P : Program) (eq : TypeId → CV → CV → Option Bool) (e : TypeId) (n : Nat) : CV → CV → Option Bool
  | .agg xs, .agg ys => match P.info? e with
    | some inf => ceqA P eq e inf.size xs ys 0 n
    | none => none
  | _, _ => none

/-- '==' by type. -/
noncomputable def ceq (P : Program) : Nat → TypeId → CV → CV → Option Bool
  | 0, _ => fun _ _ => none
  | d + 1, t => match P.underlying t with
    | some (.int _) => eqInt
    | some .string => eqStr
    | some .bool => eqBool
    | some (.pointer el) => eqPtr P el
    | some (.interface _) => eqIfc P (ceq P d)
    | some (.slice _) => eqSlc
    | some (.func _ _ _) => eqFn
    | some (.map _ _) => eqMap
    | some (.struct fs) => eqStruct P (ceq P d) t fs.toList
    | some (.array n e) => eqArr P (ceq P d) e n
    | _ => fun _ _ => none

noncomputable def b2 (op : BinOp) (k : IntKind) (x y : Int) : Int :=
  let a := BitVec.ofInt k.bits x
  let b := BitVec.ofInt k.bits y
  k.wrap (match op with
    | .and => a &&& b
    | .or => a ||| b
    | .xor => a ^^^ b
    | _ => a &&& ~~~b).toNat

noncomputable def ofB : Bool → Option Bool → COut
  | true, some b => .val (.bool (!b))
  | false, some b => .val (.bool b)
  | _, none => .no "equality"
/-- Two nil interfaces, two structs or arrays, others. -/
noncomputable def eqKind : CV → CV → Nat
  | .nili, .nili => 0
  | .agg _, .agg _ => 1
  | _, _ => 2
noncomputable def cEq (P : Program) (c neg : Bool) (t : TypeId) (x y : CV) : COut :=
  match eqKind x y with
  | 0 => match c with
    | true => ofB neg (ceq P 40 t x y)
    | false => .no "two nil interfaces"
  | 1 => match P.eqGuardType P.depth t with
    | true => .no "interfaces in a struct"
    | false => ofB neg (ceq P 40 t x y)
  | _ => ofB neg (ceq P 40 t x y)

noncomputable def binShl (k : IntKind) (a b : Int) : COut :=
  match ilt b 0 with
  | true => .no "shift"
  | false => .val (.int k (k.wrap (a * 2 ^ (min b.toNat k.bits))))
noncomputable def binShr (k : IntKind) (a b : Int) : COut :=
  match ilt b 0 with
  | true => .no "shift"
  | false => .val (.int k (a.fdiv (2 ^ (min b.toNat k.bits))))
noncomputable def binQuo (k : IntKind) (a b : Int) : COut :=
  match ieq b 0 with
  | true => .no "division by zero"
  | false => .val (.int k (wrapC k (a.tdiv b)))
noncomputable def binRem (k : IntKind) (a b : Int) : COut :=
  match ieq b 0 with
  | true => .no "division by zero"
  | false => .val (.int k (a.tmod b))
noncomputable def binAdd (k : IntKind) (a b : Int) : COut := .val (.int k (wrapC k (a + b)))
noncomputable def binSub (k : IntKind) (a b : Int) : COut := .val (.int k (wrapC k (a - b)))
noncomputable def binMul (k : IntKind) (a b : Int) : COut := .val (.int k (wrapC k (a * b)))
noncomputable def binAnd (k : IntKind) (a b : Int) : COut := .val (.int k (b2 .and k a b))
noncomputable def binOr (k : IntKind) (a b : Int) : COut := .val (.int k (b2 .or k a b))
noncomputable def binXor (k : IntKind) (a b : Int) : COut := .val (.int k (b2 .xor k a b))
noncomputable def binAndNot (k : IntKind) (a b : Int) : COut := .val (.int k (b2 .andNot k a b))
noncomputable def binEql (_ : IntKind) (a b : Int) : COut := .val (.bool (ieq a b))
noncomputable def binNeq (_ : IntKind) (a b : Int) : COut := .val (.bool (!ieq a b))
noncomputable def binLss (_ : IntKind) (a b : Int) : COut := .val (.bool (ilt a b))
noncomputable def binLeq (_ : IntKind) (a b : Int) : COut := .val (.bool (!ilt b a))
noncomputable def binGtr (_ : IntKind) (a b : Int) : COut := .val (.bool (ilt b a))
noncomputable def binGeq (_ : IntKind) (a b : Int) : COut := .val (.bool (!ilt a b))
noncomputable def same (f : IntKind → Int → Int → COut) (k k' : IntKind) (a b : Int) : COut :=
  match kEq k k' with
  | true => f k a b
  | false => .no "kinds"
noncomputable def anyK (f : IntKind → Int → Int → COut) (k _ : IntKind) (a b : Int) : COut := f k a b
noncomputable def intOp : BinOp → IntKind → IntKind → Int → Int → COut
  | .shl => anyK binShl
  | .shr => anyK binShr
  | .add => same binAdd
  | .sub => same binSub
  | .mul => same binMul
  | .quo => same binQuo
  | .rem => same binRem
  | .and => same binAnd
  | .or => same binOr
  | .xor => same binXor
  | .andNot => same binAndNot
  | .eql => same binEql
  | .neq => same binNeq
  | .lss => same binLss
  | .leq => same binLeq
  | .gtr => same binGtr
  | .geq => same binGeq
noncomputable def strAdd (a b : List Nat) : COut :=
  match Nat.ble (a.length + b.length) 1000000 with
  | true => .val (.str (a ++ b))
  | false => .no "long string"
noncomputable def strEql (a b : List Nat) : COut := .val (.bool (beqL a b))
noncomputable def strNeq (a b : List Nat) : COut := .val (.bool (!(beqL a b)))
noncomputable def strLss (a b : List Nat) : COut := .val (.bool (ltL a b))
noncomputable def strLeq (a b : List Nat) : COut := .val (.bool (ltL a b || beqL a b))
noncomputable def strGtr (a b : List Nat) : COut := .val (.bool (!(ltL a b || beqL a b)))
noncomputable def strGeq (a b : List Nat) : COut := .val (.bool (!ltL a b))
noncomputable def strOp : BinOp → List Nat → List Nat → COut
  | .add => strAdd
  | .eql => strEql
  | .neq => strNeq
  | .lss => strLss
  | .leq => strLeq
  | .gtr => strGtr
  | .geq => strGeq
  | _ => fun _ _ => .no "binop"
noncomputable def otherOp (P : Program) (c : Bool) : BinOp → TypeId → CV → CV → COut
  | .eql => cEq P c false
  | .neq => cEq P c true
  | _ => fun _ _ _ => .no "binop"

noncomputable def cBin (P : Program) (c : Bool) (op : BinOp) (t : TypeId) : CV → CV → COut
  | .int k a, .int k' b => intOp op k k' a b
  | .str a, .str b => strOp op a b
  | .int _ _, _ => .no "binop"
  | .str _, _ => .no "binop"
  | .res _ _ _ _, _ => .no "binop"
  | x, y => otherOp P c op t x y

noncomputable def cUn (op : UnOp) (x : CV) : COut :=
  match op, x with
  | .not, .bool b => .val (.bool (!b))
  | .neg, .int k n => .val (.int k (wrapC k (0 - n)))
  | _, _ => .no "unary"

/-- The elements of a slice, or of a string, in cells. -/
noncomputable def elems (m : Mem) (sz : Nat) : CV → Option (Nat × List CV)
  | .nils => some (0, [])
  | .slc t off n _ => match m.get t with
    | some (.cells _ cs) => match takeB cs off (n * sz) with
      | some l => some (n, l)
      | none => none
    | some (.opn _ _ cs) => match takeB cs off (n * sz) with
      | some l => some (n, l)
      | none => none
    | some (.ro cs) => match takeB cs off (n * sz) with
      | some l => some (n, l)
      | none => none
    | _ => none
  | .opn t k n => match m.get t with
    | some (.opn _ sz' cs) => match Nat.beq sz' sz with
      | true => match takeB cs (k * sz) (n * sz) with
        | some l => some (n, l)
        | none => none
      | false => none
    | _ => none
  | .emp _ _ _ => some (0, [])
  | .void _ => some (0, [])
  | _ => none

noncomputable def bytesC : List CV → Option (List Nat)
  | [] => some []
  | .int .u8 (.ofNat b) :: r => match bytesC r with
    | some l => some (b :: l)
    | none => none
  | _ :: _ => none
noncomputable def toStr (m : Mem) (x : CV) : COut :=
  match elems m 1 x with
  | some (_, l) => match bytesC l with
    | some bs => .val (.str bs)
    | none => .no "bytes to string"
  | none => .no "bytes to string: elements"
/-- A pointer turned to unsafe.Pointer. -/
noncomputable def toUnsafe (P : Program) (m : Mem) (t : TypeId) (tag off : Nat) : COut :=
  match P.info? t, m.get tag with
  | some i, some (.cells _ cs) => match Nat.blt 0 i.size && Nat.blt off cs.length with
    | true => .val (.ptr tag off)
    | false => .no "unsafe pointer"
  | _, _ => .no "unsafe pointer"
/-- And back: a variable of the type lies there. -/
noncomputable def fromUnsafe (P : Program) (m : Mem) (u : TypeId) (tag off : Nat) : COut :=
  match P.info? u, m.get tag with
  | some _, some (.cells ty cs) => match liesAt P P.depth ty (cs.length / P.cellsOf ty) off u 1 with
    | true => .val (.ptr tag off)
    | false => .no "unsafe pointer back"
  | _, _ => .no "unsafe pointer back"
noncomputable def cConv (P : Program) (T : Nat) (m : Mem) (src dst : TypeId) (x : CV) : COut :=
  match P.underlying src, P.underlying dst, x with
  | some _, some (.int k), .int _ n => .val (.int k (wrapC k n))
  | some _, some .string, .str s => .val (.str s)
  | some .string, some (.slice el), .str s => match P.underlying el, Nat.ble s.length 1000000 with
    | some (.int .u8), true => .mem (.opn T 0 s.length) (m.newAt T (.opn el 1 (s.map fun b => .int .u8 (.ofNat (b % 256)))))
    | _, _ => .no "string to slice"
  | some (.slice el), some .string, x => match P.underlying el with
    | some (.int .u8) => toStr m x
    | _ => .no "slice to string"
  | some _, some .string, .int _ (.ofNat n) => match Nat.blt n 128 with
    | true => .val (.str [n])
    | false => .no "rune to string"
  | some (.pointer t), some .unsafePointer, .ptr tag off => toUnsafe P m t tag off
  | some .unsafePointer, some (.pointer u), .ptr tag off => fromUnsafe P m u tag off
  | _, _, _ => .no "convert"

noncomputable def ixStr (i : CV) : CV → COut
  | .str s => match i with
    | .int _ (.ofNat n) => match nth s n with
      | some b => .val (.int .u8 (.ofNat (b % 256)))
      | none => .no "string index"
    | _ => .no "string index"
  | _ => .no "index"
noncomputable def ixArr (P : Program) (elem : TypeId) (len : Nat) (i : CV) : CV → COut
  | .agg cs => match i with
    | .int _ (.ofNat n) => match P.info? elem with
      | some inf => match Nat.blt n len with
        | true => match part P elem cs (n * inf.size) with
          | some v => .val v
          | none => .no "array part"
        | false => .no "array index"
      | none => .no "type"
    | _ => .no "array index"
  | _ => .no "index"
noncomputable def cIndex (P : Program) (t : TypeId) (x i : CV) : COut :=
  match P.underlying t with
  | some .string => ixStr i x
  | some (.array len elem) => ixArr P elem len i x
  | _ => .no "index"

noncomputable def iaSlc (P : Program) (elem : TypeId) (tag off n : Nat) : CV → COut
  | .int _ (.ofNat k) => match P.info? elem with
    | some inf => match Nat.blt k n with
      | true => .val (.ptr tag (Nat.add off (Nat.mul k inf.size)))
      | false => .no "slice index"
    | none => .no "type"
  | _ => .no "index"
noncomputable def iaOpn (P : Program) (elem : TypeId) (m : Mem) (tag e n : Nat) : CV → COut
  | .int _ (.ofNat k) => match P.info? elem with
    | some inf => match m.get tag with
      | some (.opn _ sz _) => match Nat.blt k n && Nat.beq sz inf.size with
        | true => .val (.ptr tag (Nat.mul (Nat.add e k) sz))
        | false => .no "slice index"
      | _ => .no "slice gone"
    | none => .no "type"
  | _ => .no "index"
noncomputable def iaSlice (P : Program) (elem : TypeId) (m : Mem) (i : CV) : CV → COut
  | .slc tag off n _ => iaSlc P elem tag off n i
  | .opn tag e n => iaOpn P elem m tag e n i
  | _ => .no "indexAddr"
noncomputable def iaArr (P : Program) (elem : TypeId) (len : Nat) (i : CV) : CV → COut
  | .ptr tag off => iaSlc P elem tag off len i
  | _ => .no "indexAddr"
noncomputable def cIndexAddr (P : Program) (m : Mem) (t : TypeId) (x i : CV) : COut :=
  match P.underlying t with
  | some (.slice elem) => iaSlice P elem m i x
  | some (.array len elem) => iaArr P elem len i x
  | _ => .no "indexAddr"

noncomputable def bound (x : Option CV) (d : Nat) : Option Nat :=
  match x with
  | none => some d
  | some (.int _ (.ofNat n)) => some n
  | some _ => none

noncomputable def slStr (lo hi : Option CV) : CV → COut
  | .str s => match bound lo 0, bound hi s.length with
    | some a, some b => match Nat.ble a b && Nat.ble b s.length with
      | true => .val (.str ((s.drop a).take (b - a)))
      | false => .no "string slice bounds"
    | _, _ => .no "string slice"
  | _ => .no "slice"
noncomputable def slSlc (inf : TypeInfo) (lo hi : Option CV) (tag off n c : Nat) : COut :=
  match bound lo 0, bound hi n with
  | some a, some b => match Nat.ble a b && Nat.ble b c with
    | true => .val (.slc tag (match Nat.beq c a with | true => off | false => off + a * inf.size) (b - a) (c - a))
    | false => .no "slice bounds"
  | _, _ => .no "slice bounds"
noncomputable def slOpn (inf : TypeInfo) (lo hi : Option CV) (sz : Nat) (cs : List CV) (tag k n : Nat) : COut :=
  match bound lo 0, bound hi n with
  | some a, some b => match Nat.ble a b && (Nat.ble ((k + b) * sz) cs.length && (Nat.beq sz inf.size && Nat.blt 0 sz)) with
    | true => match Nat.beq a 0 || Nat.blt ((k + a) * sz) cs.length with
      | true => .val (.opn tag (k + a) (b - a))
      | false => .val (.emp tag k a)
    | false => .no "open slice bounds"
  | _, _ => .no "slice bounds"
noncomputable def slNil (lo hi : Option CV) : COut :=
  match bound lo 0, bound hi 0 with
  | some 0, some 0 => .val .nils
  | _, _ => .no "nil slice bounds"
noncomputable def slVoid (a : Addr) (lo hi : Option CV) : COut :=
  match bound lo 0, bound hi 0 with
  | some 0, some 0 => .val (.void a)
  | _, _ => .no "empty slice bounds"
noncomputable def slSlice (inf : TypeInfo) (m : Mem) (lo hi : Option CV) : CV → COut
  | .slc tag off n c => slSlc inf lo hi tag off n c
  | .opn tag k n => match m.get tag with
    | some (.opn _ sz cs) => slOpn inf lo hi sz cs tag k n
    | _ => .no "open slice gone"
  | .nils => slNil lo hi
  | .void a => slVoid a lo hi
  | _ => .no "slice"
noncomputable def slArr (inf : TypeInfo) (n : Nat) (lo hi : Option CV) : CV → COut
  | .ptr tag off => slSlc inf lo hi tag off n n
  | _ => .no "slice"
noncomputable def slSlcF (inf : TypeInfo) (lo : Option CV) (tag off c b mx : Nat) : COut :=
  match bound lo 0 with
  | some a => match Nat.ble a b && (Nat.ble b mx && Nat.ble mx c) with
    | true => .val (.slc tag (match Nat.beq mx a with | true => off | false => off + a * inf.size) (b - a) (mx - a))
    | false => .no "slice bounds"
  | none => .no "slice bounds"
noncomputable def slOpnF (inf : TypeInfo) (lo : Option CV) (sz : Nat) (cs : List CV) (tag k b mx : Nat) : COut :=
  match bound lo 0 with
  | some a => match Nat.ble a b && (Nat.ble b mx && (Nat.ble ((k + mx) * sz) cs.length && (Nat.beq sz inf.size && Nat.blt 0 sz))) with
    | true => .val (.slc tag (match Nat.beq mx a with | true => k * sz | false => (k + a) * sz) (b - a) (mx - a))
    | false => .no "open slice bounds"
  | none => .no "slice bounds"
noncomputable def slNilF (lo : Option CV) (b mx : Nat) : COut :=
  match bound lo 0, b, mx with
  | some 0, 0, 0 => .val .nils
  | _, _, _ => .no "nil slice bounds"
noncomputable def slVoidF (a : Addr) (lo : Option CV) (b mx : Nat) : COut :=
  match bound lo 0, b, mx with
  | some 0, 0, 0 => .val (.void a)
  | _, _, _ => .no "empty slice bounds"
noncomputable def slFull (inf : TypeInfo) (m : Mem) (lo : Option CV) (b mx : Nat) : CV → COut
  | .slc tag off _ c => slSlcF inf lo tag off c b mx
  | .opn tag k _ => match m.get tag with
    | some (.opn _ sz cs) => slOpnF inf lo sz cs tag k b mx
    | _ => .no "open slice gone"
  | .nils => slNilF lo b mx
  | .void a => slVoidF a lo b mx
  | _ => .no "full slice"
noncomputable def cSliceF (P : Program) (m : Mem) (t : TypeId) (x : CV) (lo hi : Option CV) (c : CV) : COut :=
  match hi, c with
  | some (.int _ (.ofNat b)), .int _ (.ofNat mx) => match P.underlying t with
    | some (.slice elem) => match P.info? elem with
      | some inf => slFull inf m lo b mx x
      | none => .no "slice type"
    | _ => .no "full slice"
  | _, _ => .no "full slice"
noncomputable def cSlice (P : Program) (m : Mem) (t : TypeId) (x : CV) (lo hi mx : Option CV) : COut :=
  match mx with
  | some c => cSliceF P m t x lo hi c
  | none => match P.underlying t with
    | some .string => slStr lo hi x
    | some (.slice elem) => match P.info? elem with
      | some inf => slSlice inf m lo hi x
      | none => .no "type"
    | some (.array n elem) => match P.info? elem with
      | some inf => slArr inf n lo hi x
      | none => .no "type"
    | _ => .no "slice"

noncomputable def lenStr : CV → COut
  | .str s => .val (.int .i64 (.ofNat s.length))
  | _ => .no "len"
noncomputable def lenSlc : CV → COut
  | .slc _ _ n _ => .val (.int .i64 (.ofNat n))
  | .opn _ _ n => .val (.int .i64 (.ofNat n))
  | .emp _ _ _ => .val (.int .i64 (.ofNat 0))
  | .void _ => .val (.int .i64 (.ofNat 0))
  | .nils => .val (.int .i64 (.ofNat 0))
  | _ => .no "len"
noncomputable def lenMap (m : Mem) : CV → COut
  | .nilm => .val (.int .i64 (.ofNat 0))
  | .map tag => match m.get tag with
    | some (.map es _) => .val (.int .i64 (.ofNat es.length))
    | _ => .no "map"
  | _ => .no "len"
noncomputable def cLen (P : Program) (m : Mem) (t : TypeId) (x : CV) : COut :=
  match P.underlying t with
  | some .string => lenStr x
  | some (.slice _) => lenSlc x
  | some (.array n _) => .val (.int .i64 (.ofNat n))
  | some (.map _ _) => lenMap m x
  | _ => .no "len"

noncomputable def cFieldAddr (P : Program) (s : TypeId) (x : CV) (f : Nat) : COut :=
  match P.underlying s with
  | some (.struct fs) => match nth fs.toList f with
    | some fd => match P.info? fd.type with
      | some i => match i.size with
        | 0 => .no "a field without cells"
        | _ + 1 => match x with
          | .ptr t off => .val (.ptr t (Nat.add off fd.offset))
          | _ => .no "fieldAddr"
      | none => .no "type"
    | none => .no "field"
  | _ => .no "fieldAddr"

noncomputable def cField (P : Program) (t : TypeId) (x : CV) (f : Nat) : COut :=
  match P.underlying t, x with
  | some (.struct fs), .agg cs => match nth fs.toList f with
    | some fd => match part P fd.type cs fd.offset with
      | some v => .val v
      | none => .no "field"
    | none => .no "field"
  | _, _ => .no "field"

noncomputable def cLoad (P : Program) (m : Mem) (t : TypeId) (x : CV) : COut :=
  match x with
  | .ptr tag off => match rdCells m tag with
    | some cs => match part P t cs off with
      | some v => .val v
      | none => .no "load: no such cell"
    | none => .no "load: no such block"
  | _ => .no "load"

noncomputable def cStore (P : Program) (m : Mem) (t : TypeId) (x v : CV) : COut :=
  match x, P.info? t, cvCells v with
  | .ptr tag off, some inf, some vs => match Nat.beq vs.length inf.size with
    | true => match wr m tag off vs with
      | some m' => .mem undefC m'
      | none => .no "store: no such cell"
    | false => .no "store: size"
  | _, _, _ => .no "store"

noncomputable def zeroC (P : Program) (t : TypeId) : Option (List CV) :=
  match P.info? t with
  | some i => match i.zero with
    | some z => ofVL z.cells.toList
    | none => none
  | none => none
noncomputable def zeroV (P : Program) (t : TypeId) : Option CV :=
  match P.info? t with
  | some i => match i.zero with
    | some z => ofV z
    | none => none
  | none => none

noncomputable def rep (z : List CV) : Nat → List CV
  | 0 => []
  | n + 1 => z ++ rep z n

noncomputable def fillC (place : Nat → Option (Nat × Nat)) (cells : List CV) : List (Nat × CV) → Option (List CV)
  | [] => some cells
  | (i, v) :: rest => match place i, cvCells v with
    | some (off, size), some vs => match Nat.beq vs.length size && Nat.ble (off + vs.length) cells.length with
      | true => fillC place (wrCells cells off vs) rest
      | false => none
    | _, _ => none

noncomputable def structPlace (P : Program) (fs : Array Field) (i : Nat) : Option (Nat × Nat) :=
  match nth fs.toList i with
  | some f => some (f.offset, P.cellsOf f.type)
  | none => none
noncomputable def infoAll (P : Program) : List Field → Bool
  | [] => true
  | f :: fs => (P.info? f.type).isSome && infoAll P fs

noncomputable def cBuild (P : Program) (t : TypeId) (parts : List (Nat × CV)) : COut :=
  match zeroC P t with
  | none => .no "zero"
  | some z => match P.underlying t with
    | some (.struct fs) => match infoAll P fs.toList with
      | true => match fillC (structPlace P fs) z parts with
        | some cs => .val (.agg cs)
        | none => .no "build"
      | false => .no "build"
    | some (.array _ elem) => match P.info? elem with
      | some i => match fillC (fun k => some (k * i.size, i.size)) z parts with
        | some cs => .val (.agg cs)
        | none => .no "build"
      | none => .no "type"
    | _ => .no "build"

noncomputable def cBuildSlice (P : Program) (T : Nat) (m : Mem) (t : TypeId) (len : Nat) (parts : List (Nat × CV)) : COut :=
  match P.underlying t with
  | some (.slice elem) => match P.info? elem, zeroC P elem with
    | some i, some z => match Nat.blt 0 i.size && (Nat.ble (len * i.size) 100000 && Nat.beq z.length i.size) with
      | true => match fillC (fun k => some (k * i.size, i.size)) (rep z len) parts with
        | some cs => match cs.all one with
          | true => .mem (.slc T 0 len len) (m.newAt T (.cells elem cs))
          | false => .no "buildSlice"
        | none => .no "buildSlice"
      | false => .no "buildSlice"
    | _, _ => .no "type"
  | _ => .no "buildSlice"

noncomputable def cBox (T : Nat) (m : Mem) (t : TypeId) (v : CV) : COut :=
  match cvCells v with
  | some vs => match vs.all one with
    | true => .mem (.ptr T 0) (m.newAt T (.cells t vs))
    | false => .no "box"
  | none => .no "box"

noncomputable def cMakeSlice (P : Program) (T : Nat) (m : Mem) (t : TypeId) (l c : CV) : COut :=
  match P.underlying t, l, c with
  | some (.slice elem), .int .i64 (.ofNat l), .int .i64 (.ofNat c) => match P.info? elem, zeroC P elem with
    | some i, some z => match Nat.blt 0 i.size && (Nat.ble l c && (Nat.ble c 100000 && (Nat.ble (c * i.bytes) 1000000000 && (Nat.beq z.length i.size && z.all one)))) with
      | true => .mem (.slc T 0 l c) (m.newAt T (.cells elem (rep z c)))
      | false => .no "makeSlice"
    | _, _ => .no "type"
  | _, _, _ => .no "makeSlice"

/-- Small enough that every row of this length has room. -/
noncomputable def fits (bytes need : Nat) : Bool := Nat.ble need 1000000 && Nat.ble bytes 1000000

noncomputable def apSlc (T : Nat) (m : Mem) (elem : TypeId) (sz nx : Nat) (new old : List CV) (t off n c : Nat) : COut :=
  match Nat.ble (n + nx) c with
  | true => match wr m t (off + n * sz) new with
    | some m' => .mem (.slc t off (n + nx) c) m'
    | none => .no "append in place"
  | false => .mem (.opn T 0 (n + nx)) (m.newAt T (.opn elem sz (old ++ new)))
noncomputable def apOpn (T : Nat) (m : Mem) (elem : TypeId) (sz nx : Nat) (new old : List CV) (t k n : Nat) : COut :=
  match m.get t with
  | some (.opn ty _ cs) => match Nat.beq ty elem with
    | true => match Nat.ble ((k + n + nx) * sz) cs.length with
      | true => match wr m t ((k + n) * sz) new with
        | some m' => .mem (.opn t k (n + nx)) m'
        | none => .no "append in place"
      | false => .mem (.opn T 0 (n + nx)) ((m.kill t).newAt T (.opn elem sz (old ++ new)))
    | false => .no "append: row"
  | _ => .no "append: gone"
noncomputable def apGo (T : Nat) (m : Mem) (elem : TypeId) (sz nx : Nat) (new old : List CV) : CV → COut
  | .nils => .mem (.opn T 0 nx) (m.newAt T (.opn elem sz new))
  | .void _ => .mem (.opn T 0 nx) (m.newAt T (.opn elem sz new))
  | .slc t off n c => apSlc T m elem sz nx new old t off n c
  | .opn t k n => apOpn T m elem sz nx new old t k n
  | _ => .no "append behind"
noncomputable def ap0 : CV → COut
  | .slc t off n c => match Nat.ble n c with
    | true => .val (.slc t off n c)
    | false => .no "append"
  | s => .val s
noncomputable def cAppend (P : Program) (T : Nat) (m : Mem) (ty T2 : TypeId) (s x : CV) : COut :=
  match Nat.beq ty T2 with
  | false => .no "append: types"
  | true => match P.underlying ty with
    | some (.slice elem) => match P.info? elem, zeroC P elem with
      | some inf, some z => match Nat.blt 0 inf.size && Nat.beq z.length inf.size with
        | true => match elems m inf.size x, elems m inf.size s with
          | some (nx, new), some (n, old) => match fits inf.bytes (n + nx) with
            | true => match nx with
              | 0 => ap0 s
              | k + 1 => apGo T m elem inf.size (k + 1) new old s
            | false => .no "append: long"
          | _, _ => .no "append: elements"
        | false => .no "append: elements without cells"
      | _, _ => .no "type"
    | _ => .no "append"

/-- A string's bytes are appended. -/
noncomputable def cAppendS (P : Program) (T : Nat) (m : Mem) (ty T2 : TypeId) (s : CV) (bs : List Nat) : COut :=
  match P.underlying ty, P.underlying T2 with
  | some (.slice elem), some .string => match P.info? elem, zeroC P elem with
    | some inf, some z => match Nat.beq inf.size 1 && Nat.beq z.length 1 with
      | true => match elems m 1 s with
        | some (n, old) => match fits inf.bytes (n + bs.length) with
          | true => match bs.length with
            | 0 => ap0 s
            | k + 1 => apGo T m elem 1 (k + 1) (bs.map fun b => .int .u8 (.ofNat (b % 256))) old s
          | false => .no "append: long"
        | none => .no "append: elements"
      | false => .no "append: no bytes"
    | _, _ => .no "type"
  | _, _ => .no "append: string"

/-- What is copied from: a slice, or a string's bytes. -/
noncomputable def srcE (m : Mem) (sz : Nat) : CV → Option (Nat × List CV)
  | .str s => match Nat.beq sz 1 with
    | true => some (s.length, s.map fun b => .int .u8 (.ofNat (b % 256)))
    | false => none
  | x => elems m sz x
noncomputable def cCopy (P : Program) (m : Mem) (T _T2 : TypeId) (d s : CV) : COut :=
  match P.underlying T with
  | some (.slice elem) => match P.info? elem with
    | some inf => match srcE m inf.size s, elems m inf.size d with
      | some (ns, src), some (nd, _) => match d with
        | .nils => .val (.int .i64 0)
        | .slc t off _ _ => match wr m t off (src.take ((min ns nd) * inf.size)) with
          | some m' => .mem (.int .i64 (.ofNat (min ns nd))) m'
          | none => .no "copy"
        | .opn t k _ => match wr m t (k * inf.size) (src.take ((min ns nd) * inf.size)) with
          | some m' => .mem (.int .i64 (.ofNat (min ns nd))) m'
          | none => .no "copy"
        | _ => .no "copy"
      | _, _ => .no "copy: elements"
    | none => .no "type"
  | _ => .no "copy"

/-- clear, of a slice. -/
noncomputable def cClear (P : Program) (m : Mem) (T : TypeId) (x : CV) : COut :=
  match P.underlying T with
  | some (.slice elem) => match P.info? elem, zeroC P elem with
    | some inf, some z => match Nat.blt 0 inf.size && Nat.beq z.length inf.size with
      | true => match elems m inf.size x with
        | some (n, _) => match n with
          | 0 => .val undefC
          | n + 1 => match x with
            | .slc t off _ _ => match wr m t off (rep z (n + 1)) with
              | some m' => .mem undefC m'
              | none => .no "clear"
            | .opn t k _ => match wr m t (k * inf.size) (rep z (n + 1)) with
              | some m' => .mem undefC m'
              | none => .no "clear"
            | _ => .no "clear"
        | none => .no "clear: elements"
      | false => .no "clear: elements without cells"
    | _, _ => .no "type"
  | _ => .no "clear"

/-- unsafe.String over a row of bytes: the row is not read again. -/
noncomputable def usStr (m : Mem) (t n e : Nat) : Option CO → COut
  | some (.cells ty cs) => match Nat.beq ty e, takeB cs 0 n with
    | true, some l => match bytesC l with
      | some bs => match bs.all fun b => Nat.blt b 256 with
        | true => .mem (.str bs) (m.kill t)
        | false => .no "unsafe string: bytes"
      | none => .no "unsafe string: bytes"
    | _, _ => .no "unsafe string: row"
  | some (.opn ty _ cs) => match Nat.beq ty e, takeB cs 0 n with
    | true, some l => match bytesC l with
      | some bs => match bs.all fun b => Nat.blt b 256 with
        | true => .mem (.str bs) (m.kill t)
        | false => .no "unsafe string: bytes"
      | none => .no "unsafe string: bytes"
    | _, _ => .no "unsafe string: row"
  | _ => .no "unsafe string: no row"
/-- Where a row of bytes begins. -/
noncomputable def cSliceData (m : Mem) : CV → COut
  | .nils => .val .nilp
  | .slc t off _ (_ + 1) => .val (.ptr t off)
  | .opn t 0 (_ + 1) => match m.get t with
    | some (.opn _ _ (_ :: _)) => .val (.ptr t 0)
    | _ => .no "slice data"
  | _ => .no "slice data"
noncomputable def cUnsafeStr (P : Program) (m : Mem) (pt : TypeId) : CV → CV → COut
  | .ptr t 0, .int .i64 (.ofNat (n + 1)) => match P.underlying pt with
    | some (.pointer e) => match Nat.beq (P.cellsOf e) 1 && Nat.ble n 1000000 with
      | true => usStr m t (n + 1) e (m.get t)
      | false => .no "unsafe string: size"
    | _ => .no "unsafe string: type"
  | .nilp, .int .i64 (.ofNat 0) => .val (.str [])
  | _, _ => .no "unsafe string"

/-! ### maps -/

mutual
noncomputable def cvEq : CV → CV → Bool
  | .bool a, .bool b => match a with | true => b | false => !b
  | .int k n, .int k' n' => kEq k k' && ieq n n'
  | .str a, .str b => natsEq a b
  | .agg a, .agg b => cvEqL a b
  | .tup a, .tup b => cvEqL a b
  | .ptr a b, .ptr a' b' => Nat.beq a a' && Nat.beq b b'
  | .slc a b c d, .slc a' b' c' d' => Nat.beq a a' && (Nat.beq b b' && (Nat.beq c c' && Nat.beq d d'))
  | .opn a b c, .opn a' b' c' => Nat.beq a a' && (Nat.beq b b' && Nat.beq c c')
  | .emp a b c, .emp a' b' c' => Nat.beq a a' && (Nat.beq b b' && Nat.beq c c')
  | .fn f a b, .fn f' a' b' => Nat.beq f f' && (cvEqL a a' && cvEqL b b')
  | .yld a, .yld b => Nat.beq a b
  | .map a, .map b => Nat.beq a b
  | .ifc t v, .ifc t' v' => Nat.beq t t' && cvEq v v'
  | .nilp, .nilp => true
  | .nils, .nils => true
  | .nilf, .nilf => true
  | .nilm, .nilm => true
  | .nili, .nili => true
  | .void a, .void b => decide (a = b)
  | _, _ => false
noncomputable def cvEqL : List CV → List CV → Bool
  | [], [] => true
  | a :: x, b :: y => cvEq a b && cvEqL x y
  | _, _ => false
noncomputable def natsEq : List Nat → List Nat → Bool
  | [], [] => true
  | a :: x, b :: y => Nat.beq a b && natsEq x y
  | _, _ => false
end

/-- Keys that are arrays or structs of numbers and Bools. -/
noncomputable def wideKey (P : Program) (t : TypeId) : Bool := match P.underlying t with
  | some (.array _ _) => P.keyTypeAt 6 t && P.tiled 6 t
  | some (.struct _) => P.keyTypeAt 6 t && P.tiled 6 t
  | _ => false
noncomputable def litV : List CV → Option (List Value)
  | [] => some []
  | .bool b :: r => match litV r with
    | some l => some (.bool b :: l)
    | none => none
  | .int k n :: r => match litV r with
    | some l => some (.int k n :: l)
    | none => none
  | _ :: _ => none
noncomputable def keyL (P : Program) (t : TypeId) : CV → Bool
  | .agg cs => match litV cs with
    | some vs => (P.keyLits 8 t vs).isSome
    | none => false
  | _ => false
noncomputable def keyS (P : Program) (t : TypeId) : Bool := match P.underlying t with
  | some (.int _) => true
  | some .string => true
  | some .bool => true
  | _ => false
noncomputable def keyOk (P : Program) (t : TypeId) (k : CV) : Bool := match wideKey P t with
  | true => keyL P t k
  | false => keyS P t
noncomputable def ceqK (P : Program) (t : TypeId) (x y : CV) : Option Bool := match wideKey P t with
  | true => match keyL P t y with
    | true => some (cvEq x y)
    | false => none
  | false => ceq P 40 t x y
noncomputable def findC (P : Program) (kt : TypeId) (k : CV) : List (CV × CV × Nat) → Nat → Option (Option (Nat × CV × Nat))
  | [], _ => some none
  | (a, b, s) :: es, i => match ceqK P kt k a with
    | some true => some (some (i, b, s))
    | some false => findC P kt k es (i + 1)
    | none => none

noncomputable def mapEs (m : Mem) : CV → Option (List (CV × CV × Nat))
  | .nilm => some []
  | .map tag => match m.get tag with
    | some (.map es _) => some es
    | _ => none
  | _ => none

noncomputable def cLookup (P : Program) (m : Mem) (t : TypeId) (x k : CV) (ok : Bool) : COut :=
  match P.underlying t with
  | some (.map kt et) => match keyOk P kt k, zeroV P et with
    | true, some z => match mapEs m x with
      | some es => match findC P kt k es 0 with
        | some (some (_, v, _)) => .val (match ok with | true => .tup [v, .bool true] | false => v)
        | some none => .val (match ok with | true => .tup [z, .bool false] | false => z)
        | none => .no "lookup: keys"
      | none => .no "lookup: no map"
    | _, _ => .no "lookup: type"
  | _ => .no "lookup"

noncomputable def cMapUpdate (P : Program) (m : Mem) (t : TypeId) (x k v : CV) : COut :=
  match P.underlying t, x with
  | some (.map kt _), .map tag => match keyOk P kt k, m.get tag with
    | true, some (.map es clock) => match findC P kt k es 0 with
      | some (some (i, _, s)) => .mem undefC (m.put tag (.map (es.set i (k, v, s)) clock))
      | some none => .mem undefC (m.put tag (.map (es ++ [(k, v, clock)]) (clock + 1)))
      | none => .no "map update: keys"
    | _, _ => .no "map update: no map"
  | _, _ => .no "map update"

noncomputable def cMapEntry (P : Program) (m : Mem) (t : TypeId) (x k : CV) : COut :=
  match P.underlying t, x with
  | some (.map kt et), .map tag => match keyOk P kt k, m.get tag, zeroV P et with
    | true, some (.map es clock), some z => match findC P kt k es 0 with
      | some (some (i, v, s)) => .mem (.tup [v, .int .i64 (.ofNat s)]) (m.put tag (.map (es.set i (k, v, s)) clock))
      | some none => .mem (.tup [z, .int .i64 (.ofNat clock)]) (m.put tag (.map (es ++ [(k, z, clock)]) (clock + 1)))
      | none => .no "map entry: keys"
    | _, _, _ => .no "map entry: no map"
  | _, _ => .no "map entry"
/-- The entry that was born then. -/
noncomputable def bornC (s : Nat) : List (CV × CV × Nat) → Nat → Option (Nat × CV)
  | [], _ => none
  | (a, _, s') :: es, i => match Nat.beq s' s with
    | true => some (i, a)
    | false => bornC s es (i + 1)
noncomputable def cEntryStore (m : Mem) (x s v : CV) : COut :=
  match x, s with
  | .map tag, .int _ (.ofNat s) => match m.get tag with
    | some (.map es clock) => match bornC s es 0 with
      | some (i, k) => .mem undefC (m.put tag (.map (es.set i (k, v, s)) clock))
      | none => .no "entry store: gone"
    | _ => .no "entry store: no map"
  | _, _ => .no "entry store"

noncomputable def cTypeAssert (P : Program) (x : CV) (a : TypeId) (ok : Bool) : COut :=
  match P.underlying a with
  | some (.interface _) => .no "type assertion to an interface"
  | some _ => match x, zeroV P a with
    | .ifc t v, some z => match Nat.beq t a, ok with
      | true, true => .val (.tup [v, .bool true])
      | true, false => .val v
      | false, true => .val (.tup [z, .bool false])
      | false, false => .no "type assertion fails"
    | _, _ => .no "type assertion"
  | none => .no "type"

/-! ### operands, calls -/

noncomputable def evO (t : Tmps) (x : Operand) : Option CV :=
  Operand.rec (motive := fun _ => Option CV) (fun i => t.get i) ofV (fun g => Bool.rec (motive := fun _ => Option CV) none (some (.ptr g 0)) (Nat.blt g 64)) (fun f => some (.fn f [] [])) x

noncomputable def evL (t : Tmps) : List Operand → Option (List CV)
  | [] => some []
  | x :: xs => match evO t x with
    | some v => match evL t xs with
      | some vs => some (v :: vs)
      | none => none
    | none => none
noncomputable def evP (t : Tmps) : List (Nat × Operand) → Option (List (Nat × CV))
  | [] => some []
  | (i, x) :: xs => match evO t x with
    | some v => match evP t xs with
      | some vs => some ((i, v) :: vs)
      | none => none
    | none => none
noncomputable def evOpt (t : Tmps) : Option Operand → Option (Option CV)
  | none => some none
  | some x => match evO t x with
    | some v => some (some v)
    | none => none

noncomputable def callV (f : CV) (args : List CV) : COut :=
  match f with
  | .fn g a b => .call g (a ++ args ++ b)
  | .yld l => .yield l args
  | _ => .no "call: no function"

noncomputable def cMinMax (mx : Bool) : List CV → COut
  | [.int k a, .int k' b] => match kEq k k' with
    | true => .val (.int k (match mx with | true => (match ilt a b with | true => b | false => a) | false => (match ilt b a with | true => b | false => a)))
    | false => .no "min, max"
  | _ => .no "min, max"

noncomputable def biLen (P : Program) (tys : List TypeId) (m : Mem) : List CV → COut
  | [x] => match tys with
    | [ty] => cLen P m ty x
    | _ => .no "len"
  | _ => .no "len"
noncomputable def ap2 (P : Program) (T : Nat) (m : Mem) (ty ty2 : TypeId) (x : CV) : CV → COut
  | .str bs => cAppendS P T m ty ty2 x bs
  | y => cAppend P T m ty ty2 x y
noncomputable def biAppend (P : Program) (T : Nat) (tys : List TypeId) (m : Mem) : List CV → COut
  | [x, y] => match tys with
    | [ty, ty2] => ap2 P T m ty ty2 x y
    | _ => .no "append"
  | _ => .no "append"
noncomputable def biSD (m : Mem) : List CV → COut
  | [x] => cSliceData m x
  | _ => .no "slice data"
noncomputable def biCopy (P : Program) (tys : List TypeId) (m : Mem) : List CV → COut
  | [x, y] => match tys with
    | [ty, ty2] => cCopy P m ty ty2 x y
    | _ => .no "copy"
  | _ => .no "copy"
noncomputable def biClear (P : Program) (tys : List TypeId) (m : Mem) : List CV → COut
  | [x] => match tys with
    | [ty] => cClear P m ty x
    | _ => .no "clear"
  | _ => .no "clear"
noncomputable def biMax (_ : Mem) (l : List CV) : COut := cMinMax true l
noncomputable def biMin (_ : Mem) (l : List CV) : COut := cMinMax false l
noncomputable def biRec (_ : Mem) : List CV → COut
  | [] => .recover
  | _ => .no "recover"
noncomputable def biUS (P : Program) (tys : List TypeId) (m : Mem) : List CV → COut
  | [x, y] => match tys with
    | [pt, _] => cUnsafeStr P m pt x y
    | _ => .no "unsafe string"
  | _ => .no "unsafe string"
noncomputable def cBuiltin (P : Program) (T : Nat) (tys : List TypeId) : Builtin → Mem → List CV → COut
  | .len => biLen P tys
  | .append => biAppend P T tys
  | .copy => biCopy P tys
  | .clear => biClear P tys
  | .recover => biRec
  | .unsafeString => biUS P tys
  | .unsafeSliceData => biSD
  | .max => biMax
  | .min => biMin
  | _ => fun _ _ => .no "builtin"

noncomputable def callF (f : Operand) (m : Mem) (t : Tmps) (args : List CV) : COut :=
  match evO t f with
  | some f => callV f args
  | none => .no "call"
noncomputable def cCallee (P : Program) (T : Nat) (tys : List TypeId) : Callee → Mem → Tmps → List CV → COut
  | .value f => callF f
  | .invoke _ _ => fun _ _ _ => .no "invoke"
  | .builtin b => fun m _ args => cBuiltin P T tys b m args
noncomputable def opCall (P : Program) (T : Nat) (c : Call) (m : Mem) (t : Tmps) : COut :=
  match evL t c.args.toList with
  | none => .no "call: arguments"
  | some args => cCallee P T c.argTypes.toList c.callee m t args

noncomputable def un1 (f : Mem → CV → COut) (x : Operand) (m : Mem) (t : Tmps) : COut :=
  Option.rec (motive := fun _ => COut) (.no "operand") (fun v => f m v) (evO t x)
noncomputable def bin2 (f : Mem → CV → CV → COut) (x y : Operand) (m : Mem) (t : Tmps) : COut :=
  Option.rec (motive := fun _ => COut) (.no "operand") (fun v => Option.rec (motive := fun _ => COut) (.no "operand") (fun u => f m v u) (evO t y)) (evO t x)
noncomputable def tri3 (f : Mem → CV → CV → CV → COut) (x y z : Operand) (m : Mem) (t : Tmps) : COut :=
  match evO t x with
  | some v => bin2 (fun m a b => f m v a b) y z m t
  | none => .no "operand"
noncomputable def fMove (_ : Mem) (v : CV) : COut := .val v
noncomputable def opPick (c a b : Operand) (m : Mem) (t : Tmps) : COut :=
  match evO t c with
  | some (.bool true) => un1 fMove a m t
  | some (.bool false) => un1 fMove b m t
  | _ => .no "pick"
noncomputable def opAlloc (P : Program) (T : Nat) (e : TypeId) (m : Mem) (_ : Tmps) : COut :=
  match zeroV P e with
  | some z => cBox T m e z
  | none => .no "alloc"
noncomputable def opBuild (P : Program) (ty : TypeId) (ps : Array (Nat × Operand)) (_ : Mem) (t : Tmps) : COut :=
  match evP t ps.toList with
  | some ps => cBuild P ty ps
  | none => .no "build"
noncomputable def opBuildSlice (P : Program) (T : Nat) (ty : TypeId) (n : Nat) (ps : Array (Nat × Operand)) (m : Mem) (t : Tmps) : COut :=
  match evP t ps.toList with
  | some ps => cBuildSlice P T m ty n ps
  | none => .no "buildSlice"
noncomputable def fNil (_ : Mem) : CV → COut
  | .ptr a b => .val (.ptr a b)
  | .fn a b c => .val (.fn a b c)
  | .yld l => .val (.yld l)
  | _ => .no "nilCheck"
noncomputable def fIface (P : Program) (ty : TypeId) (_ : Mem) (x : CV) : COut :=
  match P.underlying ty with
  | some (.interface _) => .no "makeInterface"
  | some _ => .val (.ifc ty x)
  | none => .no "makeInterface"
noncomputable def opFunc (fn : Fn) (a b : Array Operand) (_ : Mem) (t : Tmps) : COut :=
  match fn with
  | .func f => match evL t a.toList with
    | some a => match evL t b.toList with
      | some b => .val (.fn f a b)
      | none => .no "makeFunc"
    | none => .no "makeFunc"
  | _ => .no "makeFunc"
noncomputable def opMap (T : Nat) (r : Option Operand) (m : Mem) (_ : Tmps) : COut :=
  match r with
  | none => .mem (.map T) (m.newAt T (.map [] 0))
  | some _ => .no "makeMap"
noncomputable def opSlice (P : Program) (ty : TypeId) (x : Operand) (lo hi mx : Option Operand) (m : Mem) (t : Tmps) : COut :=
  match evO t x with
  | some x => match evOpt t lo with
    | some lo => match evOpt t hi with
      | some hi => match evOpt t mx with
        | some mx => cSlice P m ty x lo hi mx
        | none => .no "slice"
      | none => .no "slice"
    | none => .no "slice"
  | none => .no "slice"
noncomputable def fExtract (i : Nat) (_ : Mem) : CV → COut
  | .tup vs => match nth vs i with
    | some v => .val v
    | none => .no "extract"
  | _ => .no "extract"
noncomputable def fPanic (_ : Mem) : CV → COut
  | .ifc a b => .panic (.ifc a b)
  | _ => .no "panic"
noncomputable def fDefer (args : List CV) : CV → COut
  | .fn g a b => .defer g (a ++ args ++ b)
  | _ => .no "defer"
noncomputable def opDefer (c : Call) (_ : Mem) (t : Tmps) : COut :=
  match evL t c.args.toList with
  | some args => match c.callee with
    | .value f => match evO t f with
      | some f => fDefer args f
      | none => .no "defer"
    | _ => .no "defer"
  | none => .no "defer"
noncomputable def litO : Operand → Bool
  | .const _ => true
  | _ => false
noncomputable def opNo (_ : Mem) (_ : Tmps) : COut := .no "operation"

noncomputable def copT (P : Program) (T : Nat) (op : Op) : Mem → Tmps → COut :=
  match op with
  | .move x => un1 fMove x
  | .assign x => un1 fMove x
  | .pick c a b => opPick c a b
  | .alloc e => opAlloc P T e
  | .box e x => un1 (fun m v => cBox T m e v) x
  | .build ty ps => opBuild P ty ps
  | .buildSlice ty n ps => opBuildSlice P T ty n ps
  | .load ty a => un1 (fun m v => cLoad P m ty v) a
  | .store ty a x => bin2 (fun m a x => cStore P m ty a x) a x
  | .nilCheck x => un1 fNil x
  | .binOp op ty x y _ => bin2 (fun _ => cBin P (litO x || litO y) op ty) x y
  | .unOp op _ x => un1 (fun _ => cUn op) x
  | .convert s d x => un1 (fun m v => cConv P T m s d v) x
  | .makeInterface ty x => un1 (fIface P ty) x
  | .makeFunc fn a b => opFunc fn a b
  | .makeMap _ r => opMap T r
  | .makeSlice ty l c => bin2 (fun m l c => cMakeSlice P T m ty l c) l c
  | .slice ty x lo hi mx => opSlice P ty x lo hi mx
  | .fieldAddr ty x f => un1 (fun _ v => cFieldAddr P ty v f) x
  | .field ty x f => un1 (fun _ v => cField P ty v f) x
  | .indexAddr ty x i => bin2 (fun m x i => cIndexAddr P m ty x i) x i
  | .index ty x i => bin2 (fun _ x i => cIndex P ty x i) x i
  | .lookup ty x k ok => bin2 (fun m x k => cLookup P m ty x k ok) x k
  | .mapUpdate ty x k v => tri3 (fun m x k v => cMapUpdate P m ty x k v) x k v
  | .mapEntry ty x k => bin2 (fun m x k => cMapEntry P m ty x k) x k
  | .entryStore _ x s v => tri3 (fun m x s v => cEntryStore m x s v) x s v
  | .insert ty x k v => tri3 (fun m x k v => cMapUpdate P m ty x k v) x k v
  | .typeAssert x _ a ok => un1 (fun _ v => cTypeAssert P v a ok) x
  | .extract x i => un1 (fExtract i) x
  | .panic x => un1 fPanic x
  | .call c => opCall P T c
  | .defer c => opDefer c
  | _ => opNo
noncomputable def cop (P : Program) (op : Op) (m : Mem) : Tmps → COut := copT P m.nxt op m
end Go.Cx
