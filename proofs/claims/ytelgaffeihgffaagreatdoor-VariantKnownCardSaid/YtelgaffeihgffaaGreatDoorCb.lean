/-
  A concrete evaluator for Go's IR. Part b: regions, code, calls.
-/
import Derived.Test.YtelgaffeihgffaaGreatDoorCa
set_option linter.unusedSimpArgs false
set_option linter.unusedVariables false
namespace Go.Cx
open Go

inductive CDef where
  | mark (l : Nat)
  | fn (f : FuncId) (args : List CV)
inductive CEx where
  | normal
  | exit (id : Nat)
  | goto (l : Nat)
  | ret
  | panic (v : CV)
inductive Task where
  | call (f : FuncId) (args : List CV) (m : Mem)
  | dcall (f : FuncId) (args : List CV) (m : Mem)
  | rcall (f : FuncId) (args : List CV) (v : CV) (m : Mem)
  | code (c : Code) (t : Tmps) (ds : List CDef) (r : Option Nat) (m : Mem)
inductive Res where
  | no (why : String)
  | ret (v : CV) (m : Mem)
  | pan (v : CV) (m : Mem)
  | ex (e : CEx) (t : Tmps) (ds : List CDef) (m : Mem)
  deriving Inhabited

abbrev KK := Tmps → List CDef → Mem → Res

noncomputable def goOn (k : KK) (d : Option Tmp) (v : CV) (t : Tmps) (ds : List CDef) (m : Mem) : Res :=
  Option.rec (motive := fun _ => Res) (k t ds m) (fun d => Bool.rec (motive := fun _ => Res) (.no "temporary") (k (t.set d v) ds m) (Nat.ble (Nat.succ d) t.sz)) d

noncomputable def gVal (want : Bool) : Option CV → Option Bool
  | some (.bool b) => some (match b with | true => want | false => !want)
  | some (.tup []) => some false
  | _ => none
noncomputable def guardC (ops : List Oper) (t : Tmps) : Option (Nat × Bool) → Option Bool
  | none => some true
  | some (j, want) => match nth ops j with
    | some q => match q.dst with
      | some d => gVal want (t.get d)
      | none => none
    | none => none

noncomputable def zipSet : List Tmp → List CV → Tmps → Option Tmps
  | [], [], t => some t
  | p :: ps, v :: vs, t => match Nat.blt p t.sz with
    | true => zipSet ps vs (t.set p v)
    | false => none
  | _, _, _ => none

noncomputable def jumpOf : CEx → Option (Option Code)
  | .normal => some none
  | .ret => some (some .ret)
  | .exit id => some (some (.exit id))
  | .goto id => some (some (.goto id))
  | .panic _ => none
/-- The end of a round. -/
noncomputable def endRoundC (l : Nat) (m : Mem) (jump : Option Code) : Res :=
  match m.get l with
  | some (.loop _ _ t ps asg body d) => match jump with
    | none => .ret (.bool true) (m.put l (.loop .ready none t ps asg body d))
    | some c => .ret (.bool false) (m.put l (.loop .done (some c) t ps asg body d))
  | _ => .no "round: loop gone"
noncomputable def roundEnd (l : Nat) : Res → Res
  | .ex e _ _ m => match jumpOf e with
    | some j => endRoundC l m j
    | none => .no "panic in a round"
  | .no w => .no w
  | _ => .no "round"
noncomputable def roundGo (ih : Task → Res) (l : Nat) (c : Code) : Res → Res
  | .ex .normal t [] m => match m.get l with
    | some (.loop .ready pe t0 ps asg body d) => roundEnd l (ih (.code c t [] (some l) (m.put l (.loop .busy pe t0 ps asg body d))))
    | _ => .no "yield: state"
  | .no w => .no w
  | _ => .no "yield: assign"
/-- A call of yield. -/
noncomputable def yieldC (ih : Task → Res) (l : Nat) (args : List CV) (m : Mem) : Res :=
  match m.get l with
  | some (.loop _ _ t ps asg body _) => match zipSet ps args t with
    | some t1 => roundGo ih l body (ih (.code asg t1 [] (some l) m))
    | none => .no "yield: arguments"
  | _ => .no "yield: no loop"

noncomputable def backC (k : KK) (dst : Option Tmp) (t : Tmps) (ds : List CDef) : Res → Res
  | .ret v m => goOn k dst v t ds m
  | .pan v m => .ex (.panic v) t ds m
  | .no w => .no w
  | .ex _ _ _ _ => .no "call"
noncomputable def backY (k : KK) (dst : Option Tmp) (t : Tmps) (ds : List CDef) : Res → Res
  | .ret v m => goOn k dst v t ds m
  | .no w => .no w
  | _ => .no "yield"
noncomputable def after (ih : Task → Res) (r : Option Nat) (k : KK) (dst : Option Tmp) (t : Tmps) (ds : List CDef) (m : Mem) : COut → Res
  | .val v => goOn k dst v t ds m
  | .mem v m => goOn k dst v t ds m
  | .call f args => backC k dst t ds (ih (.call f args m))
  | .yield l args => backY k dst t ds (yieldC ih l args m)
  | .defer f args => match r with
    | none => goOn k dst undefC t (.fn f args :: ds) m
    | some _ => .no "defer in a round"
  | .panic v => .ex (.panic v) t ds m
  | .recover => .no "recover"
  | .no w => .no w
noncomputable def runOne (P : Program) (ih : Task → Res) (ops : List Oper) (r : Option Nat) (o : Oper) (k : KK) (t : Tmps) (ds : List CDef) (m : Mem) : Res :=
  match guardC ops t o.guard with
  | some true => after ih r k o.dst t ds m (cop P o.op m t)
  | some false => goOn k o.dst undefC t ds m
  | none => .no "guard"
noncomputable def runOps (P : Program) (ih : Task → Res) (ops : List Oper) (r : Option Nat) (l : List Oper) : KK :=
  List.rec (motive := fun _ => KK) (fun t ds m => .ex .normal t ds m) (fun o _ k => runOne P ih ops r o k) l

/-- The results of a function. -/
noncomputable def resV (P : Program) (t : Tmps) (m : Mem) : List ResultVar → Option (List CV)
  | [] => some []
  | .tmp i :: rs => match t.get i with
    | some v => match resV P t m rs with
      | some vs => some (v :: vs)
      | none => none
    | none => none
  | .cell a ty :: rs => match t.get a with
    | some p => match cLoad P m ty p with
      | .val v => match resV P t m rs with
        | some vs => some (v :: vs)
        | none => none
      | _ => none
    | none => none
noncomputable def oneOf : List CV → CV
  | [v] => v
  | vs => .tup vs

noncomputable def ofList : Nat → List CV → Tr CV → Tr CV
  | _, [], t => t
  | i, v :: vs, t => ofList (i + 1) vs (t.set (i + 1) i (some v))

noncomputable def leaveF (k : Mem → Res) : Res → Res
  | .ret _ m => k m
  | .no w => .no w
  | _ => .no "deferred"
/-- How a function is left: its deferred calls, then its results. -/
noncomputable def leave (P : Program) (ih : Task → Res) (rs : List ResultVar) (t : Tmps) : List CDef → Mem → Res
  | [] => fun m => match resV P t m rs with
    | some vs => .ret (oneOf vs) m
    | none => .no "results"
  | .mark l :: ds => fun m => match m.get l with
    | some (.dfr true) => leave P ih rs t ds (m.put l (.dfr false))
    | _ => .no "mark"
  | .fn f args :: ds => fun m => leaveF (leave P ih rs t ds) (ih (.dcall f args m))

noncomputable def leaveAll (P : Program) (ih : Task → Res) (rs : List ResultVar) : Res → Res
  | .ex .normal t ds m => leave P ih rs t ds m
  | .ex .ret t ds m => leave P ih rs t ds m
  | .ex (.panic v) _ [] m => .pan v m
  | .ex (.panic v) t (.fn f args :: ds) m => leaveF (leave P ih rs t ds) (ih (.rcall f args v m))
  | .no w => .no w
  | _ => .no "function's end"
/-- A deferred call has no deferred calls of its own. -/
noncomputable def leaveD (P : Program) (rs : List ResultVar) : Res → Res
  | .ex .normal t [] m => leave P (fun _ => .no "deferred") rs t [] m
  | .ex .ret t [] m => leave P (fun _ => .no "deferred") rs t [] m
  | .no w => .no w
  | _ => .no "deferred call's end"
noncomputable def goodName (fn : Func) : Bool := match fn.name == "runtime.NumGoroutine" with
  | true => false
  | false => true
noncomputable def callBody (P : Program) (ih : Task → Res) (fn : Func) (args : List CV) (m : Mem) (k : Res → Res) : Option Code → Res
  | some c => match Nat.ble args.length fn.ntmps && goodName fn with
    | true => k (ih (.code c ⟨fn.ntmps, ofList 0 args .nil⟩ [] none m))
    | false => .no "arguments"
  | none => .no fn.name
/-- internal/abi.NoEscape. -/
noncomputable def escC (fn : Func) (m : Mem) : List CV → Res
  | [.ptr t off] => match fn.name == "internal/abi.NoEscape" && fn.origin == "" with
    | true => .ret (.ptr t off) m
    | false => .no fn.name
  | _ => .no fn.name
noncomputable def callC (P : Program) (ih : Task → Res) (args : List CV) (m : Mem) : Option Func → Res
  | some fn => match fn.body with
    | some c => callBody P ih fn args m (leaveAll P ih fn.results.toList) (some c)
    | none => escC fn m args
  | none => .no "no function"
theorem callC_body {P : Program} {ih : Task → Res} {args : List CV} {m : Mem} {fn : Func} {c : Code} (hb : fn.body = some c) : callC P ih args m (some fn) = callBody P ih fn args m (leaveAll P ih fn.results.toList) (some c) := by
  show (match fn.body with
    | some c => callBody P ih fn args m (leaveAll P ih fn.results.toList) (some c)
    | none => escC fn m args) = _
  rw [hb]
/-- A function's first region, and what comes behind it. -/
noncomputable def recSplit : Code → Option (Array Oper × List Code)
  | .region _ ops false => some (ops, [])
  | .seq a b => match recSplit a with
    | some (ops, r) => some (ops, r ++ [b])
    | none => none
  | _ => none
noncomputable def runL (ih : Task → Res) : List Code → Tmps → List CDef → Mem → Res
  | [], t, ds, m => .ex .normal t ds m
  | b :: r, t, ds, m => match ih (.code b t ds none m) with
    | .ex .normal t ds m => runL ih r t ds m
    | x => x
noncomputable def isRecover : Op → Bool
  | .call { callee := .builtin .recover, args := ⟨[]⟩, .. } => true
  | _ => false
/-- Operations that only compute. -/
noncomputable def recOps (P : Program) (m : Mem) : List Oper → Tmps → Option Tmps
  | [], t => some t
  | o :: l, t => match o.guard, o.dst, cop P o.op m t with
    | none, some d, .val v => match Nat.ble (Nat.succ d) t.sz with
      | true => recOps P m l (t.set d v)
      | false => none
    | _, _, _ => none
/-- A region that begins with a call of recover, which yields rv. -/
noncomputable def recGo (P : Program) (m : Mem) (rv : CV) (t : Tmps) : List Oper → Option Tmps
  | o :: l => match o.guard, o.dst, isRecover o.op with
    | none, some d, true => match Nat.ble (Nat.succ d) t.sz with
      | true => recOps P m l (t.set d rv)
      | false => none
    | _, _, _ => none
  | [] => none
/-- A deferred call of a function that begins with recover. -/
noncomputable def recCall (P : Program) (ih : Task → Res) (fn : Func) (args : List CV) (m : Mem) (rv : CV) (ops : List Oper) (rest : List Code) : Res :=
  match Nat.ble args.length fn.ntmps && goodName fn with
  | true => match recGo P m rv ⟨fn.ntmps, ofList 0 args .nil⟩ ops with
    | some t => leaveD P fn.results.toList (runL ih rest t [] m)
    | none => .no "recover"
  | false => .no "arguments"
noncomputable def begins (l : List Oper) : Bool := match l with
  | o :: _ => isRecover o.op
  | [] => false
noncomputable def rcallC (P : Program) (ih : Task → Res) (args : List CV) (m : Mem) (v : CV) : Option Func → Res
  | some fn => match fn.body with
    | some c => match recSplit c with
      | some (ops, rest) => recCall P ih fn args m v ops.toList rest
      | none => .no "recover"
    | none => .no fn.name
  | none => .no "no function"
noncomputable def dcallC (P : Program) (ih : Task → Res) (args : List CV) (m : Mem) : Option Func → Res
  | some fn => match (match fn.body with | some c => recSplit c | none => none) with
    | some (ops, rest) => match begins ops.toList with
      | true => recCall P ih fn args m .nili ops.toList rest
      | false => callBody P ih fn args m (leaveD P fn.results.toList) fn.body
    | none => callBody P ih fn args m (leaveD P fn.results.toList) fn.body
  | none => .no "no function"

/-! ### regions that draw their order -/

/-- Which operations a region's operation waits for, all in all, as bits. -/
noncomputable def bitC (m j : Nat) : Bool := Nat.beq (Nat.land (Nat.shiftRight m j) 1) 1
noncomputable def bindC : Ground → Bool
  | .textOnly _ => false
  | .gcOnly _ => false
  | _ => true
noncomputable def edgeMask (bs : List Nat) : List Edge → Option Nat
  | [] => some 0
  | e :: es => match edgeMask bs es with
    | none => none
    | some r => match bindC e.ground with
      | false => some r
      | true => match nth bs e.on with
        | some b => some (Nat.lor (Nat.lor (Nat.shiftLeft 1 e.on) b) r)
        | none => none
noncomputable def masksC : List Oper → List Nat → Option (List Nat)
  | [], bs => some bs
  | o :: os, bs => match edgeMask bs o.after.toList with
    | some b => masksC os (bs ++ [b])
    | none => none
/-- Destinations, and by which operation they are written. -/
noncomputable def prodC : List Oper → Nat → List (Nat × Nat)
  | [], _ => []
  | o :: os, i => match o.dst with
    | some d => (d, i) :: prodC os (i + 1)
    | none => prodC os (i + 1)
/-- z: the last operation and its mask: it may write what others have read. -/
noncomputable def depC (z : Nat × Nat) (i B : Nat) (pr : List (Nat × Nat)) (u : Nat) : Bool := pr.all fun p => match Nat.beq p.1 u with
  | true => bitC B p.2 || (Nat.beq p.2 z.1 && bitC z.2 i)
  | false => true
noncomputable def useC (z : Nat × Nat) (i B : Nat) (pr : List (Nat × Nat)) : List Operand → Bool
  | [] => true
  | .tmp u :: xs => depC z i B pr u && useC z i B pr xs
  | _ :: xs => useC z i B pr xs
noncomputable def freshC : List (Nat × Nat) → Bool
  | [] => true
  | p :: ps => (ps.all fun q => !Nat.beq q.1 p.1) && freshC ps
noncomputable def guardBit (B : Nat) : Option (Nat × Bool) → Bool
  | none => true
  | some (j, _) => bitC B j
noncomputable def optOp : Option Operand → List Operand
  | none => []
  | some x => [x]
/-- What an operation reads. -/
noncomputable def useOp : Op → List Operand
  | .move x => [x]
  | .assign x => [x]
  | .pick c a b => [c, a, b]
  | .box _ x => [x]
  | .build _ ps => ps.toList.map (·.2)
  | .buildSlice _ _ ps => ps.toList.map (·.2)
  | .load _ a => [a]
  | .store _ a x => [a, x]
  | .nilCheck x => [x]
  | .binOp _ _ x y _ => [x, y]
  | .unOp _ _ x => [x]
  | .convert _ _ x => [x]
  | .makeInterface _ x => [x]
  | .makeFunc _ a b => a.toList ++ b.toList
  | .makeSlice _ l c => [l, c]
  | .slice _ x lo hi mx => x :: (optOp lo ++ optOp hi ++ optOp mx)
  | .fieldAddr _ x _ => [x]
  | .field _ x _ => [x]
  | .indexAddr _ x i => [x, i]
  | .index _ x i => [x, i]
  | .lookup _ x k _ => [x, k]
  | .mapUpdate _ x k v => [x, k, v]
  | .insert _ x k v => [x, k, v]
  | .mapEntry _ x k => [x, k]
  | .entryStore _ x s v => [x, s, v]
  | .typeAssert x _ _ _ => [x]
  | .extract x _ => [x]
  | .panic x => [x]
  | .call c => match c.callee with
    | .value f => f :: c.args.toList
    | _ => c.args.toList
  | .defer c => match c.callee with
    | .value f => f :: c.args.toList
    | _ => c.args.toList
  | _ => []
noncomputable def allUse (z : Nat × Nat) (pr : List (Nat × Nat)) : List (Oper × Nat) → Nat → Bool
  | [], _ => true
  | (o, B) :: r, i => useC z i B pr (useOp o.op) && (guardBit B o.guard && allUse z pr r (i + 1))
noncomputable def lastC : List Nat → Nat → Nat × Nat
  | [], _ => (0, 0)
  | b :: bs, i => match bs with
    | [] => (i, b)
    | _ => lastC bs (i + 1)
noncomputable def planC (ops : List Oper) : Option (List (Oper × Nat)) :=
  match masksC ops [] with
  | none => none
  | some bs => match freshC (prodC ops 0) && allUse (lastC bs 0) (prodC ops 0) (ops.zip bs) 0 with
    | true => some (ops.zip bs)
    | false => none

/-- Operations that do not look at memory. -/
noncomputable def pureOp : Op → Bool
  | .move _ => true
  | .assign _ => true
  | .pick _ _ _ => true
  | .build _ _ => true
  | .nilCheck _ => true
  | .binOp _ _ _ _ _ => true
  | .unOp _ _ _ => true
  | .makeInterface _ _ => true
  | .makeFunc _ _ _ => true
  | .fieldAddr _ _ _ => true
  | .field _ _ _ => true
  | .index _ _ _ => true
  | .typeAssert _ _ _ _ => true
  | .extract _ _ => true
  | _ => false
/-- Operations that lay a new object, whatever memory holds. -/
noncomputable def newOp (P : Program) : Op → Bool
  | .alloc _ => true
  | .box _ _ => true
  | .buildSlice _ _ _ => true
  | .makeSlice _ _ _ => true
  | .makeMap _ _ => true
  | .convert s d _ => match P.underlying s, P.underlying d with
    | some .string, some (.slice _) => true
    | _, _ => false
  | _ => false

/-- New objects that S picks are laid over m. -/
noncomputable def addP (S : Nat → Bool) : List (Nat × Nat × CO) → Mem → Mem
  | [], m => m
  | (j, T, o) :: r, m => match S j with
    | true => (addP S r m).newAt T o
    | false => addP S r m
noncomputable def pickA (B cl j : Nat) : Bool := bitC B j && !bitC cl j

structure DS where
  t : Tmps
  cur : Mem
  cl : Nat
  hist : List (Nat × Nat × Mem)
  as : List (Nat × Nat × CO)
  ns : List (Nat × Oper × Nat × CV)
/-- pan: a call of the region panicked; fin: the last operation, a store, goes beside other writes. -/
inductive DRes where
  | no (why : String)
  | ok (s : DS)
  | pan (v : CV) (m : Mem) (s : DS)
  | fin (t : Nat) (o : CO) (s : DS)

noncomputable def sameOut (v : CV) : COut → Bool
  | .val u => cvEq u v
  | _ => false
noncomputable def sameN (P : Program) (op : Op) (t : Tmps) (v : CV) (m : Mem) : Bool := sameOut v (copT P m.nxt op m t)
noncomputable def histN (P : Program) (op : Op) (B : Nat) (t : Tmps) (v : CV) (as : List (Nat × Nat × CO)) : List (Nat × Nat × Mem) → Bool
  | [] => true
  | (w, cl, m) :: r => match bitC B w with
    | true => true
    | false => match sameN P op t v (addP (pickA B cl) as m) with
      | true => histN P op B t v as r
      | false => false
noncomputable def againN (P : Program) (t : Tmps) (B cl : Nat) (m : Mem) (as : List (Nat × Nat × CO)) : List (Nat × Oper × Nat × CV) → Bool
  | [] => true
  | (i, o, B', v) :: r => match bitC B i with
    | true => againN P t B cl m as r
    | false => match sameN P o.op t v (addP (pickA B' cl) as m) with
      | true => againN P t B cl m as r
      | false => false
noncomputable def retV : Res → Option (CV × Mem)
  | .ret v m => some (v, m)
  | _ => none
noncomputable def outV (ih : Task → Res) (m : Mem) : COut → Option (CV × Mem)
  | .mem v m' => some (v, m')
  | .call f args => retV (ih (.call f args m))
  | .yield l args => retV (yieldC ih l args m)
  | _ => none

/-- A value in its temporary. -/
noncomputable def drawSet (d : Option Tmp) (v : CV) (t : Tmps) (k : Tmps → DRes) : DRes :=
  match d with
  | none => k t
  | some d => match Nat.ble (Nat.succ d) t.sz with
    | true => k (t.set d v)
    | false => .no "temporary"
noncomputable def newObjC (T : Nat) (m : Mem) : Option CO := match m.get T with
  | some (.cells ty cs) => some (.cells ty cs)
  | some (.opn ty sz cs) => some (.opn ty sz cs)
  | some (.map es c) => some (.map es c)
  | _ => none
noncomputable def drawNew (i T : Nat) (d : Option Tmp) (s : DS) (k : DS → DRes) : COut → DRes
  | .mem v m' => match newObjC T m' with
    | some ob => drawSet d v s.t fun t => k ⟨t, s.cur, s.cl, s.hist, (i, T, ob) :: s.as, s.ns⟩
    | none => .no "new object"
  | .no w => .no w
  | _ => .no "new object"
noncomputable def chainC (B : Nat) : List (Nat × Nat × Mem) → Bool
  | [] => true
  | (w, _, _) :: _ => bitC B w
noncomputable def drawW (P : Program) (i B : Nat) (d : Option Tmp) (s : DS) (k : DS → DRes) : Option (CV × Mem) → DRes
  | some (v, m') => match chainC B s.hist with
    | true => match againN P s.t B B m' s.as s.ns with
      | true => drawSet d v s.t fun t => k ⟨t, m', B, (i, s.cl, s.cur) :: s.hist, s.as, s.ns⟩
      | false => .no "draw: read and write"
    | false => .no "draw: two writes"
  | none => .no "draw: call"
noncomputable def drawVal (P : Program) (o : Oper) (i B : Nat) (s : DS) (k : DS → DRes) (v : CV) : DRes :=
  match pureOp o.op with
  | true => drawSet o.dst v s.t fun t => k ⟨t, s.cur, s.cl, s.hist, s.as, s.ns⟩
  | false => match histN P o.op B s.t v s.as s.hist with
    | true => drawSet o.dst v s.t fun t => k ⟨t, s.cur, s.cl, s.hist, s.as, (i, o, B, v) :: s.ns⟩
    | false => .no "draw: write and read"
noncomputable def drawPan (B : Nat) (s : DS) (kp : CV → Mem → DS → DRes) (v : CV) (m : Mem) : DRes :=
  match chainC B s.hist with
  | true => kp v m s
  | false => .no "draw: panic"
noncomputable def drawCall (P : Program) (i B : Nat) (d : Option Tmp) (s : DS) (k : DS → DRes) (kp : CV → Mem → DS → DRes) : Res → DRes
  | .pan v m => drawPan B s kp v m
  | r => drawW P i B d s k (retV r)
noncomputable def drawOut (P : Program) (ih : Task → Res) (o : Oper) (i B : Nat) (s : DS) (k : DS → DRes) (kp : CV → Mem → DS → DRes) (m : Mem) : COut → DRes
  | .val v => drawVal P o i B s k v
  | .no w => .no w
  | .call f args => drawCall P i B o.dst s k kp (ih (.call f args m))
  | out => drawW P i B o.dst s k (outV ih m out)
noncomputable def drawAt (P : Program) (ih : Task → Res) (o : Oper) (i B : Nat) (s : DS) (k : DS → DRes) (kp : CV → Mem → DS → DRes) (m : Mem) : DRes := drawOut P ih o i B s k kp m (copT P m.nxt o.op m s.t)
noncomputable def drawOne (P : Program) (ih : Task → Res) (ops : List Oper) (T0 : Nat) (o : Oper) (i B : Nat) (k : DS → DRes) (kp : CV → Mem → DS → DRes) (s : DS) : DRes :=
  match guardC ops s.t o.guard with
  | some false => drawSet o.dst undefC s.t fun t => k ⟨t, s.cur, s.cl, s.hist, s.as, s.ns⟩
  | some true => match newOp P o.op with
    | true => drawNew i (Nat.add T0 i) o.dst s k (copT P (Nat.add T0 i) o.op ⟨0, .nil⟩ s.t)
    | false => drawAt P ih o i B s k kp (addP (pickA B s.cl) s.as s.cur)
  | none => .no "guard"

/-- Beside a call that panics: operations that leave memory alone. -/
noncomputable def drawBeside (P : Program) (o : Oper) (i B : Nat) (s : DS) (k : DS → DRes) : COut → DRes
  | .val v => drawVal P o i B s k v
  | .no w => .no w
  | _ => .no "draw: beside a panic"
noncomputable def drawBes (P : Program) (o : Oper) (i B : Nat) (s : DS) (k : DS → DRes) (m : Mem) : DRes := drawBeside P o i B s k (copT P m.nxt o.op m s.t)
noncomputable def drawQ (P : Program) (ops : List Oper) (T0 : Nat) (o : Oper) (i B : Nat) (k : DS → DRes) (s : DS) : DRes :=
  match guardC ops s.t o.guard with
  | some false => drawSet o.dst undefC s.t fun t => k ⟨t, s.cur, s.cl, s.hist, s.as, s.ns⟩
  | some true => match newOp P o.op with
    | true => drawNew i (Nat.add T0 i) o.dst s k (copT P (Nat.add T0 i) o.op ⟨0, .nil⟩ s.t)
    | false => drawBes P o i B s k (addP (pickA B s.cl) s.as s.cur)
  | none => .no "guard"
/-- What is left of a region behind a call (the operation z) that panicked. -/
noncomputable def drawRest (P : Program) (ops : List Oper) (T0 z : Nat) (v : CV) (mp : Mem) : List (Oper × Nat) → Nat → DS → DRes
  | [], _ => fun s => .pan v mp s
  | (o, B) :: r, i => match bitC B z with
    | true => drawRest P ops T0 z v mp r (i + 1)
    | false => drawQ P ops T0 o i B (drawRest P ops T0 z v mp r (i + 1))

/-! a last store beside other writes -/
noncomputable def offTag (tF : Nat) : CV → Bool
  | .slc t _ _ _ => !Nat.beq t tF
  | .opn t _ _ => !Nat.beq t tF
  | .ptr t _ => !Nat.beq t tF
  | _ => false
noncomputable def offOp (t : Tmps) (tF : Nat) : Op → Bool
  | .indexAddr _ x _ => match evO t x with
    | some v => offTag tF v
    | none => false
  | _ => false
noncomputable def againF (t : Tmps) (B tF : Nat) : List (Nat × Oper × Nat × CV) → Bool
  | [] => true
  | (i, o, _, _) :: r => (bitC B i || offOp t tF o.op) && againF t B tF r
noncomputable def offStore (t : Tmps) (tF : Nat) : Option Oper → Bool
  | some o => match o.op with
    | .store _ a _ => match evO t a with
      | some (.ptr t' _) => !Nat.beq t' tF
      | _ => false
    | _ => false
  | none => false
noncomputable def histF (ops : List Oper) (t : Tmps) (B tF : Nat) : List (Nat × Nat × Mem) → Bool
  | [] => true
  | (w, _, _) :: r => match bitC B w with
    | true => true
    | false => offStore t tF (nth ops w) && histF ops t B tF r
noncomputable def isStore : Op → Bool
  | .store _ _ _ => true
  | _ => false
noncomputable def noneG : Option (Nat × Bool) → Bool
  | none => true
  | some _ => false
noncomputable def noneD : Option Tmp → Bool
  | none => true
  | some _ => false
noncomputable def finObj (tF : Nat) (s : DS) : COut → DRes
  | .mem _ m' => match m'.get tF with
    | some oF => .fin tF oF s
    | none => .no "draw: last"
  | _ => .no "draw: last"
noncomputable def drawFin (P : Program) (ops : List Oper) (T0 : Nat) (o : Oper) (B : Nat) (s : DS) : DRes :=
  match o.op with
  | .store _ a _ => match evO s.t a with
    | some (.ptr tF _) => match Nat.blt tF T0 && (againF s.t B tF s.ns && histF ops s.t B tF s.hist) with
      | true => finObj tF s (copT P s.cur.nxt o.op s.cur s.t)
      | false => .no "draw: two writes"
    | _ => .no "draw: last"
  | _ => .no "draw: last"
noncomputable def lastF (r : List (Oper × Nat)) (o : Oper) (B : Nat) (s : DS) : Bool :=
  match r with
  | [] => (isStore o.op && (noneG o.guard && noneD o.dst)) && !chainC B s.hist
  | _ :: _ => false
noncomputable def drawStep (P : Program) (ih : Task → Res) (ops : List Oper) (T0 : Nat) (r : List (Oper × Nat)) (o : Oper) (i B : Nat) (k : DS → DRes) (kp : CV → Mem → DS → DRes) (s : DS) : DRes :=
  match lastF r o B s with
  | true => drawFin P ops T0 o B s
  | false => drawOne P ih ops T0 o i B k kp s
noncomputable def drawAll (P : Program) (ih : Task → Res) (ops : List Oper) (T0 : Nat) : List (Oper × Nat) → Nat → DS → DRes
  | [], _ => fun s => .ok s
  | (o, B) :: r, i => drawStep P ih ops T0 r o i B (drawAll P ih ops T0 r (i + 1)) fun v m => drawRest P ops T0 i v m r (i + 1)
noncomputable def freeM (m : Mem) (cl : Nat) : List (Nat × Nat × CO) → Bool
  | [] => true
  | (j, T, _) :: r => (bitC cl j || (match m.get T with | none => true | some _ => false)) && freeM m cl r
noncomputable def freeAll (N : Nat) (as : List (Nat × Nat × CO)) : List (Nat × Nat × Mem) → Bool
  | [] => true
  | (_, cl, m) :: r => Nat.ble N m.nxt && (freeM m cl as && freeAll N as r)
noncomputable def unsetL : List (Nat × Nat) → Tmps → Tmps
  | [], t => t
  | (d, _) :: r, t => unsetL r (t.unset d)
noncomputable def freeD (N : Nat) (s : DS) (r : Res) : Res :=
  match freeAll N s.as ((0, s.cl, s.cur) :: s.hist) with
  | true => r
  | false => .no "draw: tags"
noncomputable def drawEnd (ops : List Oper) (N : Nat) (ds : List CDef) : DRes → Res
  | .ok s => freeD N s (.ex .normal s.t ds (addP (fun j => !bitC s.cl j) s.as s.cur))
  | .pan v m s => freeD N s (.ex (.panic v) (unsetL (prodC ops 0) s.t) ds m)
  | .fin tF oF s => freeD N s (.ex .normal s.t ds ((addP (fun j => !bitC s.cl j) s.as s.cur).put tF oF))
  | .no w => .no w
noncomputable def drawC (P : Program) (ih : Task → Res) (ops : List Oper) (t : Tmps) (ds : List CDef) (m : Mem) : Res :=
  match planC ops with
  | some l => drawEnd ops (Nat.add m.nxt ops.length) ds (drawAll P ih ops m.nxt l 0 ⟨t, ⟨Nat.add m.nxt ops.length, m.tr⟩, 0, [], [], []⟩)
  | none => .no "draw: plan"

noncomputable def thenC (ih : Task → Res) (b : Code) (r : Option Nat) : Res → Res
  | .ex .normal t ds m => ih (.code b t ds r m)
  | x => x
noncomputable def condC (ih : Task → Res) (a b : Code) (t : Tmps) (ds : List CDef) (r : Option Nat) (m : Mem) : Option CV → Res
  | some (.bool true) => ih (.code a t ds r m)
  | some (.bool false) => ih (.code b t ds r m)
  | _ => .no "cond"
noncomputable def blockC (id : Nat) : Res → Res
  | .ex (.exit i) t ds m => match Nat.beq i id with
    | true => .ex .normal t ds m
    | false => .ex (.exit i) t ds m
  | x => x

noncomputable def scopeC : Res → Res
  | .ex (.goto _) _ _ _ => .no "goto"
  | x => x

noncomputable def endLoopC (ih : Task → Res) (l : Nat) (t : Tmps) (ds : List CDef) (r : Option Nat) (m : Mem) : Option CO → Res
  | some (.loop st pe t0 ps asg body d) => match st with
    | .busy => .no "busy"
    | _ => match pe with
      | none => .ex .normal t ds (m.put l (.loop .exhausted pe t0 ps asg body d))
      | some c => ih (.code c t ds r (m.put l (.loop .exhausted pe t0 ps asg body d)))
  | _ => .no "loop"
noncomputable def rangeEnd (ih : Task → Res) (l : Nat) (t : Tmps) (ds : List CDef) (r : Option Nat) : Res → Res
  | .ret _ m => endLoopC ih l t ds r m (m.get l)
  | .no w => .no w
  | _ => .no "range"
noncomputable def rangeGo (ih : Task → Res) (l : Nat) (t : Tmps) (ds : List CDef) (r : Option Nat) (m : Mem) : Option CV → Res
  | some (.fn f first cap) => rangeEnd ih l t ds r (ih (.call f (first ++ [.yld l] ++ cap) m))
  | _ => .no "rangeFunc"
noncomputable def rangeC (ih : Task → Res) (g : Operand) (ps : List Tmp) (asg body : Code) (t : Tmps) (ds : List CDef) (m : Mem) : Option Nat → Res
  | some l0 => match m.get l0 with
    | some (.loop _ _ _ _ _ _ d) => rangeGo ih m.nxt t ds (some l0) (m.new (.loop .ready none t ps asg body d)) (evO t g)
    | _ => .no "rangeFunc: no loop around"
  | none => rangeGo ih (m.nxt + 1) t (.mark m.nxt :: ds) none ((m.new (.dfr true)).new (.loop .ready none t ps asg body m.nxt)) (evO t g)

noncomputable def codeC (P : Program) (ih : Task → Res) (t : Tmps) (ds : List CDef) (r : Option Nat) (m : Mem) : Code → Res
  | .skip => .ex .normal t ds m
  | .label _ => .ex .normal t ds m
  | .ret => .ex .ret t ds m
  | .exit id => .ex (.exit id) t ds m
  | .goto l => .ex (.goto l) t ds m
  | .refuse w => .no w
  | .region id ops draw => match draw with
    | false => runOps P ih ops.toList r ops.toList t ds m
    | true => drawC P ih ops.toList t ds m
  | .seq a b => thenC ih b r (ih (.code a t ds r m))
  | .cond x a b => condC ih a b t ds r m (evO t x)
  | .block id b => blockC id (ih (.code b t ds r m))
  | .scope b => scopeC (ih (.code b t ds r m))
  | .loop b => thenC ih (.loop b) r (ih (.code b t ds r m))
  | .rangeFunc g ps asg body => rangeC ih g ps.toList asg body t ds m r

/-- Functions whose results are known by a contract. -/
abbrev Ext := FuncId → Option (Mem → List CV → Option CV)
noncomputable def extC (m : Mem) : Option CV → Res
  | some v => .ret v m.up
  | none => .no "contract"
noncomputable def callX (P : Program) (ih : Task → Res) (f : FuncId) (args : List CV) (m : Mem) : Option (Mem → List CV → Option CV) → Res
  | some g => extC m (g m args)
  | none => callC P ih args m P.funcs[f]?

noncomputable def stepC (P : Program) (X : Ext) (ih : Task → Res) : Task → Res
  | .call f args m => callX P ih f args m (X f)
  | .dcall f args m => dcallC P ih args m P.funcs[f]?
  | .rcall f args v m => rcallC P ih args m v P.funcs[f]?
  | .code c t ds r m => codeC P ih t ds r m c

noncomputable def runC (P : Program) (X : Ext) (n : Nat) : Task → Res :=
  Nat.rec (motive := fun _ => Task → Res) (fun _ => .no "fuel") (fun _ ih => stepC P X ih) n
end Go.Cx
