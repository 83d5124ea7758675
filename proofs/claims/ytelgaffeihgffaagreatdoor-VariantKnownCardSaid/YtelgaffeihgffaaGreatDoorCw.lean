/-
  A concrete evaluator for Go's IR. The same run, told so that the kernel copies less.
-/
import Derived.Test.YtelgaffeihgffaaGreatDoorCb
set_option linter.unusedSimpArgs false
set_option linter.unusedVariables false
namespace Go.Cx
open Go

noncomputable def intF : BinOp → IntKind → IntKind → Int → Int → COut :=
  @BinOp.rec (fun _ => IntKind → IntKind → Int → Int → COut)
    (same binAdd) (same binSub) (same binMul) (same binQuo) (same binRem) (same binAnd) (same binOr) (same binXor) (anyK binShl) (anyK binShr) (same binAndNot) (same binEql) (same binNeq) (same binLss) (same binLeq) (same binGtr) (same binGeq)
noncomputable def strF : BinOp → List Nat → List Nat → COut :=
  @BinOp.rec (fun _ => List Nat → List Nat → COut)
    strAdd (fun _ _ => .no "binop") (fun _ _ => .no "binop") (fun _ _ => .no "binop") (fun _ _ => .no "binop") (fun _ _ => .no "binop") (fun _ _ => .no "binop") (fun _ _ => .no "binop") (fun _ _ => .no "binop") (fun _ _ => .no "binop") (fun _ _ => .no "binop") strEql strNeq strLss strLeq strGtr strGeq
noncomputable def othF : BinOp → Program → Bool → TypeId → CV → CV → COut :=
  @BinOp.rec (fun _ => Program → Bool → TypeId → CV → CV → COut)
    (fun _ _ _ _ _ => .no "binop") (fun _ _ _ _ _ => .no "binop") (fun _ _ _ _ _ => .no "binop") (fun _ _ _ _ _ => .no "binop") (fun _ _ _ _ _ => .no "binop") (fun _ _ _ _ _ => .no "binop") (fun _ _ _ _ _ => .no "binop") (fun _ _ _ _ _ => .no "binop") (fun _ _ _ _ _ => .no "binop") (fun _ _ _ _ _ => .no "binop") (fun _ _ _ _ _ => .no "binop") (fun P c => cEq P c false) (fun P c => cEq P c true) (fun _ _ _ _ _ => .no "binop") (fun _ _ _ _ _ => .no "binop") (fun _ _ _ _ _ => .no "binop") (fun _ _ _ _ _ => .no "binop")
theorem intF_eq (op : BinOp) : intF op = intOp op := by cases op <;> rfl
theorem strF_eq (op : BinOp) : strF op = strOp op := by cases op <;> rfl
theorem othF_eq (op : BinOp) (P : Program) (c : Bool) : othF op P c = otherOp P c op := by cases op <;> rfl
noncomputable def binI : CV → BinOp → IntKind → Int → COut :=
  @CV.rec (fun _ => BinOp → IntKind → Int → COut) (fun _ => PUnit)
    (fun _ => fun _ _ _ => .no "binop")
    (fun k' b => fun op k a => intF op k k' a b)
    (fun _ => fun _ _ _ => .no "binop")
    (fun _ _ => fun _ _ _ => .no "binop")
    (fun _ _ => fun _ _ _ => .no "binop")
    (fun _ _ => fun _ _ _ => .no "binop")
    (fun _ _ _ _ => fun _ _ _ => .no "binop")
    (fun _ _ _ => fun _ _ _ => .no "binop")
    (fun _ _ _ => fun _ _ _ => .no "binop")
    (fun _ _ _ _ _ => fun _ _ _ => .no "binop")
    (fun _ => fun _ _ _ => .no "binop")
    (fun _ => fun _ _ _ => .no "binop")
    (fun _ _ _ => fun _ _ _ => .no "binop")
    (fun _ _ _ => .no "binop")
    (fun _ _ _ => .no "binop")
    (fun _ _ _ => .no "binop")
    (fun _ _ _ => .no "binop")
    (fun _ _ _ => .no "binop")
    (fun _ _ _ _ => fun _ _ _ => .no "binop")
    (fun _ => fun _ _ _ => .no "binop")
    ⟨⟩ (fun _ _ _ _ => ⟨⟩)
noncomputable def binS : CV → BinOp → List Nat → COut :=
  @CV.rec (fun _ => BinOp → List Nat → COut) (fun _ => PUnit)
    (fun _ => fun _ _ => .no "binop")
    (fun _ _ => fun _ _ => .no "binop")
    (fun b => fun op a => strF op a b)
    (fun _ _ => fun _ _ => .no "binop")
    (fun _ _ => fun _ _ => .no "binop")
    (fun _ _ => fun _ _ => .no "binop")
    (fun _ _ _ _ => fun _ _ => .no "binop")
    (fun _ _ _ => fun _ _ => .no "binop")
    (fun _ _ _ => fun _ _ => .no "binop")
    (fun _ _ _ _ _ => fun _ _ => .no "binop")
    (fun _ => fun _ _ => .no "binop")
    (fun _ => fun _ _ => .no "binop")
    (fun _ _ _ => fun _ _ => .no "binop")
    (fun _ _ => .no "binop")
    (fun _ _ => .no "binop")
    (fun _ _ => .no "binop")
    (fun _ _ => .no "binop")
    (fun _ _ => .no "binop")
    (fun _ _ _ _ => fun _ _ => .no "binop")
    (fun _ => fun _ _ => .no "binop")
    ⟨⟩ (fun _ _ _ _ => ⟨⟩)
noncomputable def binX : CV → BinOp → Program → Bool → TypeId → CV → COut :=
  @CV.rec (fun _ => BinOp → Program → Bool → TypeId → CV → COut) (fun _ => PUnit)
    (fun u0 => fun op P c t y => othF op P c t (.bool u0) y)
    (fun k a => fun op _ _ _ y => binI y op k a)
    (fun a => fun op _ _ _ y => binS y op a)
    (fun u0 _ => fun op P c t y => othF op P c t (.agg u0) y)
    (fun u0 _ => fun op P c t y => othF op P c t (.tup u0) y)
    (fun u0 u1 => fun op P c t y => othF op P c t (.ptr u0 u1) y)
    (fun u0 u1 u2 u3 => fun op P c t y => othF op P c t (.slc u0 u1 u2 u3) y)
    (fun u0 u1 u2 => fun op P c t y => othF op P c t (.opn u0 u1 u2) y)
    (fun u0 u1 u2 => fun op P c t y => othF op P c t (.emp u0 u1 u2) y)
    (fun u0 u1 u2 _ _ => fun op P c t y => othF op P c t (.fn u0 u1 u2) y)
    (fun u0 => fun op P c t y => othF op P c t (.yld u0) y)
    (fun u0 => fun op P c t y => othF op P c t (.map u0) y)
    (fun u0 u1 _ => fun op P c t y => othF op P c t (.ifc u0 u1) y)
    (fun op P c t y => othF op P c t (.nilp) y)
    (fun op P c t y => othF op P c t (.nils) y)
    (fun op P c t y => othF op P c t (.nilf) y)
    (fun op P c t y => othF op P c t (.nilm) y)
    (fun op P c t y => othF op P c t (.nili) y)
    (fun _ _ _ _ => fun _ _ _ _ _ => .no "binop")
    (fun u0 => fun op P c t y => othF op P c t (.void u0) y)
    ⟨⟩ (fun _ _ _ _ => ⟨⟩)
noncomputable def binF (op : BinOp) (P : Program) (c : Bool) (t : TypeId) (x y : CV) : COut := binX x op P c t y
theorem binF_eq (op : BinOp) (P : Program) (c : Bool) (t : TypeId) (x y : CV) : binF op P c t x y = cBin P c op t x y := by
  unfold binF
  cases x
  case int k a => cases y <;> first | rfl | exact congrFun (congrFun (congrFun (congrFun (intF_eq op) _) _) _) _
  case str a => cases y <;> first | rfl | exact congrFun (congrFun (strF_eq op) _) _
  case res => rfl
  all_goals exact congrFun (congrFun (congrFun (othF_eq op P c) _) _) _
noncomputable def copF : Op → Program → Nat → Mem → Tmps → COut :=
  @Op.rec (fun _ => Program → Nat → Mem → Tmps → COut)
    (fun x => fun P T m t => un1 fMove x m t)
    (fun x => fun P T m t => un1 fMove x m t)
    (fun c a b => fun P T m t => opPick c a b m t)
    (fun e => fun P T m t => opAlloc P T e m t)
    (fun e x => fun P T m t => un1 (fun m v => cBox T m e v) x m t)
    (fun ty ps => fun P T m t => opBuild P ty ps m t)
    (fun ty n ps => fun P T m t => opBuildSlice P T ty n ps m t)
    (fun ty x k v => fun P T m t => tri3 (fun m x k v => cMapUpdate P m ty x k v) x k v m t)
    (fun ty a => fun P T m t => un1 (fun m v => cLoad P m ty v) a m t)
    (fun ty a x => fun P T m t => bin2 (fun m a x => cStore P m ty a x) a x m t)
    (fun _ => fun _ _ _ _ => .no "operation")
    (fun _ => fun _ _ _ _ => .no "operation")
    (fun x => fun P T m t => un1 fNil x m t)
    (fun op ty x y yt => fun P T m t => bin2 (fun _ => binF op P (litO x || litO y) ty) x y m t)
    (fun op ty x => fun P T m t => un1 (fun _ => cUn op) x m t)
    (fun s d x => fun P T m t => un1 (fun m v => cConv P T m s d v) x m t)
    (fun _ _ => fun _ _ _ _ => .no "operation")
    (fun ty x => fun P T m t => un1 (fIface P ty) x m t)
    (fun fn a b => fun P T m t => opFunc fn a b m t)
    (fun ty r => fun P T m t => opMap T r m t)
    (fun _ _ => fun _ _ _ _ => .no "operation")
    (fun ty l c => fun P T m t => bin2 (fun m l c => cMakeSlice P T m ty l c) l c m t)
    (fun ty x lo hi mx => fun P T m t => opSlice P ty x lo hi mx m t)
    (fun ty x f => fun P T m t => un1 (fun _ v => cFieldAddr P ty v f) x m t)
    (fun ty x f => fun P T m t => un1 (fun _ v => cField P ty v f) x m t)
    (fun ty x i => fun P T m t => bin2 (fun m x i => cIndexAddr P m ty x i) x i m t)
    (fun ty x i => fun P T m t => bin2 (fun _ x i => cIndex P ty x i) x i m t)
    (fun ty x k ok => fun P T m t => bin2 (fun m x k => cLookup P m ty x k ok) x k m t)
    (fun ty x k v => fun P T m t => tri3 (fun m x k v => cMapUpdate P m ty x k v) x k v m t)
    (fun ty x k => fun P T m t => bin2 (fun m x k => cMapEntry P m ty x k) x k m t)
    (fun ty x s v => fun P T m t => tri3 (fun m x s v => cEntryStore m x s v) x s v m t)
    (fun _ _ => fun _ _ _ _ => .no "operation")
    (fun _ _ => fun _ _ _ _ => .no "operation")
    (fun _ => fun _ _ _ _ => .no "operation")
    (fun x xt a ok => fun P T m t => un1 (fun _ v => cTypeAssert P v a ok) x m t)
    (fun x i => fun P T m t => un1 (fExtract i) x m t)
    (fun c => fun P T m t => opCall P T c m t)
    (fun _ => fun _ _ _ _ => .no "operation")
    (fun c => fun P T m t => opDefer c m t)
    (fun x => fun P T m t => un1 fPanic x m t)
    (fun _ _ => fun _ _ _ _ => .no "operation")
    (fun _ _ _ => fun _ _ _ _ => .no "operation")
    (fun _ _ => fun _ _ _ _ => .no "operation")
theorem copF_eq (op : Op) (P : Program) (T : Nat) (m : Mem) (t : Tmps) : copF op P T m t = copT P T op m t := by
  cases op <;> first
    | rfl
    | (show bin2 (fun _ => binF _ P _ _) _ _ m t = bin2 (fun _ => cBin P _ _ _) _ _ m t; congr 1; funext _ x y; exact binF_eq _ _ _ _ _ _)

noncomputable def aftF : COut → (Task → Res) → Option Nat → KK → Option Tmp → Tmps → List CDef → Mem → Res :=
  @COut.rec (fun _ => (Task → Res) → Option Nat → KK → Option Tmp → Tmps → List CDef → Mem → Res)
    (fun w => fun _ _ _ _ _ _ _ => .no w)
    (fun v => fun _ _ k dst t ds m => goOn k dst v t ds m)
    (fun v m => fun _ _ k dst t ds _ => goOn k dst v t ds m)
    (fun f args => fun ih _ k dst t ds m => backC k dst t ds (ih (.call f args m)))
    (fun l args => fun ih _ k dst t ds m => backY k dst t ds (yieldC ih l args m))
    (fun f args => fun ih r k dst t ds m => after ih r k dst t ds m (.defer f args))
    (fun _ _ _ _ _ _ _ => .no "recover")
    (fun v => fun _ _ _ _ t ds m => .ex (.panic v) t ds m)
theorem aftF_eq (out : COut) (ih : Task → Res) (r : Option Nat) (k : KK) (dst : Option Tmp) (t : Tmps) (ds : List CDef) (m : Mem) : aftF out ih r k dst t ds m = after ih r k dst t ds m out := by
  cases out <;> rfl

noncomputable def oneG (P : Program) (ih : Task → Res) (ops : List Oper) (r : Option Nat) (o : Oper) (k : KK) (t : Tmps) (ds : List CDef) (m : Mem) (g : Option (Nat × Bool)) : Res :=
  match guardC ops t g with
  | some true => aftF (copF o.op P m.nxt m t) ih r k o.dst t ds m
  | some false => goOn k o.dst undefC t ds m
  | none => .no "guard"
noncomputable def oneF (P : Program) (ih : Task → Res) (ops : List Oper) (r : Option Nat) : Oper → KK → KK :=
  @Oper.rec (fun _ => KK → KK) (fun dst op ty pos aft g => fun k t ds m =>
    @Option.rec (Nat × Bool) (fun _ => Res) (aftF (copF op P m.nxt m t) ih r k dst t ds m) (fun g' => oneG P ih ops r ⟨dst, op, ty, pos, aft, some g'⟩ k t ds m (some g')) g)
theorem oneF_eq (P : Program) (ih : Task → Res) (ops : List Oper) (r : Option Nat) (o : Oper) (k : KK) : oneF P ih ops r o k = runOne P ih ops r o k := by
  obtain ⟨dst, op, ty, pos, aft, g⟩ := o
  funext t ds m
  cases g with
  | none =>
    show aftF (copF op P m.nxt m t) ih r k dst t ds m = after ih r k dst t ds m (cop P op m t)
    rw [aftF_eq, copF_eq]; rfl
  | some g =>
    show oneG P ih ops r _ k t ds m (some g) = _
    unfold oneG runOne
    simp only
    split
    · rename_i h; simp only [h, aftF_eq, copF_eq]; rfl
    · rename_i h; simp only [h]
    · rename_i h; simp only [h]
noncomputable def opsF (P : Program) (ih : Task → Res) (ops : List Oper) (r : Option Nat) (l : List Oper) : KK :=
  List.rec (motive := fun _ => KK) (fun t ds m => .ex .normal t ds m) (fun o _ k => oneF P ih ops r o k) l
theorem opsF_eq (P : Program) (ih : Task → Res) (ops : List Oper) (r : Option Nat) : ∀ l, opsF P ih ops r l = runOps P ih ops r l
  | [] => rfl
  | o :: l => by
    show oneF P ih ops r o (opsF P ih ops r l) = runOne P ih ops r o (runOps P ih ops r l)
    rw [opsF_eq P ih ops r l, oneF_eq]

noncomputable def codeF : Code → Program → (Task → Res) → Tmps → List CDef → Option Nat → Mem → Res :=
  @Code.rec (fun _ => Program → (Task → Res) → Tmps → List CDef → Option Nat → Mem → Res)
    (fun _ _ t ds _ m => .ex .normal t ds m)
    (fun _ ops draw => fun P ih t ds r m => @Bool.rec (fun _ => Res) (opsF P ih ops.toList r ops.toList t ds m) (drawC P ih ops.toList t ds m) draw)
    (fun a b _ _ => fun _ ih t ds r m => thenC ih b r (ih (.code a t ds r m)))
    (fun x a b _ _ => fun _ ih t ds r m => condC ih a b t ds r m (evO t x))
    (fun id b _ => fun _ ih t ds r m => blockC id (ih (.code b t ds r m)))
    (fun b _ => fun _ ih t ds r m => thenC ih (.loop b) r (ih (.code b t ds r m)))
    (fun g ps asg body _ _ => fun _ ih t ds r m => rangeC ih g ps.toList asg body t ds m r)
    (fun id => fun _ _ t ds _ m => .ex (.exit id) t ds m)
    (fun b _ => fun _ ih t ds r m => scopeC (ih (.code b t ds r m)))
    (fun _ => fun _ _ t ds _ m => .ex .normal t ds m)
    (fun l => fun _ _ t ds _ m => .ex (.goto l) t ds m)
    (fun _ _ t ds _ m => .ex .ret t ds m)
    (fun w => fun _ _ _ _ _ _ => .no w)
theorem codeF_eq (c : Code) (P : Program) (ih : Task → Res) (t : Tmps) (ds : List CDef) (r : Option Nat) (m : Mem) : codeF c P ih t ds r m = codeC P ih t ds r m c := by
  cases c <;> first
    | rfl
    | (rename_i id ops draw; cases draw <;> first | rfl | (show opsF P ih ops.toList r ops.toList t ds m = _; rw [opsF_eq]; rfl))

noncomputable def stepF (P : Program) (X : Ext) (ih : Task → Res) : Task → Res :=
  @Task.rec (fun _ => Res) (fun f args m => callX P ih f args m (X f)) (fun f args m => dcallC P ih args m P.funcs[f]?) (fun f args v m => rcallC P ih args m v P.funcs[f]?) (fun c t ds r m => codeF c P ih t ds r m)
noncomputable def runF (P : Program) (X : Ext) (n : Nat) : Task → Res :=
  Nat.rec (motive := fun _ => Task → Res) (fun _ => .no "fuel") (fun _ ih => stepF P X ih) n
theorem runF_eq (P : Program) (X : Ext) : ∀ n, runF P X n = runC P X n
  | 0 => rfl
  | n + 1 => by
    show stepF P X (runF P X n) = stepC P X (runC P X n)
    rw [runF_eq P X n]
    funext k
    cases k with
    | call f args m => rfl
    | dcall f args m => rfl
    | rcall f args v m => rfl
    | code c t ds r m => exact codeF_eq c P _ t ds r m
end Go.Cx
