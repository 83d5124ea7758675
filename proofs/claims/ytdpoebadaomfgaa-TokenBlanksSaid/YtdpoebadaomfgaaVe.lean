/-
  A verification-condition generator for Go's IR. Part e: contracts, and the generator itself.
-/
import Derived.StillTail
import Derived.RangeFuncNested
import Derived.Test.YtdpoebadaomfgaaVd
set_option linter.unusedSimpArgs false
set_option linter.unusedVariables false
namespace Go.Pw
open Go Go.RowKit

/-- What a call of a function begins with: the objects that it is handed. -/
def Base.entry (e : Env) (w : World) (objs : List SObj) (h : Hp) : Base :=
  { w := w, M := fun k => ∃ (i : Nat) (x : SObj), objs[i]? = some x ∧ live e i x ∧ e.blk i = k, h := h, e := e,
    nk := objs.length }

/-- The fence that lets everything by, in a round or not. -/
def FW (r : Option Nat) : Fence := { Fence.wide with round := r }

/-- A CONTRACT: called with these arguments and objects, over these immutable objects, the function returns; what it returns, what has become of the objects (new ones behind them) and of the immutable ones, is as 'post' says. -/
structure CSpec (P : Program) (f : FuncId) (args : List SV) (objs : List SObj) (h : Hp) (post : SV → List (Option SObj) → Hp → Prop) : Prop where
  enter : ∀ as w, (callFunc f as).run P w = .ok (.enter f as) w
  run : ∀ (e : Env) (w : World), WOk (Base.entry e w objs h) [] e (objs.map some) h w →
    Calls P f (denL e args).toArray w (fun en w' => ∃ e' sv o' h', en = .returned (den e' sv) ∧ bel o'.length sv = true ∧ objs.length ≤ o'.length ∧ post sv o' h' ∧ WOk (Base.entry e w objs h) [] e' o' h' w')

theorem CSpec.mono {P : Program} {f : FuncId} {args : List SV} {objs : List SObj} {h : Hp} {p q : SV → List (Option SObj) → Hp → Prop} (c : CSpec P f args objs h p) (hpq : ∀ sv o h, p sv o h → q sv o h) : CSpec P f args objs h q :=
  ⟨c.1, fun e w hw => (c.2 e w hw).mono fun _ _ ⟨e', sv, o', h', h1, h2, h3, h4, h5⟩ => ⟨e', sv, o', h', h1, h2, h3, hpq _ _ _ h4, h5⟩⟩

def e0 : Env := ⟨fun _ => 0, fun _ => (none, 0, 0)⟩

/-- What an iterator is promised of its yield. -/
def YOk (P : Program) (G : Base) : Prop := ∀ (n : Nat) (xs : List (List SV)) (args : List SV) (B : Nat → Prop) (w : World), (∀ w', SameB B w w' → G.inv false xs B w') → G.yok xs args → xs.length < G.yN → (∀ k, B k → k < w.heap.size) →
  (∀ b x, G.h b = some x → w.heap[b]? = some x) →
  YieldAt (FW none) n P G.yl (denL e0 args).toArray w fun en w' => ∃ (b : Bool) (B' : Nat → Prop), en = .returned (.bool b) ∧ (∀ w'', SameB B' w' w'' → G.inv (!b) (xs ++ [args]) B' w'') ∧ (∀ k, B k → B' k) ∧
    (∀ k, B' k → k < w'.heap.size ∧ (B k ∨ w.heap.size ≤ k)) ∧ SameB (fun k => k < w.heap.size ∧ (¬ B k ∨ G.h k ≠ none)) w w'

/-- THE CONTRACT OF AN ITERATOR: it yields values of the shape 'encs', fewer than N before the last; what it has yielded when it ends by itself is as S says. -/
structure ISpec (P : Program) (f : FuncId) {A : Type} (encs : A → List SV) (N : Nat) (cap : List SV) (objs : List SObj) (h : Hp) (S Sp : List (List SV) → Prop) : Prop where
  enter : ∀ as w, (callFunc f as).run P w = .ok (.enter f as) w
  run : ∀ (inv : Bool → List (List SV) → (Nat → Prop) → World → Prop) (yl : Nat) (e : Env) (w : World),
    let G : Base := { w := w, M := fun _ => True, h := h, e := e, nk := objs.length, inv := inv, yl := yl, yok := fun xs a => (∃ x, a = encs x) ∧ Sp (xs ++ [a]), yN := N }
    YOk P G → WOk G [] e (objs.map some ++ [some (.ghost false [])]) h w →
    Calls P f (#[.func (.yield yl) #[] #[]] ++ (denL e cap).toArray) w fun en w' => (∃ v, en = .returned v) ∧ ∃ (B : Nat → Prop) (s : Bool) (xs : List (List SV)), (∀ w'', SameB B w' w'' → inv s xs B w'') ∧ (s = false → S xs)

/-! ### evaluation in order: what is handed on is written out -/

def snocK {A : Type} {R : Sort _} : List A → A → (List A → R) → R
  | [], v, k => k [v]
  | x :: xs, v, k => snocK xs v fun r => k (x :: r)
theorem snocK_eq {A : Type} {R : Sort _} : ∀ (l : List A) (v : A) (k : List A → R), snocK l v k = k (l ++ [v])
  | [], _, _ => rfl
  | x :: xs, v, k => by rw [snocK, snocK_eq xs v]; rfl

/-- A small number, written out. -/
def smalls : List Nat := [0, 1, 2, 3, 4, 5, 6, 7, 8, 9, 10, 11, 12, 13, 14, 15, 16, 17, 18, 19, 20, 21, 22, 23, 24, 25, 26, 27, 28, 29, 30, 31, 32, 33, 34, 35, 36, 37, 38, 39, 40, 41, 42, 43, 44, 45, 46, 47, 48]
def forceN {R : Sort _} (n : Nat) (k : Nat → R) : R :=
  match smalls.find? (Nat.beq n) with
  | some m => k m
  | none => k n
theorem forceN_eq {R : Sort _} (n : Nat) (k : Nat → R) : forceN n k = k n := by
  unfold forceN
  split
  · rename_i m hm
    have := List.find?_some hm
    rw [Nat.eq_of_beq_eq_true this]
  · rfl

mutual
def forceV {R : Sort _} : SV → (SV → R) → R
  | .junk, k => k .junk
  | .val v, k => k (.val v)
  | .bool b, k => k (.bool b)
  | .bexp b, k => k (.bexp b)
  | .int q n, k => k (.int q n)
  | .str s, k => k (.str s)
  | .agg cs, k => forceVs cs fun cs => k (.agg cs)
  | .tuple vs, k => forceVs vs fun vs => k (.tuple vs)
  | .ptr t off, k => forceN t fun t => forceN off fun off => k (.ptr t off)
  | .loc t, k => forceN t fun t => k (.loc t)
  | .optr t off, k => forceN t fun t => k (.optr t off)
  | .func fn a b, k => forceVs a fun a => forceVs b fun b => k (.func fn a b)
  | .slc a n c, k => k (.slc a n c)
  | .dptr a, k => k (.dptr a)
def forceVs {R : Sort _} : List SV → (List SV → R) → R
  | [], k => k []
  | x :: xs, k => forceV x fun x => forceVs xs fun xs => k (x :: xs)
end
mutual
theorem forceV_eq {R : Sort _} : ∀ (x : SV) (k : SV → R), forceV x k = k x
  | .junk, _ => rfl
  | .val _, _ => rfl
  | .bool _, _ => rfl
  | .bexp _, _ => rfl
  | .int _ _, _ => rfl
  | .str _, _ => rfl
  | .agg cs, k => by rw [forceV, forceVs_eq cs]
  | .tuple vs, k => by rw [forceV, forceVs_eq vs]
  | .ptr _ _, _ => by simp only [forceV, forceN_eq]
  | .loc _, _ => by simp only [forceV, forceN_eq]
  | .optr _ _, _ => by simp only [forceV, forceN_eq]
  | .func fn a b, k => by rw [forceV, forceVs_eq a, forceVs_eq b]
  | .slc _ _ _, _ => rfl
  | .dptr _, _ => rfl
theorem forceVs_eq {R : Sort _} : ∀ (l : List SV) (k : List SV → R), forceVs l k = k l
  | [], _ => rfl
  | x :: xs, k => by rw [forceVs, forceV_eq x, forceVs_eq xs]
end

def forceO {R : Sort _} : Option SObj → (Option SObj → R) → R
  | none, k => k none
  | some (.cells ty cs), k => forceVs cs fun cs => k (some (.cells ty cs))
  | some (.olist e sz n xs), k => k (some (.olist e sz n xs))
  | some (.ghost s xs), k => k (some (.ghost s xs))
theorem forceO_eq {R : Sort _} (x : Option SObj) (k : Option SObj → R) : forceO x k = k x := by
  cases x with
  | none => rfl
  | some x => cases x with
    | cells ty cs => rw [forceO, forceVs_eq]
    | olist => rfl
    | ghost => rfl
def forceOs {R : Sort _} : List (Option SObj) → (List (Option SObj) → R) → R
  | [], k => k []
  | x :: xs, k => forceO x fun x => forceOs xs fun xs => k (x :: xs)
theorem forceOs_eq {R : Sort _} : ∀ (l : List (Option SObj)) (k : List (Option SObj) → R), forceOs l k = k l
  | [], _ => rfl
  | x :: xs, k => by rw [forceOs, forceO_eq, forceOs_eq xs]

def forceBs {R : Sort _} : List SObj → (List SObj → R) → R
  | [], k => k []
  | .cells ty cs :: xs, k => forceVs cs fun cs => forceBs xs fun xs => k (.cells ty cs :: xs)
  | .olist a b c d :: xs, k => forceBs xs fun xs => k (.olist a b c d :: xs)
  | .ghost a b :: xs, k => forceBs xs fun xs => k (.ghost a b :: xs)
theorem forceBs_eq {R : Sort _} : ∀ (l : List SObj) (k : List SObj → R), forceBs l k = k l
  | [], _ => rfl
  | .cells ty cs :: xs, k => by rw [forceBs, forceVs_eq, forceBs_eq xs]
  | .olist a b c d :: xs, k => by rw [forceBs, forceBs_eq xs]
  | .ghost a b :: xs, k => by rw [forceBs, forceBs_eq xs]

/-! ### at a boundary (a call, a loop's round, a return) a known Bool is a Bool of the proof's -/

mutual
def nrm : SV → SV
  | .bool b => .bexp b
  | .agg cs => .agg (nrmL cs)
  | .tuple vs => .tuple (nrmL vs)
  | .func fn a b => .func fn (nrmL a) (nrmL b)
  | x => x
def nrmL : List SV → List SV
  | [] => []
  | x :: xs => nrm x :: nrmL xs
end
mutual
def nrmK {R : Sort _} : SV → (SV → R) → R
  | .junk, k => k .junk
  | .val v, k => k (.val v)
  | .bool b, k => k (.bexp b)
  | .bexp b, k => k (.bexp b)
  | .int q n, k => k (.int q n)
  | .str s, k => k (.str s)
  | .agg cs, k => nrmKs cs fun cs => k (.agg cs)
  | .tuple vs, k => nrmKs vs fun vs => k (.tuple vs)
  | .ptr t off, k => forceN t fun t => forceN off fun off => k (.ptr t off)
  | .loc t, k => forceN t fun t => k (.loc t)
  | .optr t off, k => forceN t fun t => k (.optr t off)
  | .func fn a b, k => nrmKs a fun a => nrmKs b fun b => k (.func fn a b)
  | .slc a n c, k => k (.slc a n c)
  | .dptr a, k => k (.dptr a)
def nrmKs {R : Sort _} : List SV → (List SV → R) → R
  | [], k => k []
  | x :: xs, k => nrmK x fun x => nrmKs xs fun xs => k (x :: xs)
end
mutual
theorem nrmK_eq {R : Sort _} : ∀ (x : SV) (k : SV → R), nrmK x k = k (nrm x)
  | .junk, _ => rfl
  | .val _, _ => rfl
  | .bool _, _ => rfl
  | .bexp _, _ => rfl
  | .int _ _, _ => rfl
  | .str _, _ => rfl
  | .agg cs, k => by rw [nrmK, nrmKs_eq cs]; rfl
  | .tuple vs, k => by rw [nrmK, nrmKs_eq vs]; rfl
  | .ptr _ _, _ => by simp only [nrmK, forceN_eq]; rfl
  | .loc _, _ => by simp only [nrmK, forceN_eq]; rfl
  | .optr _ _, _ => by simp only [nrmK, forceN_eq]; rfl
  | .func fn a b, k => by rw [nrmK, nrmKs_eq a, nrmKs_eq b]; rfl
  | .slc _ _ _, _ => rfl
  | .dptr _, _ => rfl
theorem nrmKs_eq {R : Sort _} : ∀ (l : List SV) (k : List SV → R), nrmKs l k = k (nrmL l)
  | [], _ => rfl
  | x :: xs, k => by rw [nrmKs, nrmK_eq x, nrmKs_eq xs]; rfl
end
mutual
theorem den_nrm (e : Env) : ∀ x, den e (nrm x) = den e x
  | .junk => rfl
  | .val _ => rfl
  | .bool _ => rfl
  | .bexp _ => rfl
  | .int _ _ => rfl
  | .str _ => rfl
  | .agg cs => by simp only [nrm, den, denL_nrm e cs]
  | .tuple vs => by simp only [nrm, den, denL_nrm e vs]
  | .ptr _ _ => rfl
  | .loc _ => rfl
  | .optr _ _ => rfl
  | .func _ a b => by simp only [nrm, den, denL_nrm e a, denL_nrm e b]
  | .slc _ _ _ => rfl
  | .dptr _ => rfl
theorem denL_nrm (e : Env) : ∀ l, denL e (nrmL l) = denL e l
  | [] => rfl
  | x :: xs => by simp only [nrmL, denL, den_nrm e x, denL_nrm e xs]
end
mutual
theorem bel_nrm (n : Nat) : ∀ x, bel n (nrm x) = bel n x
  | .junk => rfl
  | .val _ => rfl
  | .bool _ => rfl
  | .bexp _ => rfl
  | .int _ _ => rfl
  | .str _ => rfl
  | .agg cs => by simp only [nrm, bel, belL_nrm n cs]
  | .tuple vs => by simp only [nrm, bel, belL_nrm n vs]
  | .ptr _ _ => rfl
  | .loc _ => rfl
  | .optr _ _ => rfl
  | .func _ a b => by simp only [nrm, bel, belL_nrm n a, belL_nrm n b]
  | .slc _ _ _ => rfl
  | .dptr _ => rfl
theorem belL_nrm (n : Nat) : ∀ l, belL n (nrmL l) = belL n l
  | [] => rfl
  | x :: xs => by simp only [nrmL, belL, bel_nrm n x, belL_nrm n xs]
end
mutual
theorem tags_nrm : ∀ x, tags (nrm x) = tags x
  | .junk => rfl
  | .val _ => rfl
  | .bool _ => rfl
  | .bexp _ => rfl
  | .int _ _ => rfl
  | .str _ => rfl
  | .agg cs => by simp only [nrm, tags, tagsL_nrm cs]
  | .tuple vs => by simp only [nrm, tags, tagsL_nrm vs]
  | .ptr _ _ => rfl
  | .loc _ => rfl
  | .optr _ _ => rfl
  | .func _ a b => by simp only [nrm, tags, tagsL_nrm a, tagsL_nrm b]
  | .slc _ _ _ => rfl
  | .dptr _ => rfl
theorem tagsL_nrm : ∀ l, tagsL (nrmL l) = tagsL l
  | [] => rfl
  | x :: xs => by simp only [nrmL, tagsL, tags_nrm x, tagsL_nrm xs]
end

def nrmO : Option SObj → Option SObj
  | some (.cells ty cs) => some (.cells ty (nrmL cs))
  | x => x
def nrmOK {R : Sort _} : Option SObj → (Option SObj → R) → R
  | none, k => k none
  | some (.cells ty cs), k => nrmKs cs fun cs => k (some (.cells ty cs))
  | some (.olist e sz n xs), k => k (some (.olist e sz n xs))
  | some (.ghost s xs), k => k (some (.ghost s xs))
theorem nrmOK_eq {R : Sort _} (x : Option SObj) (k : Option SObj → R) : nrmOK x k = k (nrmO x) := by
  cases x with
  | none => rfl
  | some x => cases x with
    | cells ty cs => rw [nrmOK, nrmKs_eq]; rfl
    | olist => rfl
    | ghost => rfl
def nrmOs {R : Sort _} : List (Option SObj) → (List (Option SObj) → R) → R
  | [], k => k []
  | x :: xs, k => nrmOK x fun x => nrmOs xs fun xs => k (x :: xs)
theorem nrmOs_eq {R : Sort _} : ∀ (l : List (Option SObj)) (k : List (Option SObj) → R), nrmOs l k = k (l.map nrmO)
  | [], _ => rfl
  | x :: xs, k => by rw [nrmOs, nrmOK_eq, nrmOs_eq xs]; rfl
def nrmB : SObj → SObj
  | .cells ty cs => .cells ty (nrmL cs)
  | x => x
def nrmBs {R : Sort _} : List SObj → (List SObj → R) → R
  | [], k => k []
  | .cells ty cs :: xs, k => nrmKs cs fun cs => nrmBs xs fun xs => k (.cells ty cs :: xs)
  | .olist a b c d :: xs, k => nrmBs xs fun xs => k (.olist a b c d :: xs)
  | .ghost a b :: xs, k => nrmBs xs fun xs => k (.ghost a b :: xs)
theorem nrmBs_eq {R : Sort _} : ∀ (l : List SObj) (k : List SObj → R), nrmBs l k = k (l.map nrmB)
  | [], _ => rfl
  | .cells ty cs :: xs, k => by rw [nrmBs, nrmKs_eq, nrmBs_eq xs]; rfl
  | .olist a b c d :: xs, k => by rw [nrmBs, nrmBs_eq xs]; rfl
  | .ghost a b :: xs, k => by rw [nrmBs, nrmBs_eq xs]; rfl

/-- What goes on, in a symbolic state. -/
abbrev SK := List SV → List (Option SObj) → Hp → Prop

/-- A value into its temporary. -/
def put (dst : Option Tmp) (v : SV) (t : List SV) (o : List (Option SObj)) (h : Hp) (K : SK) : Prop :=
  match dst with
  | none => K t o h
  | some d => forceV v fun v => setK t d v fun t => K t o h

/-- The same; where the temporary is a guard ('&&', '||'), the two ways part here. -/
def putG (gs : List Nat) (dst : Option Tmp) (v : SV) (t : List SV) (o : List (Option SObj)) (h : Hp) (K : SK) : Prop :=
  match dst with
  | none => K t o h
  | some d => match gs.contains d with
    | false => forceV v fun v => setK t d v fun t => K t o h
    | true => match v with
      | .bexp b => (b = true → setK t d (.bool true) fun t => K t o h) ∧ (b = false → setK t d (.bool false) fun t => K t o h)
      | v => forceV v fun v => setK t d v fun t => K t o h

def objTags (o : List (Option SObj)) (t : Nat) : List Nat :=
  match o[t]? with
  | some (some (.cells _ cs)) => tagsL cs
  | _ => []

def reach (o : List (Option SObj)) : Nat → List Nat → List Nat → List Nat
  | 0, _, done => done
  | _ + 1, [], done => done
  | n + 1, t :: todo, done => match done.contains t with
    | true => reach o n todo done
    | false => reach o n (objTags o t ++ todo) (done ++ [t])

def renO (r : Nat → Nat) : SObj → SObj
  | .cells ty cs => .cells ty (renL r cs)
  | .olist a b c d => .olist a b c d
  | .ghost a b => .ghost a b

/-- The objects that a call is handed, under the callee's own tags: known ones, and closed. -/
def handed (o : List (Option SObj)) (ts : List Nat) : List Nat → Option (List SObj)
  | [] => some []
  | t :: r => match o[t]? with
    | some (some (.cells ty cs)) => match (tagsL cs).all ts.contains with
      | true => match handed o ts r with
        | some l => some (.cells ty (renL ts.idxOf cs) :: l)
        | none => none
      | false => none
    | some (some (.olist a b c d)) => match handed o ts r with
      | some l => some (.olist a b c d :: l)
      | none => none
    | _ => none

def nodupB : List Nat → Bool
  | [] => true
  | t :: r => !r.contains t && nodupB r

def bk (ts : List Nat) (n i : Nat) : Nat := match Nat.blt i ts.length with
  | true => ts.getD i 0
  | false => n + (i - ts.length)

def updO (ts : List Nat) (n : Nat) (o' : List (Option SObj)) (i : Nat) : List (Option SObj) → List (Option SObj)
  | [] => (o'.drop ts.length).map (·.map (renO (bk ts n)))
  | x :: r => (match ts.contains i with
    | true => ((o'[ts.idxOf i]?).getD none).map (renO (bk ts n))
    | false => x) :: updO ts n o' (i + 1) r

def sCall (P : Program) (gs : List Nat) (f : FuncId) (args : List SV) (dst : Option Tmp) (t : List SV) (o : List (Option SObj)) (h : Hp) (K : SK) : Prop :=
  match noJunk args with
  | false => False
  | true => forceVs args fun args => sCallT P gs f args dst t o h K (reach o 60 (tagsL args) [])
where
  sCallT (P : Program) (gs : List Nat) (f : FuncId) (args : List SV) (dst : Option Tmp) (t : List SV) (o : List (Option SObj)) (h : Hp) (K : SK) (ts : List Nat) : Prop :=
    match (tagsL args).all ts.contains && nodupB ts with
    | false => False
    | true => match handed o ts ts with
      | none => False
      | some objs => nrmKs (renL ts.idxOf args) fun cargs => nrmBs objs fun objs => ∃ post, CSpec P f cargs objs h post ∧
          ∀ sv o' h', HLe h h' → post sv o' h' → forceOs (updO ts o.length o' 0 o) fun o2 => putG gs dst (ren (bk ts o.length) sv) t o2 h' K

def cellB : SV → Bool
  | .junk => false
  | .agg _ => false
  | .tuple _ => false
  | .val (.agg _) => false
  | .val (.tuple _) => false
  | _ => true
def cellsB : List SV → Bool
  | [] => true
  | x :: xs => cellB x && cellsB xs

/-- Cells of a row, written over. -/
def putN (ys : List Value) (off : Nat) : List Value → List Value
  | [] => ys
  | v :: vs => putN (ys.set off v) (off + 1) vs

/-- How long a list may get. -/
def AppOk (bytes n : Nat) : Prop := n ≤ maxLen ∧ n * bytes ≤ 140737488355328

/-- A slice's elements, where they lie in immutable memory. -/
def HSlc (h : Hp) (a : Option Addr) (m sz : Nat) (ys : List Value) : Prop :=
  ys.length = m * sz ∧ (∀ u ∈ ys, u.oneCell' = true) ∧ ∃ ad : Addr, a = some ad ∧ ad.spot = none ∧ (m = 0 ∨ ∃ cs ty fr, h ad.block = some (.cells cs ty fr) ∧ ∀ j u, ys[j]? = some u → cs[ad.off + j]? = some u)

/-- What is appended to. -/
def appX (o : List (Option SObj)) (elem : TypeId) (sz : Nat) : SV → Option (Option Nat × Nat × List Value)
  | .loc tag => match getList o tag with
    | some (ty, sz', n, xs) => match Nat.beq ty elem && Nat.beq sz' sz with
      | true => some (some tag, n, xs)
      | false => none
    | none => none
  | .slc none 0 0 => some (none, 0, [])
  | _ => none

def killK {R : Sort _} (o : List (Option SObj)) : Option Nat → (List (Option SObj) → R) → R
  | none, k => k o
  | some t, k => setK o t none k
theorem killK_eq {R : Sort _} (o : List (Option SObj)) (t : Option Nat) (k : List (Option SObj) → R) : killK o t k = k (match t with | none => o | some t => o.set t none) := by
  cases t with
  | none => rfl
  | some t => rw [killK, setK_eq]

def sAppend (elem : TypeId) (sz bytes : Nat) (gs : List Nat) (x y : SV) (dst : Option Tmp) (t : List SV) (o : List (Option SObj)) (h : Hp) (K : SK) : Prop :=
  match appX o elem sz x with
  | none => False
  | some (tag, n, xs) => match y with
    | .loc tag2 => match getList o tag2 with
      | some (_, sz', m, ys) => match Nat.beq sz' sz with
        | true => AppOk bytes (n + m) ∧ killK o tag fun o1 => snocK o1 (some (.olist elem sz (n + m) (xs ++ ys))) fun o' => putG gs dst (.loc o.length) t o' h K
        | false => False
      | none => False
    | .slc a m _ => ∃ ys, HSlc h a m sz ys ∧ AppOk bytes (n + m) ∧ killK o tag fun o1 => snocK o1 (some (.olist elem sz (n + m) (xs ++ ys))) fun o' => putG gs dst (.loc o.length) t o' h K
    | _ => False

def repCells (z : Value) (size len : Nat) : List SV := (List.range (len * size)).map fun j => ofC (z.cells.toList.getD (j % size) undef)

def findGhost : List (Option SObj) → Nat → Option (Nat × Bool × List (List SV))
  | [], _ => none
  | some (.ghost s xs) :: _, n => some (n, s, xs)
  | _ :: r, n => findGhost r (n + 1)

/-- An iterator yields. -/
def sYield (c : Cfg) (l : Nat) (args : List SV) (dst : Option Tmp) (t : List SV) (o : List (Option SObj)) (h : Hp) (K : SK) : Prop :=
  match belL 0 args with
  | false => False
  | true => nrmKs args fun args => match findGhost o 0 with
    | some (tag, false, xs) => l = c.yl ∧ c.yok xs args ∧ xs.length < c.yN ∧
        (setK o tag (some (.ghost false (xs ++ [args]))) fun o' => put dst (.bool true) t o' h K) ∧ (setK o tag (some (.ghost true (xs ++ [args]))) fun o' => put dst (.bool false) t o' h K)
    | _ => False

/-- An operation that is carried out. -/
def sop (P : Program) (c : Cfg) (gs : List Nat) (op : Op) (dst : Option Tmp) (t : List SV) (o : List (Option SObj)) (h : Hp) (K : SK) : Prop :=
  match qop P c ⟨t, o, h⟩ op with
  | .val none v => putG gs dst v t o h K
  | .val (some p) v => p ∧ putG gs dst v t o h K
  | .rd R => ∃ v, R h v ∧ putG gs dst v t o h K
  | .no => match op with
    | .pick b x y => match ev t b with
      | .bexp b => (b = true → putG gs dst (ev t x) t o h K) ∧ (b = false → putG gs dst (ev t y) t o h K)
      | _ => False
    | .alloc elem => match sZero P elem with
      | some z => forceVs (zeroCells z) fun cs => snocK o (some (.cells elem cs)) fun o' => putG gs dst (.ptr o.length 0) t o' h K
      | none => False
    | .box elem x => match svc (ev t x) with
      | some cs => forceVs cs fun cs => snocK o (some (.cells elem cs)) fun o' => putG gs dst (.ptr o.length 0) t o' h K
      | none => False
    | .store ty a x => match ev t a, svc (ev t x), P.info? ty with
      | .ptr tag off, some xs, some i => match getCells o tag with
        | some (ty, cs) => match Nat.beq xs.length i.size && Nat.ble (off + xs.length) cs.length && cellsB xs with
          | true => forceVs xs fun xs => setAllK cs off xs fun cs => setK o tag (some (.cells ty cs)) fun o' => put dst .junk t o' h K
          | false => False
        | none => False
      | .optr tag off, some xs, some i => match getList o tag with
        | some (ty, sz, n, ys) => match Nat.blt 0 xs.length && (Nat.beq xs.length i.size && (cellsB xs && belL 0 xs)) with
          | true => off + xs.length ≤ ys.length ∧ forceVs xs fun xs => setK o tag (some (.olist ty sz n (putN ys off (denL e0 xs)))) fun o' => put dst .junk t o' h K
          | false => False
        | none => False
      | _, _, _ => False
    | .call { callee := .value f, args, .. } => match ev t f with
      | .func (.func k) first captured => sCall P gs k (first ++ args.toList.map (ev t) ++ captured) dst t o h K
      | .func (.yield l) [] [] => sYield c l (args.toList.map (ev t)) dst t o h K
      | _ => False
    | .call { callee := .builtin .append, args, argTypes } => match args.toList, argTypes.toList with
      | [x, y], [t1, t2] => match Nat.beq t1 t2, P.underlying t1 with
        | true, some (.slice elem) => match P.info? elem, sZero P elem with
          | some i, some z => match Nat.beq z.cells.size i.size && Nat.blt 0 i.size with
            | true => forceN i.size fun sz => sAppend elem sz i.bytes gs (ev t x) (ev t y) dst t o h K
            | false => False
          | _, _ => False
        | _, _ => False
      | _, _ => False
    | .buildSlice ty len parts => match P.underlying ty with
      | some (.slice elem) => match P.info? elem, sZero P elem with
        | some i, some z => match Nat.blt 0 i.size && (Nat.ble (len * i.size) 16777216 && Nat.beq z.cells.size i.size) with
          | true => match sFill (fun k => some (k * i.size, i.size)) (repCells z i.size len) (parts.toList.map fun p => (p.1, ev t p.2)) with
            | some cells => match cellsB cells && belL 0 cells with
              | true => forceVs cells fun cells => forceN i.size fun sz => snocK o (some (.olist elem sz len (denL e0 cells))) fun o' => putG gs dst (.loc o.length) t o' h K
              | false => False
            | none => False
          | false => False
        | _, _ => False
      | _ => False
    | _ => False

def guardVal (ops : Array Oper) (t : List SV) (j : Nat) : SV :=
  match ops[j]? with
  | some o => match o.dst with
    | some d => t.getD d .junk
    | none => .junk
  | none => .junk

def sops (P : Program) (c : Cfg) (gs : List Nat) (ops : Array Oper) : List Oper → List SV → List (Option SObj) → Hp → SK → Prop
  | [], t, o, h, K => K t o h
  | p :: rest, t, o, h, K => match p.guard with
    | none => sop P c gs p.op p.dst t o h (fun t o h => sops P c gs ops rest t o h K)
    | some (j, want) => match guardVal ops t j with
      | .bool b => match b == want with
        | true => sop P c gs p.op p.dst t o h (fun t o h => sops P c gs ops rest t o h K)
        | false => put p.dst (.tuple []) t o h fun t o h => sops P c gs ops rest t o h K
      | .tuple _ => put p.dst (.tuple []) t o h fun t o h => sops P c gs ops rest t o h K
      | _ => False

/-- The temporaries that some operation's guard asks. -/
def gsOf (ops : Array Oper) : List Oper → List Nat
  | [] => []
  | o :: r => match o.guard with
    | some (j, _) => match ops[j]? with
      | some p => match p.dst with
        | some d => d :: gsOf ops r
        | none => gsOf ops r
      | none => gsOf ops r
    | none => gsOf ops r

/-- A call in a region that draws its order: one that only computes. -/
def sCallQ (P : Program) (gs : List Nat) (f : FuncId) (args : List SV) (dst : Option Tmp) (t : List SV) (o : List (Option SObj)) (h : Hp) (K : SK) : Prop :=
  match noJunk args && (tagsL args).isEmpty with
  | false => False
  | true => nrmKs args fun args => ∃ v, (bel 0 v = true ∧ CSpec P f args [] h (fun sv _ _ => sv = v)) ∧ putG gs dst v t o h K

def sopQ (P : Program) (c : Cfg) (gs : List Nat) (op : Op) (dst : Option Tmp) (t : List SV) (o : List (Option SObj)) (h : Hp) (K : SK) : Prop :=
  match qop P c ⟨t, o, h⟩ op with
  | .val none v => putG gs dst v t o h K
  | .val (some p) v => p ∧ putG gs dst v t o h K
  | .rd R => ∃ v, R h v ∧ putG gs dst v t o h K
  | .no => match op with
    | .pick b x y => match ev t b with
      | .bexp b => (b = true → putG gs dst (ev t x) t o h K) ∧ (b = false → putG gs dst (ev t y) t o h K)
      | _ => False
    | .call { callee := .value f, args, .. } => match ev t f with
      | .func (.func k) first captured => sCallQ P gs k (first ++ args.toList.map (ev t) ++ captured) dst t o h K
      | _ => False
    | _ => False

def sopsQ (P : Program) (c : Cfg) (gs : List Nat) (ops : Array Oper) : List Oper → List SV → List (Option SObj) → Hp → SK → Prop
  | [], t, o, h, K => K t o h
  | p :: rest, t, o, h, K => match p.guard with
    | none => sopQ P c gs p.op p.dst t o h (fun t o h => sopsQ P c gs ops rest t o h K)
    | some (j, want) => match guardVal ops t j with
      | .bool b => match b == want with
        | true => sopQ P c gs p.op p.dst t o h (fun t o h => sopsQ P c gs ops rest t o h K)
        | false => put p.dst (.tuple []) t o h fun t o h => sopsQ P c gs ops rest t o h K
      | .tuple _ => put p.dst (.tuple []) t o h fun t o h => sopsQ P c gs ops rest t o h K
      | _ => False

/-- What a loop's iterator has captured: handed over, and out of the loop's sight. -/
def maskK {R : Sort _} : List Nat → List (Option SObj) → (List (Option SObj) → R) → R
  | [], o, k => k o
  | t :: r, o, k => setK o t none fun o => maskK r o k
def mask (o : List (Option SObj)) (ts : List Nat) : List (Option SObj) := ts.foldl (fun o t => o.set t none) o
theorem maskK_eq {R : Sort _} : ∀ (ts : List Nat) (o : List (Option SObj)) (k : List (Option SObj) → R), maskK ts o k = k (mask o ts)
  | [], _, _ => rfl
  | t :: r, o, k => by rw [maskK, setK_eq, maskK_eq r]; rfl

inductive SX where
  | normal
  | exit (id : Nat)
  | ret

def dsts : List Oper → List Nat → List Nat
  | [], acc => acc
  | p :: r, acc => match p.dst with
    | some d => d :: dsts r acc
    | none => dsts r acc
def modsA : Code → List Nat → List Nat
  | .region _ ops _, acc => dsts ops.toList acc
  | .seq a b, acc => modsA a (modsA b acc)
  | .cond x a b, acc => match x with
    | .tmp d => d :: modsA a (modsA b acc)
    | _ => modsA a (modsA b acc)
  | .block _ b, acc => modsA b acc
  | .loop b, acc => modsA b acc
  | .scope b, acc => modsA b acc
  | _, acc => acc
def mods (c : Code) : List Nat := modsA c []
theorem dsts_eq : ∀ (l : List Oper) (acc : List Nat), dsts l acc = l.filterMap (·.dst) ++ acc
  | [], _ => rfl
  | p :: r, acc => by
    simp only [dsts, List.filterMap_cons]
    cases p.dst <;> simp [dsts_eq r acc]
theorem modsA_eq : ∀ (c : Code) (acc : List Nat), modsA c acc = modsA c [] ++ acc
  | .region _ ops _, acc => by simp [modsA, dsts_eq]
  | .seq a b, acc => by simp only [modsA]; rw [modsA_eq a (modsA b acc), modsA_eq a (modsA b []), modsA_eq b acc]; simp
  | .cond x a b, acc => by
    simp only [modsA]
    rw [modsA_eq a (modsA b acc), modsA_eq a (modsA b []), modsA_eq b acc]
    cases x <;> simp
  | .block _ b, acc => by simp only [modsA]; exact modsA_eq b acc
  | .loop b, acc => by simp only [modsA]; exact modsA_eq b acc
  | .scope b, acc => by simp only [modsA]; exact modsA_eq b acc
  | .skip, _ => rfl
  | .rangeFunc _ _ _ _, _ => rfl
  | .exit _, _ => rfl
  | .label _, _ => rfl
  | .goto _, _ => rfl
  | .ret, _ => rfl
  | .refuse _, _ => rfl
theorem mods_region (id : Nat) (ops : Array Oper) (d : Bool) : mods (.region id ops d) = ops.toList.filterMap (·.dst) := by simp [mods, modsA, dsts_eq]
theorem mods_seq (a b : Code) : mods (.seq a b) = mods a ++ mods b := by simp only [mods, modsA]; rw [modsA_eq]
theorem mods_cond (x : Operand) (a b : Code) : mods (.cond x a b) = (match x with | .tmp d => [d] | _ => []) ++ (mods a ++ mods b) := by
  simp only [mods, modsA]
  rw [modsA_eq a (modsA b [])]
  cases x <;> simp
theorem mods_block (id : Nat) (b : Code) : mods (.block id b) = mods b := rfl
theorem mods_loop (b : Code) : mods (.loop b) = mods b := rfl

def firstRegion : Code → Option Nat
  | .region id _ _ => some id
  | .seq a b => match firstRegion a with
    | some r => some r
    | none => firstRegion b
  | .block _ b => firstRegion b
  | .loop b => firstRegion b
  | .scope b => firstRegion b
  | _ => none

def annOf (l : List (Nat × Ann)) (x : Option Nat) : Option Ann :=
  match l with
  | [] => none
  | p :: l => match x with
    | some r => List.lookup r (p :: l)
    | none => none

/-- Of the temporaries that a piece of code writes nothing is known but of the listed ones. -/
def havoc (t : List SV) (ms : List Nat) : List SV := ms.foldl (fun t m => t.set m .junk) t
def refill : List SV → List Nat → List SV → List SV
  | t, s :: ss, v :: vs => refill (t.set s v) ss vs
  | t, _, _ => t
def havocK {R : Sort _} : List SV → List Nat → (List SV → R) → R
  | t, [], k => k t
  | t, m :: ms, k => setK t m .junk fun t => havocK t ms k
theorem havocK_eq {R : Sort _} : ∀ (ms : List Nat) (t : List SV) (k : List SV → R), havocK t ms k = k (havoc t ms)
  | [], _, _ => rfl
  | m :: ms, t, k => by rw [havocK, setK_eq, havocK_eq ms]; rfl
def refillK {R : Sort _} : List SV → List Nat → List SV → (List SV → R) → R
  | t, s :: ss, v :: vs, k => forceV v fun v => setK t s v fun t => refillK t ss vs k
  | t, _, _, k => k t
theorem refillK_eq {R : Sort _} : ∀ (ss : List Nat) (vs t : List SV) (k : List SV → R), refillK t ss vs k = k (refill t ss vs)
  | [], vs, t, k => by cases vs <;> rfl
  | s :: ss, [], t, k => rfl
  | s :: ss, v :: vs, t, k => by rw [refillK, forceV_eq, setK_eq, refillK_eq ss]; rfl
def pickS (t : List SV) (ss : List Nat) : List SV := ss.map fun s => t.getD s .junk

def belObjs (n : Nat) : List (Option SObj) → Bool
  | [] => true
  | some (.cells _ cs) :: r => belL n cs && belObjs n r
  | _ :: r => belObjs n r

/-- The listed temporaries may be handed on: nothing in them is unknown. -/
def okS (n : Nat) (t : List SV) (ss : List Nat) (o : List (Option SObj)) : Bool := belL n (pickS t ss) && (belObjs n o && Nat.beq o.length n)

def getP (t : List SV) (o : List (Option SObj)) : Plc → SV
  | .slot s => t.getD s .junk
  | .cell tag off => match getCells o tag with
    | some (_, cs) => cs.getD off .junk
    | none => .junk
def setP {R : Sort _} (t : List SV) (o : List (Option SObj)) (v : SV) (k : List SV → List (Option SObj) → R) : Plc → R
  | .slot s => setK t s v fun t => k t o
  | .cell tag off => match getCells o tag with
    | some (ty, cs) => setK cs off v fun cs => setK o tag (some (.cells ty cs)) fun o => k t o
    | none => k t o

/-- Owned lists that a loop carries on are given tags of their own. -/
def retagK : List (Plc × TypeId × Nat) → List SV → List (Option SObj) → (List SV → List (Option SObj) → Prop) → Prop
  | [], t, o, k => k t o
  | (p, ty, sz) :: r, t, o, k => match getP t o p with
    | .loc tag => match getList o tag with
      | some (ty', sz', n, xs) => setK o tag none fun o1 => snocK o1 (some (.olist ty' sz' n xs)) fun o2 => setP t o2 (.loc o.length) (fun t o => retagK r t o k) p
      | none => False
    | .slc none 0 0 => snocK o (some (.olist ty sz 0 [])) fun o2 => setP t o2 (.loc o.length) (fun t o => retagK r t o k) p
    | _ => False

def noTagO (a : Nat) : List (Option SObj) → Bool
  | [] => true
  | some (.cells _ cs) :: r => !(tagsL cs).contains a && noTagO a r
  | _ :: r => noTagO a r

/-- Behind a round they are given these tags again. -/
def meetK (ss : List Nat) (m n : Nat) (t0 : List SV) (o0 : List (Option SObj)) : List (Plc × TypeId × Nat) → List SV → List (Option SObj) → (List SV → List (Option SObj) → Prop) → Prop
  | [], t, o, k => k t o
  | (p, _, _) :: r, t, o, k => match getP t0 o0 p, getP t o p with
    | .loc a, .loc b => match Nat.beq a b with
      | true => meetK ss m n t0 o0 r t o k
      | false => match o[a]?, getList o b with
        | some none, some (ty, sz, q, xs) => match (Nat.ble m a && Nat.blt a n) && (!(tagsL (pickS t ss)).contains a && noTagO a o) with
          | true => setK o a (some (.olist ty sz q xs)) fun o1 => setK o1 b none fun o2 => setP t o2 (.loc a) (fun t o => meetK ss m n t0 o0 r t o k) p
          | false => False
        | _, _ => False
    | _, _ => False

def putC (x : Operand) (b : Bool) (t : List SV) (o : List (Option SObj)) (h : Hp) (K : SK) : Prop :=
  match x with
  | .tmp d => setK t d (.bool b) fun t => K t o h
  | _ => K t o h

def noDefer : List Oper → Bool
  | [] => true
  | p :: r => match p.op with
    | .defer _ => false
    | _ => noDefer r

/-- The place of the first operation that turns the world. -/
def firstLoud (calls : Bool) : List Oper → Nat → Option Nat
  | [], _ => none
  | p :: r, n => match p.op with
    | .store _ _ _ => some n
    | .alloc _ => some n
    | .box _ _ => some n
    | .call { callee := .value _, .. } => match calls with
      | true => some n
      | false => firstLoud calls r (n + 1)
    | .call { callee := .builtin .append, .. } => some n
    | .call { callee := .builtin .copy, .. } => some n
    | .buildSlice _ _ _ => some n
    | .makeSlice _ _ _ => some n
    | _ => firstLoud calls r (n + 1)

def slotless : List (Plc × TypeId × Nat) → Bool
  | [] => true
  | (.slot _, _, _) :: _ => false
  | (.cell _ _, _, _) :: r => slotless r

def listsOf (c : Cfg) (assign body : Code) : List (Plc × TypeId × Nat) :=
  match annOf c.ann (firstRegion (.seq assign body)) with
  | some an => an.lists
  | none => []

def slotsIn : List (Plc × TypeId × Nat) → List Nat → Bool
  | [], _ => true
  | (.slot s, _, _) :: r, ms => ms.contains s && slotsIn r ms
  | (.cell _ _, _, _) :: r, ms => slotsIn r ms

def swpCap (_t : List SV) (o : List (Option SObj)) (cap : List SV) (k : List SV → List SObj → List (Option SObj) → Prop) : Prop :=
  match noJunk cap with
  | false => False
  | true => forceVs cap fun cap => go cap (reach o 60 (tagsL cap) [])
where
  go (cap : List SV) (ts : List Nat) : Prop :=
    match (tagsL cap).all ts.contains && nodupB ts with
    | false => False
    | true => match handed o ts ts with
      | none => False
      | some objs => nrmKs (renL ts.idxOf cap) fun ccap => nrmBs objs fun objs => maskK ts o fun om => k ccap objs om

/-- A piece of code, as what it asks of a state and of what comes behind it. -/
abbrev SW := List SV → List (Option SObj) → Hp → (SX → SK) → Prop

def seqK (f : SW) (K : SX → SK) : SX → SK := fun x t o h => match x with
  | .normal => f t o h K
  | x => K x t o h
def blockK (id : Nat) (K : SX → SK) : SX → SK := fun x t o h => match x with
  | .exit id' => match Nat.beq id' id with
    | true => K .normal t o h
    | false => K (.exit id') t o h
  | x => K x t o h
/-- Operations that only compute or read. -/
def stillOp : Op → Bool
  | .move _ => true
  | .assign _ => true
  | .nilCheck _ => true
  | .binOp _ _ _ _ _ => true
  | .unOp _ _ _ => true
  | .convert _ _ _ => true
  | .fieldAddr _ _ _ => true
  | .field _ _ _ => true
  | .index _ _ _ => true
  | .indexAddr _ _ _ => true
  | .slice _ _ _ _ _ => true
  | .extract _ _ => true
  | .build _ _ => true
  | .load _ _ => true
  | .call { callee := .builtin .len, .. } => true
  | .call { callee := .builtin .max, .. } => true
  | .call { callee := .builtin .min, .. } => true
  | _ => false
/-- The operations that wait for no store. -/
def floats (ops : Array Oper) : Nat → List Oper → List Nat → List Nat
  | _, [], fl => fl.reverse
  | k, p :: r, fl => match stillOp p.op && p.after.toList.all fun e => !Region.binds .any e || fl.contains e.on with
    | true => floats ops (k + 1) r (k :: fl)
    | false => floats ops (k + 1) r fl
def sinks (fl : List Nat) : Nat → List Oper → List Nat
  | _, [] => []
  | k, _ :: r => match fl.contains k with
    | true => sinks fl (k + 1) r
    | false => k :: sinks fl (k + 1) r
def pick (ops : Array Oper) : List Nat → List Oper
  | [] => []
  | k :: r => match ops[k]? with
    | some p => p :: pick ops r
    | none => pick ops r
def seqN (md : Region.Mode) (ops : Array Oper) : List Nat → Array Bool → Bool
  | [], listed => (Region.ready md ops listed).isEmpty
  | k :: r, listed => decide (Region.ready md ops listed = [k]) && seqN md ops r (listed.setIfInBounds k true)
def pullB (md : Region.Mode) (ops : Array Oper) (rest : List Nat) : List Nat → Array Bool → Bool
  | [], listed => seqN md ops rest listed
  | k :: r, listed => (Region.ready md ops listed).contains k && (Region.free md ops listed k && pullB md ops rest r (listed.setIfInBounds k true))
def pullOk (P : Program) (ops : Array Oper) : Bool :=
  P.follows .mixedOrders && (Region.noSelect ops && (Nat.beq ((floats ops 0 ops.toList []).length + (sinks (floats ops 0 ops.toList []) 0 ops.toList).length) ops.size &&
    pullB .any ops (sinks (floats ops 0 ops.toList []) 0 ops.toList) (floats ops 0 ops.toList []) (Array.replicate ops.size false)))

def sopF (P : Program) (c : Cfg) (gs : List Nat) (op : Op) (dst : Option Tmp) (t : List SV) (o : List (Option SObj)) (h : Hp) (K : SK) : Prop :=
  match qop P c ⟨t, o, h⟩ op with
  | .val none v => putG gs dst v t o h K
  | .val (some p) v => p ∧ putG gs dst v t o h K
  | .rd R => ∃ v, R h v ∧ putG gs dst v t o h K
  | .no => False
def sopsF (P : Program) (c : Cfg) (gs : List Nat) (ops : Array Oper) : List Oper → List SV → List (Option SObj) → Hp → SK → Prop
  | [], t, o, h, K => K t o h
  | p :: rest, t, o, h, K => match p.guard with
    | none => sopF P c gs p.op p.dst t o h (fun t o h => sopsF P c gs ops rest t o h K)
    | some (j, want) => match guardVal ops t j with
      | .bool b => match b == want with
        | true => sopF P c gs p.op p.dst t o h (fun t o h => sopsF P c gs ops rest t o h K)
        | false => put p.dst (.tuple []) t o h fun t o h => sopsF P c gs ops rest t o h K
      | .tuple _ => put p.dst (.tuple []) t o h fun t o h => sopsF P c gs ops rest t o h K
      | _ => False

/-- Of the stores at the end. -/
def sopsT (P : Program) (c : Cfg) (gs : List Nat) (M : List Nat) : List Oper → List SV → List (Option SObj) → Hp → SK → Prop
  | [], t, o, h, K => K t o h
  | p :: rest, t, o, h, K => match p.guard with
    | some _ => False
    | none => match p.op with
      | .store ty a x => match ev t a, svc (ev t x), P.info? ty with
        | .ptr tag off, some xs, some i => match getCells o tag with
          | some (ty, cs) => match M.contains tag && (Nat.beq xs.length i.size && Nat.ble (off + xs.length) cs.length && cellsB xs) with
            | true => forceVs xs fun xs => setAllK cs off xs fun cs => setK o tag (some (.cells ty cs)) fun o' => put p.dst .junk t o' h fun t o h => sopsT P c gs M rest t o h K
            | false => False
          | none => False
        | _, _, _ => False
      | .assign x => match noJunk [ev t x] with
        | true => putG gs p.dst (ev t x) t o h fun t o h => sopsT P c gs M rest t o h K
        | false => False
      | _ => False

def pullC (P : Program) (c : Cfg) (ops : Array Oper) (M : List Nat) : SW := fun t o h K =>
  ClosedB (pullOk P ops) ∧ maskK M o fun om =>
    sopsF P c (gsOf ops ops.toList) ops (pick ops (floats ops 0 ops.toList [])) t om h fun t1 _ _ =>
      sopsT P c (gsOf ops ops.toList) M (pick ops (sinks (floats ops 0 ops.toList []) 0 ops.toList)) t1 o h (K .normal)

def drawD (P : Program) (c : Cfg) (id : Nat) (ops : Array Oper) : SW := fun t o h K => match noDefer ops.toList with
    | false => False
    | true => match firstLoud (c.loud.contains id) ops.toList 0 with
      | none => ClosedB (P.follows .mixedOrders && Region.lexB .any ops) ∧ sopsQ P c (gsOf ops ops.toList) ops ops.toList t o h (K .normal)
      | some n => ClosedB (P.follows .mixedOrders && Region.lexTailB .any ops n) ∧
          sopsQ P c (gsOf ops ops.toList) ops (ops.toList.take n) t o h fun t o h => sops P c (gsOf ops ops.toList) ops (ops.toList.drop n) t o h (K .normal)
def drawC (P : Program) (c : Cfg) (id : Nat) (ops : Array Oper) : SW := fun t o h K => match c.pull.lookup id with
    | none => drawD P c id ops t o h K
    | some M => match noDefer ops.toList with
      | false => False
      | true => pullC P c ops M t o h K
def cutK (n : Nat) (an : Ann) (J : SK) (K : SX → SK) : SX → SK := fun x t' o' h' => match x with
  | .normal => match okS n t' an.slots (o'.take n) with
    | true => nrmKs (pickS t' an.slots) fun vs => nrmOs (o'.take n) fun o' => J vs o' h'
    | false => False
  | x => K x t' o' h'
def seqC (c : Cfg) (a b : Code) (fa fb : SW) : SW := fun t o h K => match annOf c.cut (firstRegion b) with
    | none => fa t o h (seqK fb K)
    | some an => match an.slots.all (mods a).contains with
      | false => False
      | true => ∃ J : SK,
        fa t o h (cutK o.length an J K) ∧
        ∀ vs o' h', HLe h h' → J vs o' h' →
          havocK t (mods a) fun t => refillK t an.slots vs fun t => forceOs o' fun o => fb t o h' K
def condC (x : Operand) (fa fb : SW) : SW := fun t o h K => match ev t x with
    | .bool true => fa t o h K
    | .bool false => fb t o h K
    | .bexp v => (v = true → putC x true t o h fun t o h => fa t o h K) ∧ (v = false → putC x false t o h fun t o h => fb t o h K)
    | _ => False
def loopK (an : Ann) (m n : Nat) (J : SK) (lt : SK) (t2 : List SV) (o2 : List (Option SObj)) (K : SX → SK) : SX → SK := fun x t' o' h' => match x with
  | .normal => meetK an.slots m n t2 o2 an.lists t' o' fun t' o' => match okS n t' an.slots (o'.take n) with
    | true => nrmKs (pickS t' an.slots) fun vs' => nrmOs (o'.take n) fun o' => J vs' o' h' ∧ lt vs' o' h'
    | false => False
  | x => K x t' o' h'
def loopC (c : Cfg) (b : Code) (fb : SW) : SW := fun t o h K => match annOf c.ann (firstRegion b) with
    | none => False
    | some an => match an.slots.all (mods b).contains with
      | false => False
      | true => retagK an.lists t o fun t1 o1 => havocK t1 (mods b) fun th => match slotsIn an.lists (mods b) && (an.lists.isEmpty || (tagsL th).all (fun a => Nat.blt a o.length)) with
        | false => False
        | true => ∃ (J : SK) (m : List SV → List (Option SObj) → Hp → Nat),
          (okS o1.length t1 an.slots o1 = true ∧ nrmKs (pickS t1 an.slots) fun vs => nrmOs o1 fun o1 => J vs o1 h) ∧
          ∀ vs o2 h1, HLe h h1 → J vs o2 h1 →
            refillK th an.slots vs fun t2 => forceOs o2 fun o2 => fb t2 o2 h1 (loopK an o.length o1.length J (fun vs' o' h' => m vs' o' h' < m vs o2 h1) t2 o2 K)
def rangeEnd (ls : List (Plc × TypeId × Nat)) (m n : Nat) (t1 : List SV) (o2 : List (Option SObj)) (J : List (Option SObj) → Hp → Prop) (K : SX → SK) : SX → SK := fun z t' o' h' => match z with
  | .normal => meetK [] m n t1 o2 ls t' o' fun _ o' => match belObjs n (o'.take n) && Nat.beq (o'.take n).length n with
    | true => nrmOs (o'.take n) fun o' => J o' h'
    | false => False
  | z => K z t1 o' h'
def assignK (fb : SW) (K : SX → SK) : SX → SK := fun z t3 o3 h3 => match z with
  | .normal => fb t3 o3 h3 K
  | _ => False
def rangeC (P : Program) (c : Cfg) (g : Operand) (ps : Array Tmp) (assign body : Code) (fa fb : SW) : SW := fun t o h K => match c.round with
    | true => False
    | false => match ev t g with
      | .func (.func k) [] cap => match slotless (listsOf c assign body) with
          | false => False
          | true => retagK (listsOf c assign body) t o fun t1 o1 => swpCap t1 o1 cap fun ccap objs om =>
            ∃ (A : Type) (encs : A → List SV) (N : Nat) (S Sp : List (List SV) → Prop), ISpec P k encs N ccap objs h S Sp ∧
            ∃ J : List (List SV) → List (Option SObj) → Hp → Prop, (belObjs o1.length om = true ∧ nrmOs om fun om => J [] om h) ∧
            (∀ pre x o2 h1, HLe h h1 → pre.length < N → Sp (pre ++ [encs x]) → J pre o2 h1 → forceVs (encs x) fun xs => match Nat.beq xs.length ps.size && belL 0 xs with
              | false => False
              | true => refillK t1 ps.toList xs fun t2 => forceOs o2 fun o2 => fa t2 o2 h1 (assignK fb (rangeEnd (listsOf c assign body) o.length o1.length t1 o2 (J (pre ++ [encs x])) K))) ∧
            (∀ xs o2 h1, HLe h h1 → S xs → J xs o2 h1 → forceOs o2 fun o2 => K .normal t1 o2 h1)
      | _ => False

def swp (P : Program) (c : Cfg) : Code → List SV → List (Option SObj) → Hp → (SX → SK) → Prop
  | .skip, t, o, h, K => K .normal t o h
  | .label _, t, o, h, K => K .normal t o h
  | .ret, t, o, h, K => K .ret t o h
  | .exit id, t, o, h, K => K (.exit id) t o h
  | .region _ ops false, t, o, h, K => sops P c (gsOf ops ops.toList) ops ops.toList t o h (K .normal)
  | .region id ops true, t, o, h, K => drawC P c id ops t o h K
  | .seq a b, t, o, h, K => seqC c a b (swp P c a) (swp P c b) t o h K
  | .cond x a b, t, o, h, K => condC x (swp P c a) (swp P c b) t o h K
  | .block id b, t, o, h, K => swp P c b t o h (blockK id K)
  | .loop b, t, o, h, K => loopC c b (swp P c b) t o h K
  | .scope b, t, o, h, K => swp P c b t o h K
  | .rangeFunc g ps assign body, t, o, h, K => rangeC P c g ps assign body (swp P { c with round := true } assign) (swp P { c with round := true } body) t o h K
  | _, _, _, _, _ => False

theorem drawD_eq {P : Program} {c : Cfg} {id : Nat} {ops : Array Oper} {t : List SV} {o : List (Option SObj)} {h : Hp} {K : SX → SK} : drawD P c id ops t o h K = (match noDefer ops.toList with
    | false => False
    | true => match firstLoud (c.loud.contains id) ops.toList 0 with
      | none => ClosedB (P.follows .mixedOrders && Region.lexB .any ops) ∧ sopsQ P c (gsOf ops ops.toList) ops ops.toList t o h (K .normal)
      | some n => ClosedB (P.follows .mixedOrders && Region.lexTailB .any ops n) ∧
          sopsQ P c (gsOf ops ops.toList) ops (ops.toList.take n) t o h fun t o h => sops P c (gsOf ops ops.toList) ops (ops.toList.drop n) t o h (K .normal)) := rfl
theorem swp_draw_eq {P : Program} {c : Cfg} {id : Nat} {ops : Array Oper} {t : List SV} {o : List (Option SObj)} {h : Hp} {K : SX → SK} : swp P c (.region id ops true) t o h K = drawC P c id ops t o h K := rfl
theorem swp_seq_eq {P : Program} {c : Cfg} {a b : Code} {t : List SV} {o : List (Option SObj)} {h : Hp} {K : SX → SK} : swp P c (.seq a b) t o h K = (match annOf c.cut (firstRegion b) with
    | none => swp P c a t o h fun x t o h => match x with
      | .normal => swp P c b t o h K
      | x => K x t o h
    | some an => match an.slots.all (mods a).contains with
      | false => False
      | true => ∃ J : SK,
        (swp P c a t o h fun x t' o' h' => match x with
          | .normal => match okS o.length t' an.slots (o'.take o.length) with
            | true => nrmKs (pickS t' an.slots) fun vs => nrmOs (o'.take o.length) fun o' => J vs o' h'
            | false => False
          | x => K x t' o' h') ∧
        ∀ vs o' h', HLe h h' → J vs o' h' →
          havocK t (mods a) fun t => refillK t an.slots vs fun t => forceOs o' fun o => swp P c b t o h' K) := rfl
theorem swp_cond_eq {P : Program} {c : Cfg} {x : Operand} {a b : Code} {t : List SV} {o : List (Option SObj)} {h : Hp} {K : SX → SK} : swp P c (.cond x a b) t o h K = (match ev t x with
    | .bool true => swp P c a t o h K
    | .bool false => swp P c b t o h K
    | .bexp v => (v = true → putC x true t o h fun t o h => swp P c a t o h K) ∧ (v = false → putC x false t o h fun t o h => swp P c b t o h K)
    | _ => False) := rfl
theorem swp_block_eq {P : Program} {c : Cfg} {id : Nat} {b : Code} {t : List SV} {o : List (Option SObj)} {h : Hp} {K : SX → SK} : swp P c (.block id b) t o h K = (swp P c b t o h fun x t o h => match x with
    | .exit id' => match Nat.beq id' id with
      | true => K .normal t o h
      | false => K (.exit id') t o h
    | x => K x t o h) := rfl
theorem swp_loop_eq {P : Program} {c : Cfg} {b : Code} {t : List SV} {o : List (Option SObj)} {h : Hp} {K : SX → SK} : swp P c (.loop b) t o h K = (match annOf c.ann (firstRegion b) with
    | none => False
    | some an => match an.slots.all (mods b).contains with
      | false => False
      | true => retagK an.lists t o fun t1 o1 => match slotsIn an.lists (mods b) && (an.lists.isEmpty || (tagsL (havoc t1 (mods b))).all (fun a => Nat.blt a o.length)) with
        | false => False
        | true => ∃ (J : SK) (m : List SV → List (Option SObj) → Hp → Nat),
          (okS o1.length t1 an.slots o1 = true ∧ nrmKs (pickS t1 an.slots) fun vs => nrmOs o1 fun o1 => J vs o1 h) ∧
          ∀ vs o2 h1, HLe h h1 → J vs o2 h1 →
            havocK t1 (mods b) fun t2 => refillK t2 an.slots vs fun t2 => forceOs o2 fun o2 => swp P c b t2 o2 h1 fun x t' o' h' => match x with
              | .normal => meetK an.slots o.length o1.length t2 o2 an.lists t' o' fun t' o' => match okS o1.length t' an.slots (o'.take o1.length) with
                | true => nrmKs (pickS t' an.slots) fun vs' => nrmOs (o'.take o1.length) fun o' => J vs' o' h' ∧ m vs' o' h' < m vs o2 h1
                | false => False
              | x => K x t' o' h') := by
  show loopC c b (swp P c b) t o h K = _
  unfold loopC
  simp only [havocK_eq]
  rfl
theorem swp_scope_eq {P : Program} {c : Cfg} {b : Code} {t : List SV} {o : List (Option SObj)} {h : Hp} {K : SX → SK} : swp P c (.scope b) t o h K = (swp P c b t o h K) := rfl
theorem swp_range_eq {P : Program} {c : Cfg} {g : Operand} {ps : Array Tmp} {assign body : Code} {t : List SV} {o : List (Option SObj)} {h : Hp} {K : SX → SK} : swp P c (.rangeFunc g ps assign body) t o h K = (match c.round with
    | true => False
    | false => match ev t g with
      | .func (.func k) [] cap => match slotless (listsOf c assign body) with
          | false => False
          | true => retagK (listsOf c assign body) t o fun t1 o1 => swpCap t1 o1 cap fun ccap objs om =>
            ∃ (A : Type) (encs : A → List SV) (N : Nat) (S Sp : List (List SV) → Prop), ISpec P k encs N ccap objs h S Sp ∧
            ∃ J : List (List SV) → List (Option SObj) → Hp → Prop, (belObjs o1.length om = true ∧ nrmOs om fun om => J [] om h) ∧
            (∀ pre x o2 h1, HLe h h1 → pre.length < N → Sp (pre ++ [encs x]) → J pre o2 h1 → forceVs (encs x) fun xs => match Nat.beq xs.length ps.size && belL 0 xs with
              | false => False
              | true => refillK t1 ps.toList xs fun t2 => forceOs o2 fun o2 => swp P { c with round := true } assign t2 o2 h1 fun z t3 o3 h3 => match z with
                | .normal => swp P { c with round := true } body t3 o3 h3 fun z t' o' h' => match z with
                  | .normal => meetK [] o.length o1.length t1 o2 (listsOf c assign body) t' o' fun _ o' => match belObjs o1.length (o'.take o1.length) && Nat.beq (o'.take o1.length).length o1.length with
                    | true => nrmOs (o'.take o1.length) fun o' => J (pre ++ [encs x]) o' h'
                    | false => False
                  | z => K z t1 o' h'
                | _ => False) ∧
            (∀ xs o2 h1, HLe h h1 → S xs → J xs o2 h1 → forceOs o2 fun o2 => K .normal t1 o2 h1)
      | _ => False) := rfl

def sRes (P : Program) (t : List SV) (o : List (Option SObj)) : List ResultVar → Option (List SV)
  | [] => some []
  | .tmp d :: r => match t.getD d .junk, sRes P t o r with
    | .junk, _ => none
    | v, some l => some (v :: l)
    | _, none => none
  | .cell a ty :: r => match t.getD a .junk with
    | .ptr tag off => match sLoad P ⟨t, o, fun _ => none⟩ ty (.ptr tag off), sRes P t o r with
      | .val none .junk, _ => none
      | .val none v, some l => some (v :: l)
      | _, _ => none
    | _ => none

/-- What is left of the objects where a function returns: what it was handed, and what can be reached. -/
def pickO (o : List (Option SObj)) (ts : List Nat) : List Nat → Option (List (Option SObj))
  | [] => some []
  | t :: r => match o[t]? with
    | some none => match pickO o ts r with
      | some l => some (none :: l)
      | none => none
    | some (some (.cells ty cs)) => match (tagsL cs).all ts.contains with
      | true => match pickO o ts r with
        | some l => some (some (.cells ty (renL ts.idxOf cs)) :: l)
        | none => none
      | false => none
    | some (some (.olist a b c d)) => match pickO o ts r with
      | some l => some (some (.olist a b c d) :: l)
      | none => none
    | _ => none
def tagsOs : List (Option SObj) → List Nat
  | [] => []
  | some (.cells _ cs) :: r => tagsL cs ++ tagsOs r
  | _ :: r => tagsOs r
def firstN : List SObj → Nat → List Nat
  | [], _ => []
  | _ :: r, n => n :: firstN r (n + 1)

def one : List SV → SV
  | [x] => x
  | l => .tuple l

def finF (objs : List SObj) (v : SV) (o : List (Option SObj)) (k : SV → List (Option SObj) → Prop) : Prop :=
  go v o k (reach o 200 (tagsOs (o.take objs.length) ++ tags v) (firstN objs 0))
where
  go (v : SV) (o : List (Option SObj)) (k : SV → List (Option SObj) → Prop) (ts : List Nat) : Prop :=
    match (tags v).all ts.contains && (nodupB ts && (Nat.ble objs.length o.length && Nat.ble objs.length ts.length && (firstN objs 0).all fun i => Nat.beq (ts.getD i o.length) i)) with
    | false => False
    | true => match pickO o ts ts with
      | none => False
      | some o' => nrmK (ren ts.idxOf v) fun v => nrmOs o' fun o => k v o

def swpF (P : Program) (c : Cfg) (fn : Func) (args : List SV) (objs : List SObj) (h : Hp) (post : SV → List (Option SObj) → Hp → Prop) : Prop :=
  match fn.body with
  | none => False
  | some code => forceVs (args ++ List.replicate (fn.ntmps - args.length) .junk) fun t => forceOs (objs.map some) fun o => swp P c code t o h fun x t o h => match x with
    | .exit _ => False
    | _ => match sRes P t o fn.results.toList with
      | some l => finF objs (one l) o fun v o => post v o h
      | none => False

/-- An iterator's body. -/
def swpI (P : Program) (c : Cfg) (fn : Func) {A : Type} (encs : A → List SV) (N : Nat) (cap : List SV) (objs : List SObj) (h : Hp) (S Sp : List (List SV) → Prop) : Prop :=
  match fn.body, fn.results.toList with
  | some code, [] => ∀ yl : Nat, forceVs ((.func (.yield yl) [] [] :: cap) ++ List.replicate (fn.ntmps - (cap.length + 1)) .junk) fun t => forceOs (objs.map some ++ [some (.ghost false [])]) fun o =>
      swp P { c with yl := yl, yok := fun xs a => (∃ x, a = encs x) ∧ Sp (xs ++ [a]), yN := N } code t o h fun x _ o _ => match x with
        | .exit _ => False
        | _ => match findGhost o 0 with
          | some (_, s, xs) => s = false → S xs
          | none => False
  | _, _ => False

end Go.Pw
