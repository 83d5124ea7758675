import Derived.WalkKit
import Derived.DeepKeys3
import Derived.ArgAppend
import Derived.TacticsIn
import Derived.StillTail
import Derived.RangeFuncLeaves
import Derived.Lib.Strings
import Derived.Scope
import Derived.ChangeKeysEq
import Derived.LaidEql
import Derived.Below
import Derived.Lib.AppendStr
import Derived.Lib.UnsafeStr
set_option linter.unusedSimpArgs false
set_option linter.unusedVariables false
namespace Go.Cx
theorem ya0:type_of% @Option.some.injEq:=@Option.some.injEq
theorem ya1:type_of% @List.length_append:=@List.length_append
theorem ya2:type_of% @Bool.and_eq_true:=@Bool.and_eq_true
theorem ya3:type_of% @Option.map_eq_some_iff:=@Option.map_eq_some_iff
theorem ya4:type_of% @List.mem_cons_of_mem:=@List.mem_cons_of_mem
theorem ya5:type_of% @List.mem_cons_self:=@List.mem_cons_self
theorem ya7:type_of% @List.length_cons:=@List.length_cons
theorem ya8:type_of% @List.getD_eq_getElem?_getD:=@List.getD_eq_getElem?_getD
theorem ya9:type_of% @Nat.le_of_ble_eq_true:=@Nat.le_of_ble_eq_true
theorem yb0:type_of% @Nat.eq_of_beq_eq_true:=@Nat.eq_of_beq_eq_true
theorem yb1:type_of% @Nat.ble_eq_true_of_le:=@Nat.ble_eq_true_of_le
theorem yb2:type_of% @List.length_nil:=@List.length_nil
theorem yb3:type_of% @List.flatten_cons:=@List.flatten_cons
theorem yb5:type_of% @List.getElem?_eq_getElem:=@List.getElem?_eq_getElem
theorem yb7:type_of% @List.length_map:=@List.length_map
theorem yb8:type_of% @List.getElem?_append_left:=@List.getElem?_append_left
theorem yb9:type_of% @List.getElem?_map:=@List.getElem?_map
theorem yc1:type_of% @List.append_assoc:=@List.append_assoc
theorem yc2:type_of% @List.append_nil:=@List.append_nil
theorem yc3:type_of% @List.mem_append_right:=@List.mem_append_right
theorem yc4:type_of% @Prod.mk.injEq:=@Prod.mk.injEq
theorem yc5:type_of% @Option.map_some:=@Option.map_some
theorem yc6:type_of% @List.getElem?_cons_succ:=@List.getElem?_cons_succ
theorem yc7:type_of% @List.mem_singleton:=@List.mem_singleton
theorem yc8:type_of% @List.getElem?_set:=@List.getElem?_set
theorem yc9:type_of% @Option.bind_eq_some_iff:=@Option.bind_eq_some_iff
theorem yd0:type_of% @List.getElem?_append_right:=@List.getElem?_append_right
theorem yd2:type_of% @Nat.mul_le_mul_right:=@Nat.mul_le_mul_right
open Go
inductive CV where
 |bool (b:Bool)
 |int (k:IntKind) (n:Int)
 |str (s:List Nat)
 |agg (cs:List CV)
 |tup (vs:List CV)
 |ptr (t off:Nat)
 |slc (t off n c:Nat)
 |opn (t k n:Nat)
 |emp (t k a:Nat)
 |fn (f:FuncId) (first captured:List CV)
 |yld (l:Nat)
 |map (t:Nat)
 |ifc (ty:TypeId) (v:CV)
 |nilp
 |nils
 |nilf
 |nilm
 |nili
 |res (x:Int) (k r:Nat) (h:x.emod k=r)
 |void (a:Addr)
 deriving Inhabited
inductive Tr (α : Type) where
 |nil
 |node (l:Tr α) (v:Option α) (r:Tr α)
 deriving Inhabited
noncomputable def Tr.get{α : Type}(t:Tr α):Nat->Option α :=
 Tr.rec (motive:=fun _=>Nat->Option α) (fun _=>none)
  (fun _ v _ gl gr n=>Nat.rec (motive:=fun _=>Option α) v (fun k _=>Bool.rec (motive:=fun _=>Option α) (gr (Nat.div k 2)) (gl (Nat.div k 2)) (Nat.beq (Nat.mod k 2) 0)) n) t
noncomputable def Tr.set{α : Type}(f:Nat)(t:Tr α)(n:Nat)(x:Option α):Tr α :=
 Nat.rec (motive:=fun _=>Tr α -> Nat->Tr α) (fun t _=>t)
  (fun _ ih t n=>Nat.rec (motive:=fun _=>Tr α)
   (Tr.rec (motive:=fun _=>Tr α) (.node .nil x .nil) (fun l _ r _ _=>.node l x r) t)
   (fun k _=>Bool.rec (motive:=fun _=>Tr α)
    (Tr.rec (motive:=fun _=>Tr α) (.node .nil none (ih .nil (Nat.div k 2))) (fun l v r _ _=>.node l v (ih r (Nat.div k 2))) t)
    (Tr.rec (motive:=fun _=>Tr α) (.node (ih .nil (Nat.div k 2)) none .nil) (fun l v r _ _=>.node (ih l (Nat.div k 2)) v r) t)
    (Nat.beq (Nat.mod k 2) 0)) n) f t n
structure Tmps where
 sz:Nat
 tr:Tr CV
 deriving Inhabited
noncomputable def Tmps.get(t:Tmps)(i:Nat):Option CV:=Tmps.rec (motive:=fun _=>Option CV) (fun sz tr=>Bool.rec (motive:=fun _=>Option CV) none (tr.get i) (Nat.ble (Nat.succ i) sz)) t
noncomputable def Tmps.set(t:Tmps)(i:Nat)(v:CV):Tmps:=Tmps.rec (motive:=fun _=>Tmps) (fun sz tr=>⟨sz,tr.set (Nat.succ i) i (some v)⟩) t
noncomputable def Tmps.unset(t:Tmps)(i:Nat):Tmps:=Tmps.rec (motive:=fun _=>Tmps) (fun sz tr=>⟨sz,tr.set (Nat.succ i) i none⟩) t
inductive CO where
 |cells (ty:TypeId) (cs:List CV)
 |opn (ty:TypeId) (sz:Nat) (cs:List CV)
 |map (es:List (CV×CV×Nat)) (clock:Nat)
 |loop (st:LoopState) (pending:Option Code) (t:Tmps) (params:List Tmp) (assign body:Code) (defers:Nat)
 |dfr (live:Bool)
 |ro (cs:List CV)
 deriving Inhabited
structure Mem where
 nxt:Nat
 tr:Tr CO
 deriving Inhabited
noncomputable def Mem.get(m:Mem)(t:Nat):Option CO:=m.tr.get t
noncomputable def Mem.put(m:Mem)(t:Nat)(o:CO):Mem:=⟨m.nxt,m.tr.set (t+1) t (some o)⟩
noncomputable def Mem.kill(m:Mem)(t:Nat):Mem:=⟨m.nxt,m.tr.set (t+1) t none⟩
noncomputable def Mem.newAt(m:Mem)(T:Nat)(o:CO):Mem:=⟨Bool.rec (motive:=fun _=>Nat) (Nat.succ T) m.nxt (Nat.blt T m.nxt),m.tr.set (T+1) T (some o)⟩
noncomputable def Mem.new(m:Mem)(o:CO):Mem:=⟨m.nxt+1,m.tr.set (m.nxt+1) m.nxt (some o)⟩
noncomputable def Mem.up(m:Mem):Mem:=⟨m.nxt+1,m.tr⟩
inductive COut where
 |no (why:String)
 |val (v:CV)
 |mem (v:CV) (m:Mem)
 |call (f:FuncId) (args:List CV)
 |yield (l:Nat) (args:List CV)
 |defer (f:FuncId) (args:List CV)
 |recover
 |panic (v:CV)
noncomputable def zam:CV:=.tup []
noncomputable def nth{α : Type}(l:List α):Nat->Option α :=
 List.rec (motive:=fun _=>Nat->Option α) (fun _=>none) (fun x _ ih n=>Nat.rec (motive:=fun _=>Option α) (some x) (fun k _=>ih k) n) l
noncomputable def zxo:IntKind->Nat
 |.i8=>0 |.i16=>1 |.i32=>2 |.i64=>3 |.u8=>4 |.u16=>5 |.u32=>6 |.u64=>7
noncomputable def kEq(a b:IntKind):Bool:=Nat.beq (zxo a) (zxo b)
noncomputable def zxD:IntKind->Nat
 |.i8=>128 |.i16=>32768 |.i32=>2147483648 |.i64=>9223372036854775808
 |.u8=>256 |.u16=>65536 |.u32=>4294967296 |.u64=>18446744073709551616
noncomputable def zkg(k:IntKind)(n:Int):Int:=
 match n with
 |.ofNat a=>match Nat.blt a (zxD k) with
  |true=>.ofNat a
  |false=>k.wrap (.ofNat a)
 |.negSucc a=>k.wrap (.negSucc a)
noncomputable def ieq:Int->Int->Bool
 |.ofNat a,.ofNat b=>Nat.beq a b
 |.negSucc a,.negSucc b=>Nat.beq a b
 |_,_=>false
noncomputable def ilt:Int->Int->Bool
 |.ofNat a,.ofNat b=>Nat.blt a b
 |.negSucc a,.negSucc b=>Nat.blt b a
 |.negSucc _,.ofNat _=>true
 |.ofNat _,.negSucc _=>false
noncomputable def zwS:Value->Option CV
 |.bool b=>some (.bool b)
 |.int k n=>some (.int k n)
 |.string s=>some (.str (s.data.toList.map UInt8.toNat))
 |.func (.func f) ⟨[]⟩ ⟨[]⟩=>some (.fn f [] [])
 |.pointer none=>some .nilp
 |.slice none 0 0=>some .nils
 |.nilFunc=>some .nilf
 |.map none=>some .nilm
 |.nilIface=>some .nili
 |_=>none
noncomputable def zv4:List Value->Option (List CV)
 |[]=>some []
 |v::vs=>match zwS v with
  |some x=>match zv4 vs with
   |some xs=>some (x::xs)
   |none=>none
  |none=>none
noncomputable def ofV:Value->Option CV
 |.agg cs=>match zv4 cs.toList with
  |some l=>some (.agg l)
  |none=>none
 |v=>zwS v
noncomputable def zdT(P:Program)(t:TypeId):Option (Option Nat):=
 match P.underlying t with
 |some (.struct _)=>match P.info? t with |some i=>some (some i.size) |none=>none
 |some (.array _ _)=>match P.info? t with |some i=>some (some i.size) |none=>none
 |some _=>some none
 |none=>none
noncomputable def zcZ(cs:List CV)(off n:Nat):Option (List CV):=
 match Nat.ble (off+n) cs.length with
 |true=>some ((cs.drop off).take n)
 |false=>none
noncomputable def zdW(m:Mem)(t:Nat):Option (List CV):=
 match m.get t with
 |some (.cells _ cs)=>some cs
 |some (.opn _ _ cs)=>some cs
 |some (.ro cs)=>some cs
 |_=>none
noncomputable def part(P:Program)(t:TypeId)(cs:List CV)(off:Nat):Option CV:=
 match zdT P t with
 |some none=>nth cs off
 |some (some n)=>match zcZ cs off n with
  |some l=>some (.agg l)
  |none=>none
 |none=>none
noncomputable def zeO:CV->Option (List CV)
 |.agg cs=>some cs
 |.tup _=>none
 |v=>some [v]
noncomputable def one:CV->Bool
 |.agg _=>false
 |.tup _=>false
 |_=>true
noncomputable def zax(cs:List CV):Nat->List CV->List CV
 |_,[]=>cs
 |off,v::vs=>zax (cs.set off v) (off+1) vs
noncomputable def wr(m:Mem)(t off:Nat)(vs:List CV):Option Mem:=
 match vs.all one with
 |false=>none
 |true=>match m.get t with
  |some (.cells ty cs)=>match Nat.ble (off+vs.length) cs.length with
   |true=>some (m.put t (.cells ty (zax cs off vs)))
   |false=>none
  |some (.opn ty sz cs)=>match Nat.ble (off+vs.length) cs.length with
   |true=>some (m.put t (.opn ty sz (zax cs off vs)))
   |false=>none
  |_=>none
noncomputable def zjc:List Nat->List Nat->Bool
 |[],[]=>true
 |a::x,b::y=>match Nat.beq (a%256) (b%256) with
  |true=>zjc x y
  |false=>false
 |_,_=>false
noncomputable def ltL:List Nat->List Nat->Bool
 |_,[]=>false
 |[],_::_=>true
 |a::x,b::y=>match Nat.blt (a%256) (b%256) with
  |true=>true
  |false=>match Nat.beq (a%256) (b%256) with
   |true=>ltL x y
   |false=>false
noncomputable def zl2:CV->CV->Option Bool
 |.int k a,.int k' b=>match kEq k k' with
  |true=>some (ieq a b)
  |false=>none
 |_,_=>none
noncomputable def zlv:CV->CV->Option Bool
 |.str a,.str b=>some (zjc a b)
 |_,_=>none
noncomputable def zh8:CV->CV->Option Bool
 |.bool a,.bool b=>some (match a with |true=>b |false => !b)
 |_,_=>none
noncomputable def zlC(P:Program)(el:TypeId):CV->CV->Option Bool
 |.nilp,.nilp=>some true
 |.ptr _ _,.nilp=>some false
 |.nilp,.ptr _ _=>some false
 |.ptr a b,.ptr a' b'=>match Nat.beq a a'&&Nat.beq b b',P.info? el with
  |true,some _=>some true
  |_,_=>none
 |_,_=>none
noncomputable def zrB(P:Program)(eq:TypeId->CV->CV->Option Bool)(t:TypeId)(v v':CV):Option Bool:=
 match P.info? t with
 |some i=>match i.comparable with
  |true=>eq t v v'
  |false=>none
 |none=>none
noncomputable def zrD(P:Program)(eq:TypeId->CV->CV->Option Bool):CV->CV->Option Bool
 |.nili,.nili=>some true
 |.nili,.ifc _ _=>some false
 |.ifc _ _,.nili=>some false
 |.ifc t v,.ifc t' v'=>match Nat.beq t t' with
  |true=>zrB P eq t v v'
  |false=>some false
 |_,_=>none
noncomputable def zr7:CV->CV->Option Bool
 |.nils,.nils=>some true
 |.slc _ _ _ _,.nils=>some false
 |.opn _ _ _,.nils=>some false
 |.emp _ _ _,.nils=>some false
 |.void _,.nils=>some false
 |_,_=>none
noncomputable def zwT:CV->CV->Option Bool
 |.fn _ _ _,.nilf=>some false
 |.nilf,.nilf=>some true
 |_,_=>none
noncomputable def ztb:CV->CV->Option Bool
 |.map _,.nilm=>some false
 |.nilm,.nilm=>some true
 |_,_=>none
noncomputable def ztY(P:Program)(eq:TypeId->CV->CV->Option Bool)(xs ys:List CV):List Field->Option Bool
 |[]=>some true
 |f::fs=>match f.name == "_" with
  |true=>none
  |false=>match part P f.type xs f.offset,part P f.type ys f.offset with
   |some a,some b=>match eq f.type a b with
    |some true=>ztY P eq xs ys fs
    |r=>r
   |_,_=>none
noncomputable def zfj(P:Program)(eq:TypeId->CV->CV->Option Bool)(t:TypeId)(fs:List Field):CV->CV->Option Bool
 |.agg xs,.agg ys=>match P.stoodInHeld t with
  |true=>none
  |false=>ztY P eq xs ys fs
 |_,_=>none
noncomputable def zwf(P:Program)(eq:TypeId->CV->CV->Option Bool)(e:TypeId)(sz:Nat)(xs ys:List CV):Nat->Nat->Option Bool
 |_,0=>some true
 |i,n+1=>match part P e xs (i*sz),part P e ys (i*sz) with
  |some a,some b=>match eq e a b with
   |some true=>zwf P eq e sz xs ys (i+1) n
   |r=>r
  |_,_=>none
noncomputable def ztM(P:Program)(eq:TypeId->CV->CV->Option Bool)(e:TypeId)(n:Nat):CV->CV->Option Bool
 |.agg xs,.agg ys=>match P.info? e with
  |some inf=>zwf P eq e inf.size xs ys 0 n
  |none=>none
 |_,_=>none
noncomputable def ceq(P:Program):Nat->TypeId->CV->CV->Option Bool
 |0,_=>fun _ _=>none
 |d+1,t=>match P.underlying t with
  |some (.int _)=>zl2
  |some .string=>zlv
  |some .bool=>zh8
  |some (.pointer el)=>zlC P el
  |some (.interface _)=>zrD P (ceq P d)
  |some (.slice _)=>zr7
  |some (.func _ _ _)=>zwT
  |some (.map _ _)=>ztb
  |some (.struct fs)=>zfj P (ceq P d) t fs.toList
  |some (.array n e)=>ztM P (ceq P d) e n
  |_=>fun _ _=>none
noncomputable def b2(op:BinOp)(k:IntKind)(x y:Int):Int:=
 let a:=BitVec.ofInt k.bits x
 let b:=BitVec.ofInt k.bits y
 k.wrap (match op with
  |.and=>a&&&b
  |.or=>a|||b
  |.xor=>a ^^^ b
  |_=>a &&& ~~~b).toNat
noncomputable def ofB:Bool->Option Bool->COut
 |true,some b=>.val (.bool (!b))
 |false,some b=>.val (.bool b)
 |_,none=>.no "equality"
noncomputable def zhm:CV->CV->Nat
 |.nili,.nili=>0
 |.agg _,.agg _=>1
 |_,_=>2
noncomputable def cEq(P:Program)(c neg:Bool)(t:TypeId)(x y:CV):COut:=
 match zhm x y with
 |0=>match c with
  |true=>ofB neg (ceq P 40 t x y)
  |false=>.no "two nil interfaces"
 |1=>match P.eqGuardType P.depth t with
  |true=>.no "interfaces in a struct"
  |false=>ofB neg (ceq P 40 t x y)
 |_=>ofB neg (ceq P 40 t x y)
noncomputable def zml(k:IntKind)(a b:Int):COut:=
 match ilt b 0 with
 |true=>.no "shift"
 |false=>.val (.int k (k.wrap (a*2 ^ (min b.toNat k.bits))))
noncomputable def zkX(k:IntKind)(a b:Int):COut:=
 match ilt b 0 with
 |true=>.no "shift"
 |false=>.val (.int k (a.fdiv (2 ^ (min b.toNat k.bits))))
noncomputable def zlX(k:IntKind)(a b:Int):COut:=
 match ieq b 0 with
 |true=>.no "division by zero"
 |false=>.val (.int k (zkg k (a.tdiv b)))
noncomputable def zlE(k:IntKind)(a b:Int):COut:=
 match ieq b 0 with
 |true=>.no "division by zero"
 |false=>.val (.int k (a.tmod b))
noncomputable def zpf(k:IntKind)(a b:Int):COut:=.val (.int k (zkg k (a+b)))
noncomputable def zo0(k:IntKind)(a b:Int):COut:=.val (.int k (zkg k (a - b)))
noncomputable def zoh(k:IntKind)(a b:Int):COut:=.val (.int k (zkg k (a*b)))
noncomputable def zrr(k:IntKind)(a b:Int):COut:=.val (.int k (b2 .and k a b))
noncomputable def zuX(k:IntKind)(a b:Int):COut:=.val (.int k (b2 .or k a b))
noncomputable def zqY(k:IntKind)(a b:Int):COut:=.val (.int k (b2 .xor k a b))
noncomputable def zik(k:IntKind)(a b:Int):COut:=.val (.int k (b2 .andNot k a b))
noncomputable def zoZ(_:IntKind)(a b:Int):COut:=.val (.bool (ieq a b))
noncomputable def zoQ(_:IntKind)(a b:Int):COut:=.val (.bool (!ieq a b))
noncomputable def zoP(_:IntKind)(a b:Int):COut:=.val (.bool (ilt a b))
noncomputable def zoO(_:IntKind)(a b:Int):COut:=.val (.bool (!ilt b a))
noncomputable def zoI(_:IntKind)(a b:Int):COut:=.val (.bool (ilt b a))
noncomputable def zn1(_:IntKind)(a b:Int):COut:=.val (.bool (!ilt a b))
noncomputable def same(f:IntKind->Int->Int->COut)(k k':IntKind)(a b:Int):COut:=
 match kEq k k' with
 |true=>f k a b
 |false=>.no "kinds"
noncomputable def zwz(f:IntKind->Int->Int->COut)(k _:IntKind)(a b:Int):COut:=f k a b
noncomputable def zp1:BinOp->IntKind->IntKind->Int->Int->COut
 |.shl=>zwz zml
 |.shr=>zwz zkX
 |.add=>same zpf
 |.sub=>same zo0
 |.mul=>same zoh
 |.quo=>same zlX
 |.rem=>same zlE
 |.and=>same zrr
 |.or=>same zuX
 |.xor=>same zqY
 |.andNot=>same zik
 |.eql=>same zoZ
 |.neq=>same zoQ
 |.lss=>same zoP
 |.leq=>same zoO
 |.gtr=>same zoI
 |.geq=>same zn1
noncomputable def zia(a b:List Nat):COut:=
 match Nat.ble (a.length+b.length) 1000000 with
 |true=>.val (.str (a++b))
 |false=>.no "long string"
noncomputable def zn0(a b:List Nat):COut:=.val (.bool (zjc a b))
noncomputable def zoN(a b:List Nat):COut:=.val (.bool (!(zjc a b)))
noncomputable def ztV(a b:List Nat):COut:=.val (.bool (ltL a b))
noncomputable def zup(a b:List Nat):COut:=.val (.bool (ltL a b||zjc a b))
noncomputable def zuj(a b:List Nat):COut:=.val (.bool (!(ltL a b||zjc a b)))
noncomputable def zub(a b:List Nat):COut:=.val (.bool (!ltL a b))
noncomputable def zrZ:BinOp->List Nat->List Nat->COut
 |.add=>zia
 |.eql=>zn0
 |.neq=>zoN
 |.lss=>ztV
 |.leq=>zup
 |.gtr=>zuj
 |.geq=>zub
 |_=>fun _ _=>.no "binop"
noncomputable def zf6(P:Program)(c:Bool):BinOp->TypeId->CV->CV->COut
 |.eql=>cEq P c false
 |.neq=>cEq P c true
 |_=>fun _ _ _=>.no "binop"
noncomputable def zpH(P:Program)(c:Bool)(op:BinOp)(t:TypeId):CV->CV->COut
 |.int k a,.int k' b=>zp1 op k k' a b
 |.str a,.str b=>zrZ op a b
 |.int _ _,_=>.no "binop"
 |.str _,_=>.no "binop"
 |.res _ _ _ _,_=>.no "binop"
 |x,y=>zf6 P c op t x y
noncomputable def cUn(op:UnOp)(x:CV):COut:=
 match op,x with
 |.not,.bool b=>.val (.bool (!b))
 |.neg,.int k n=>.val (.int k (zkg k (0 - n)))
 |_,_=>.no "unary"
noncomputable def elems(m:Mem)(sz:Nat):CV->Option (Nat×List CV)
 |.nils=>some (0,[])
 |.slc t off n _=>match m.get t with
  |some (.cells _ cs)=>match zcZ cs off (n*sz) with
   |some l=>some (n,l)
   |none=>none
  |some (.opn _ _ cs)=>match zcZ cs off (n*sz) with
   |some l=>some (n,l)
   |none=>none
  |some (.ro cs)=>match zcZ cs off (n*sz) with
   |some l=>some (n,l)
   |none=>none
  |_=>none
 |.opn t k n=>match m.get t with
  |some (.opn _ sz' cs)=>match Nat.beq sz' sz with
   |true=>match zcZ cs (k*sz) (n*sz) with
    |some l=>some (n,l)
    |none=>none
   |false=>none
  |_=>none
 |.emp _ _ _=>some (0,[])
 |.void _=>some (0,[])
 |_=>none
noncomputable def zeq:List CV->Option (List Nat)
 |[]=>some []
 |.int .u8 (.ofNat b)::r=>match zeq r with
  |some l=>some (b::l)
  |none=>none
 |_::_=>none
noncomputable def zj3(m:Mem)(x:CV):COut:=
 match elems m 1 x with
 |some (_,l)=>match zeq l with
  |some bs=>.val (.str bs)
  |none=>.no "bytes to string"
 |none=>.no "bytes to string: elements"
noncomputable def zg4(P:Program)(m:Mem)(t:TypeId)(tag off:Nat):COut:=
 match P.info? t,m.get tag with
 |some i,some (.cells _ cs)=>match Nat.blt 0 i.size&&Nat.blt off cs.length with
  |true=>.val (.ptr tag off)
  |false=>.no "unsafe pointer"
 |_,_=>.no "unsafe pointer"
noncomputable def zdY(P:Program)(m:Mem)(u:TypeId)(tag off:Nat):COut:=
 match P.info? u,m.get tag with
 |some _,some (.cells ty cs)=>match liesAt P P.depth ty (cs.length / P.cellsOf ty) off u 1 with
  |true=>.val (.ptr tag off)
  |false=>.no "unsafe pointer back"
 |_,_=>.no "unsafe pointer back"
noncomputable def za3(P:Program)(T:Nat)(m:Mem)(src dst:TypeId)(x:CV):COut:=
 match P.underlying src,P.underlying dst,x with
 |some _,some (.int k),.int _ n=>.val (.int k (zkg k n))
 |some _,some .string,.str s=>.val (.str s)
 |some .string,some (.slice el),.str s=>match P.underlying el,Nat.ble s.length 1000000 with
  |some (.int .u8),true=>.mem (.opn T 0 s.length) (m.newAt T (.opn el 1 (s.map fun b=>.int .u8 (.ofNat (b%256)))))
  |_,_=>.no "string to slice"
 |some (.slice el),some .string,x=>match P.underlying el with
  |some (.int .u8)=>zj3 m x
  |_=>.no "slice to string"
 |some _,some .string,.int _ (.ofNat n)=>match Nat.blt n 128 with
  |true=>.val (.str [n])
  |false=>.no "rune to string"
 |some (.pointer t),some .unsafePointer,.ptr tag off=>zg4 P m t tag off
 |some .unsafePointer,some (.pointer u),.ptr tag off=>zdY P m u tag off
 |_,_,_=>.no "convert"
noncomputable def zuP(i:CV):CV->COut
 |.str s=>match i with
  |.int _ (.ofNat n)=>match nth s n with
   |some b=>.val (.int .u8 (.ofNat (b%256)))
   |none=>.no "string index"
  |_=>.no "string index"
 |_=>.no "index"
noncomputable def zvB(P:Program)(elem:TypeId)(len:Nat)(i:CV):CV->COut
 |.agg cs=>match i with
  |.int _ (.ofNat n)=>match P.info? elem with
   |some inf=>match Nat.blt n len with
    |true=>match part P elem cs (n*inf.size) with
     |some v=>.val v
     |none=>.no "array part"
    |false=>.no "array index"
   |none=>.no "type"
  |_=>.no "array index"
 |_=>.no "index"
noncomputable def zdK(P:Program)(t:TypeId)(x i:CV):COut:=
 match P.underlying t with
 |some .string=>zuP i x
 |some (.array len elem)=>zvB P elem len i x
 |_=>.no "index"
noncomputable def zp3(P:Program)(elem:TypeId)(tag off n:Nat):CV->COut
 |.int _ (.ofNat k)=>match P.info? elem with
  |some inf=>match Nat.blt k n with
   |true=>.val (.ptr tag (Nat.add off (Nat.mul k inf.size)))
   |false=>.no "slice index"
  |none=>.no "type"
 |_=>.no "index"
noncomputable def zpS(P:Program)(elem:TypeId)(m:Mem)(tag e n:Nat):CV->COut
 |.int _ (.ofNat k)=>match P.info? elem with
  |some inf=>match m.get tag with
   |some (.opn _ sz _)=>match Nat.blt k n&&Nat.beq sz inf.size with
    |true=>.val (.ptr tag (Nat.mul (Nat.add e k) sz))
    |false=>.no "slice index"
   |_=>.no "slice gone"
  |none=>.no "type"
 |_=>.no "index"
noncomputable def zg9(P:Program)(elem:TypeId)(m:Mem)(i:CV):CV->COut
 |.slc tag off n _=>zp3 P elem tag off n i
 |.opn tag e n=>zpS P elem m tag e n i
 |_=>.no "indexAddr"
noncomputable def zvG(P:Program)(elem:TypeId)(len:Nat)(i:CV):CV->COut
 |.ptr tag off=>zp3 P elem tag off len i
 |_=>.no "indexAddr"
noncomputable def zai(P:Program)(m:Mem)(t:TypeId)(x i:CV):COut:=
 match P.underlying t with
 |some (.slice elem)=>zg9 P elem m i x
 |some (.array len elem)=>zvG P elem len i x
 |_=>.no "indexAddr"
noncomputable def bound(x:Option CV)(d:Nat):Option Nat:=
 match x with
 |none=>some d
 |some (.int _ (.ofNat n))=>some n
 |some _=>none
noncomputable def zs2(lo hi:Option CV):CV->COut
 |.str s=>match bound lo 0,bound hi s.length with
  |some a,some b=>match Nat.ble a b&&Nat.ble b s.length with
   |true=>.val (.str ((s.drop a).take (b - a)))
   |false=>.no "string slice bounds"
  |_,_=>.no "string slice"
 |_=>.no "slice"
noncomputable def znp(inf:TypeInfo)(lo hi:Option CV)(tag off n c:Nat):COut:=
 match bound lo 0,bound hi n with
 |some a,some b=>match Nat.ble a b&&Nat.ble b c with
  |true=>.val (.slc tag (match Nat.beq c a with |true=>off |false=>off+a*inf.size) (b - a) (c - a))
  |false=>.no "slice bounds"
 |_,_=>.no "slice bounds"
noncomputable def zvb(inf:TypeInfo)(lo hi:Option CV)(sz:Nat)(cs:List CV)(tag k n:Nat):COut:=
 match bound lo 0,bound hi n with
 |some a,some b=>match Nat.ble a b&&(Nat.ble ((k+b)*sz) cs.length&&(Nat.beq sz inf.size&&Nat.blt 0 sz)) with
  |true=>match Nat.beq a 0||Nat.blt ((k+a)*sz) cs.length with
   |true=>.val (.opn tag (k+a) (b - a))
   |false=>.val (.emp tag k a)
  |false=>.no "open slice bounds"
 |_,_=>.no "slice bounds"
noncomputable def zsH(lo hi:Option CV):COut:=
 match bound lo 0,bound hi 0 with
 |some 0,some 0=>.val .nils
 |_,_=>.no "nil slice bounds"
noncomputable def zoo(a:Addr)(lo hi:Option CV):COut:=
 match bound lo 0,bound hi 0 with
 |some 0,some 0=>.val (.void a)
 |_,_=>.no "empty slice bounds"
noncomputable def zcs(inf:TypeInfo)(m:Mem)(lo hi:Option CV):CV->COut
 |.slc tag off n c=>znp inf lo hi tag off n c
 |.opn tag k n=>match m.get tag with
  |some (.opn _ sz cs)=>zvb inf lo hi sz cs tag k n
  |_=>.no "open slice gone"
 |.nils=>zsH lo hi
 |.void a=>zoo a lo hi
 |_=>.no "slice"
noncomputable def ztn(inf:TypeInfo)(n:Nat)(lo hi:Option CV):CV->COut
 |.ptr tag off=>znp inf lo hi tag off n n
 |_=>.no "slice"
noncomputable def zog(inf:TypeInfo)(lo:Option CV)(tag off c b mx:Nat):COut:=
 match bound lo 0 with
 |some a=>match Nat.ble a b&&(Nat.ble b mx&&Nat.ble mx c) with
  |true=>.val (.slc tag (match Nat.beq mx a with |true=>off |false=>off+a*inf.size) (b - a) (mx - a))
  |false=>.no "slice bounds"
 |none=>.no "slice bounds"
noncomputable def zrW(inf:TypeInfo)(lo:Option CV)(sz:Nat)(cs:List CV)(tag k b mx:Nat):COut:=
 match bound lo 0 with
 |some a=>match Nat.ble a b&&(Nat.ble b mx&&(Nat.ble ((k+mx)*sz) cs.length&&(Nat.beq sz inf.size&&Nat.blt 0 sz))) with
  |true=>.val (.slc tag (match Nat.beq mx a with |true=>k*sz |false=>(k+a)*sz) (b - a) (mx - a))
  |false=>.no "open slice bounds"
 |none=>.no "slice bounds"
noncomputable def ziU(lo:Option CV)(b mx:Nat):COut:=
 match bound lo 0,b,mx with
 |some 0,0,0=>.val .nils
 |_,_,_=>.no "nil slice bounds"
noncomputable def zkk(a:Addr)(lo:Option CV)(b mx:Nat):COut:=
 match bound lo 0,b,mx with
 |some 0,0,0=>.val (.void a)
 |_,_,_=>.no "empty slice bounds"
noncomputable def zgo(inf:TypeInfo)(m:Mem)(lo:Option CV)(b mx:Nat):CV->COut
 |.slc tag off _ c=>zog inf lo tag off c b mx
 |.opn tag k _=>match m.get tag with
  |some (.opn _ sz cs)=>zrW inf lo sz cs tag k b mx
  |_=>.no "open slice gone"
 |.nils=>ziU lo b mx
 |.void a=>zkk a lo b mx
 |_=>.no "full slice"
noncomputable def zfY(P:Program)(m:Mem)(t:TypeId)(x:CV)(lo hi:Option CV)(c:CV):COut:=
 match hi,c with
 |some (.int _ (.ofNat b)),.int _ (.ofNat mx)=>match P.underlying t with
  |some (.slice elem)=>match P.info? elem with
   |some inf=>zgo inf m lo b mx x
   |none=>.no "slice type"
  |_=>.no "full slice"
 |_,_=>.no "full slice"
noncomputable def zba(P:Program)(m:Mem)(t:TypeId)(x:CV)(lo hi mx:Option CV):COut:=
 match mx with
 |some c=>zfY P m t x lo hi c
 |none=>match P.underlying t with
  |some .string=>zs2 lo hi x
  |some (.slice elem)=>match P.info? elem with
   |some inf=>zcs inf m lo hi x
   |none=>.no "type"
  |some (.array n elem)=>match P.info? elem with
   |some inf=>ztn inf n lo hi x
   |none=>.no "type"
  |_=>.no "slice"
noncomputable def zq2:CV->COut
 |.str s=>.val (.int .i64 (.ofNat s.length))
 |_=>.no "len"
noncomputable def ztX:CV->COut
 |.slc _ _ n _=>.val (.int .i64 (.ofNat n))
 |.opn _ _ n=>.val (.int .i64 (.ofNat n))
 |.emp _ _ _=>.val (.int .i64 (.ofNat 0))
 |.void _=>.val (.int .i64 (.ofNat 0))
 |.nils=>.val (.int .i64 (.ofNat 0))
 |_=>.no "len"
noncomputable def zk7(m:Mem):CV->COut
 |.nilm=>.val (.int .i64 (.ofNat 0))
 |.map tag=>match m.get tag with
  |some (.map es _)=>.val (.int .i64 (.ofNat es.length))
  |_=>.no "map"
 |_=>.no "len"
noncomputable def ztd(P:Program)(m:Mem)(t:TypeId)(x:CV):COut:=
 match P.underlying t with
 |some .string=>zq2 x
 |some (.slice _)=>ztX x
 |some (.array n _)=>.val (.int .i64 (.ofNat n))
 |some (.map _ _)=>zk7 m x
 |_=>.no "len"
noncomputable def za5(P:Program)(s:TypeId)(x:CV)(f:Nat):COut:=
 match P.underlying s with
 |some (.struct fs)=>match nth fs.toList f with
  |some fd=>match P.info? fd.type with
   |some i=>match i.size with
    |0=>.no "a field without cells"
    |_+1=>match x with
     |.ptr t off=>.val (.ptr t (Nat.add off fd.offset))
     |_=>.no "fieldAddr"
   |none=>.no "type"
  |none=>.no "field"
 |_=>.no "fieldAddr"
noncomputable def zfx(P:Program)(t:TypeId)(x:CV)(f:Nat):COut:=
 match P.underlying t,x with
 |some (.struct fs),.agg cs=>match nth fs.toList f with
  |some fd=>match part P fd.type cs fd.offset with
   |some v=>.val v
   |none=>.no "field"
  |none=>.no "field"
 |_,_=>.no "field"
noncomputable def zdC(P:Program)(m:Mem)(t:TypeId)(x:CV):COut:=
 match x with
 |.ptr tag off=>match zdW m tag with
  |some cs=>match part P t cs off with
   |some v=>.val v
   |none=>.no "load: no such cell"
  |none=>.no "load: no such block"
 |_=>.no "load"
noncomputable def zaL(P:Program)(m:Mem)(t:TypeId)(x v:CV):COut:=
 match x,P.info? t,zeO v with
 |.ptr tag off,some inf,some vs=>match Nat.beq vs.length inf.size with
  |true=>match wr m tag off vs with
   |some m'=>.mem zam m'
   |none=>.no "store: no such cell"
  |false=>.no "store: size"
 |_,_,_=>.no "store"
noncomputable def zey(P:Program)(t:TypeId):Option (List CV):=
 match P.info? t with
 |some i=>match i.zero with
  |some z=>zv4 z.cells.toList
  |none=>none
 |none=>none
noncomputable def zhZ(P:Program)(t:TypeId):Option CV:=
 match P.info? t with
 |some i=>match i.zero with
  |some z=>ofV z
  |none=>none
 |none=>none
noncomputable def rep(z:List CV):Nat->List CV
 |0=>[]
 |n+1=>z++rep z n
noncomputable def zgu(place:Nat->Option (Nat×Nat))(cells:List CV):List (Nat×CV)->Option (List CV)
 |[]=>some cells
 |(i,v)::rest=>match place i,zeO v with
  |some (off,size),some vs=>match Nat.beq vs.length size&&Nat.ble (off+vs.length) cells.length with
   |true=>zgu place (zax cells off vs) rest
   |false=>none
  |_,_=>none
noncomputable def zds(P:Program)(fs:Array Field)(i:Nat):Option (Nat×Nat):=
 match nth fs.toList i with
 |some f=>some (f.offset,P.cellsOf f.type)
 |none=>none
noncomputable def zhG(P:Program):List Field->Bool
 |[]=>true
 |f::fs=>(P.info? f.type).isSome&&zhG P fs
noncomputable def zjt(P:Program)(t:TypeId)(parts:List (Nat×CV)):COut:=
 match zey P t with
 |none=>.no "zero"
 |some z=>match P.underlying t with
  |some (.struct fs)=>match zhG P fs.toList with
   |true=>match zgu (zds P fs) z parts with
    |some cs=>.val (.agg cs)
    |none=>.no "build"
   |false=>.no "build"
  |some (.array _ elem)=>match P.info? elem with
   |some i=>match zgu (fun k=>some (k*i.size,i.size)) z parts with
    |some cs=>.val (.agg cs)
    |none=>.no "build"
   |none=>.no "type"
  |_=>.no "build"
noncomputable def za0(P:Program)(T:Nat)(m:Mem)(t:TypeId)(len:Nat)(parts:List (Nat×CV)):COut:=
 match P.underlying t with
 |some (.slice elem)=>match P.info? elem,zey P elem with
  |some i,some z=>match Nat.blt 0 i.size&&(Nat.ble (len*i.size) 100000&&Nat.beq z.length i.size) with
   |true=>match zgu (fun k=>some (k*i.size,i.size)) (rep z len) parts with
    |some cs=>match cs.all one with
     |true=>.mem (.slc T 0 len len) (m.newAt T (.cells elem cs))
     |false=>.no "buildSlice"
    |none=>.no "buildSlice"
   |false=>.no "buildSlice"
  |_,_=>.no "type"
 |_=>.no "buildSlice"
noncomputable def zim(T:Nat)(m:Mem)(t:TypeId)(v:CV):COut:=
 match zeO v with
 |some vs=>match vs.all one with
  |true=>.mem (.ptr T 0) (m.newAt T (.cells t vs))
  |false=>.no "box"
 |none=>.no "box"
noncomputable def zan(P:Program)(T:Nat)(m:Mem)(t:TypeId)(l c:CV):COut:=
 match P.underlying t,l,c with
 |some (.slice elem),.int .i64 (.ofNat l),.int .i64 (.ofNat c)=>match P.info? elem,zey P elem with
  |some i,some z=>match Nat.blt 0 i.size&&(Nat.ble l c&&(Nat.ble c 100000&&(Nat.ble (c*i.bytes) 1000000000&&(Nat.beq z.length i.size&&z.all one)))) with
   |true=>.mem (.slc T 0 l c) (m.newAt T (.cells elem (rep z c)))
   |false=>.no "makeSlice"
  |_,_=>.no "type"
 |_,_,_=>.no "makeSlice"
noncomputable def zt5(bytes need:Nat):Bool:=Nat.ble need 1000000&&Nat.ble bytes 1000000
noncomputable def zit(T:Nat)(m:Mem)(elem:TypeId)(sz nx:Nat)(new old:List CV)(t off n c:Nat):COut:=
 match Nat.ble (n+nx) c with
 |true=>match wr m t (off+n*sz) new with
  |some m'=>.mem (.slc t off (n+nx) c) m'
  |none=>.no "append in place"
 |false=>.mem (.opn T 0 (n+nx)) (m.newAt T (.opn elem sz (old++new)))
noncomputable def zpR(T:Nat)(m:Mem)(elem:TypeId)(sz nx:Nat)(new old:List CV)(t k n:Nat):COut:=
 match m.get t with
 |some (.opn ty _ cs)=>match Nat.beq ty elem with
  |true=>match Nat.ble ((k+n+nx)*sz) cs.length with
   |true=>match wr m t ((k+n)*sz) new with
    |some m'=>.mem (.opn t k (n+nx)) m'
    |none=>.no "append in place"
   |false=>.mem (.opn T 0 (n+nx)) ((m.kill t).newAt T (.opn elem sz (old++new)))
  |false=>.no "append: row"
 |_=>.no "append: gone"
noncomputable def zwB(T:Nat)(m:Mem)(elem:TypeId)(sz nx:Nat)(new old:List CV):CV->COut
 |.nils=>.mem (.opn T 0 nx) (m.newAt T (.opn elem sz new))
 |.void _=>.mem (.opn T 0 nx) (m.newAt T (.opn elem sz new))
 |.slc t off n c=>zit T m elem sz nx new old t off n c
 |.opn t k n=>zpR T m elem sz nx new old t k n
 |_=>.no "append behind"
noncomputable def ap0:CV->COut
 |.slc t off n c=>match Nat.ble n c with
  |true=>.val (.slc t off n c)
  |false=>.no "append"
 |s=>.val s
noncomputable def zdm(P:Program)(T:Nat)(m:Mem)(ty T2:TypeId)(s x:CV):COut:=
 match Nat.beq ty T2 with
 |false=>.no "append: types"
 |true=>match P.underlying ty with
  |some (.slice elem)=>match P.info? elem,zey P elem with
   |some inf,some z=>match Nat.blt 0 inf.size&&Nat.beq z.length inf.size with
    |true=>match elems m inf.size x,elems m inf.size s with
     |some (nx,new),some (n,old)=>match zt5 inf.bytes (n+nx) with
      |true=>match nx with
       |0=>ap0 s
       |k+1=>zwB T m elem inf.size (k+1) new old s
      |false=>.no "append: long"
     |_,_=>.no "append: elements"
    |false=>.no "append: elements without cells"
   |_,_=>.no "type"
  |_=>.no "append"
noncomputable def zdp(P:Program)(T:Nat)(m:Mem)(ty T2:TypeId)(s:CV)(bs:List Nat):COut:=
 match P.underlying ty,P.underlying T2 with
 |some (.slice elem),some .string=>match P.info? elem,zey P elem with
  |some inf,some z=>match Nat.beq inf.size 1&&Nat.beq z.length 1 with
   |true=>match elems m 1 s with
    |some (n,old)=>match zt5 inf.bytes (n+bs.length) with
     |true=>match bs.length with
      |0=>ap0 s
      |k+1=>zwB T m elem 1 (k+1) (bs.map fun b=>.int .u8 (.ofNat (b%256))) old s
     |false=>.no "append: long"
    |none=>.no "append: elements"
   |false=>.no "append: no bytes"
  |_,_=>.no "type"
 |_,_=>.no "append: string"
noncomputable def zxs(m:Mem)(sz:Nat):CV->Option (Nat×List CV)
 |.str s=>match Nat.beq sz 1 with
  |true=>some (s.length,s.map fun b=>.int .u8 (.ofNat (b%256)))
  |false=>none
 |x=>elems m sz x
noncomputable def zro(P:Program)(m:Mem)(T _T2:TypeId)(d s:CV):COut:=
 match P.underlying T with
 |some (.slice elem)=>match P.info? elem with
  |some inf=>match zxs m inf.size s,elems m inf.size d with
   |some (ns,src),some (nd,_)=>match d with
    |.nils=>.val (.int .i64 0)
    |.slc t off _ _=>match wr m t off (src.take ((min ns nd)*inf.size)) with
     |some m'=>.mem (.int .i64 (.ofNat (min ns nd))) m'
     |none=>.no "copy"
    |.opn t k _=>match wr m t (k*inf.size) (src.take ((min ns nd)*inf.size)) with
     |some m'=>.mem (.int .i64 (.ofNat (min ns nd))) m'
     |none=>.no "copy"
    |_=>.no "copy"
   |_,_=>.no "copy: elements"
  |none=>.no "type"
 |_=>.no "copy"
noncomputable def zqm(P:Program)(m:Mem)(T:TypeId)(x:CV):COut:=
 match P.underlying T with
 |some (.slice elem)=>match P.info? elem,zey P elem with
  |some inf,some z=>match Nat.blt 0 inf.size&&Nat.beq z.length inf.size with
   |true=>match elems m inf.size x with
    |some (n,_)=>match n with
     |0=>.val zam
     |n+1=>match x with
      |.slc t off _ _=>match wr m t off (rep z (n+1)) with
       |some m'=>.mem zam m'
       |none=>.no "clear"
      |.opn t k _=>match wr m t (k*inf.size) (rep z (n+1)) with
       |some m'=>.mem zam m'
       |none=>.no "clear"
      |_=>.no "clear"
    |none=>.no "clear: elements"
   |false=>.no "clear: elements without cells"
  |_,_=>.no "type"
 |_=>.no "clear"
noncomputable def zpk(m:Mem)(t n e:Nat):Option CO->COut
 |some (.cells ty cs)=>match Nat.beq ty e,zcZ cs 0 n with
  |true,some l=>match zeq l with
   |some bs=>match bs.all fun b=>Nat.blt b 256 with
    |true=>.mem (.str bs) (m.kill t)
    |false=>.no "unsafe string: bytes"
   |none=>.no "unsafe string: bytes"
  |_,_=>.no "unsafe string: row"
 |some (.opn ty _ cs)=>match Nat.beq ty e,zcZ cs 0 n with
  |true,some l=>match zeq l with
   |some bs=>match bs.all fun b=>Nat.blt b 256 with
    |true=>.mem (.str bs) (m.kill t)
    |false=>.no "unsafe string: bytes"
   |none=>.no "unsafe string: bytes"
  |_,_=>.no "unsafe string: row"
 |_=>.no "unsafe string: no row"
noncomputable def zco(m:Mem):CV->COut
 |.nils=>.val .nilp
 |.slc t off _ (_+1)=>.val (.ptr t off)
 |.opn t 0 (_+1)=>match m.get t with
  |some (.opn _ _ (_::_))=>.val (.ptr t 0)
  |_=>.no "slice data"
 |_=>.no "slice data"
noncomputable def zcp(P:Program)(m:Mem)(pt:TypeId):CV->CV->COut
 |.ptr t 0,.int .i64 (.ofNat (n+1))=>match P.underlying pt with
  |some (.pointer e)=>match Nat.beq (P.cellsOf e) 1&&Nat.ble n 1000000 with
   |true=>zpk m t (n+1) e (m.get t)
   |false=>.no "unsafe string: size"
  |_=>.no "unsafe string: type"
 |.nilp,.int .i64 (.ofNat 0)=>.val (.str [])
 |_,_=>.no "unsafe string"
mutual
noncomputable def cvEq:CV->CV->Bool
 |.bool a,.bool b=>match a with |true=>b |false => !b
 |.int k n,.int k' n'=>kEq k k'&&ieq n n'
 |.str a,.str b=>natsEq a b
 |.agg a,.agg b=>cvEqL a b
 |.tup a,.tup b=>cvEqL a b
 |.ptr a b,.ptr a' b'=>Nat.beq a a'&&Nat.beq b b'
 |.slc a b c d,.slc a' b' c' d'=>Nat.beq a a'&&(Nat.beq b b'&&(Nat.beq c c'&&Nat.beq d d'))
 |.opn a b c,.opn a' b' c'=>Nat.beq a a'&&(Nat.beq b b'&&Nat.beq c c')
 |.emp a b c,.emp a' b' c'=>Nat.beq a a'&&(Nat.beq b b'&&Nat.beq c c')
 |.fn f a b,.fn f' a' b'=>Nat.beq f f'&&(cvEqL a a'&&cvEqL b b')
 |.yld a,.yld b=>Nat.beq a b
 |.map a,.map b=>Nat.beq a b
 |.ifc t v,.ifc t' v'=>Nat.beq t t'&&cvEq v v'
 |.nilp,.nilp=>true
 |.nils,.nils=>true
 |.nilf,.nilf=>true
 |.nilm,.nilm=>true
 |.nili,.nili=>true
 |.void a,.void b=>decide (a=b)
 |_,_=>false
noncomputable def cvEqL:List CV->List CV->Bool
 |[],[]=>true
 |a::x,b::y=>cvEq a b&&cvEqL x y
 |_,_=>false
noncomputable def natsEq:List Nat->List Nat->Bool
 |[],[]=>true
 |a::x,b::y=>Nat.beq a b&&natsEq x y
 |_,_=>false
end
noncomputable def zcz(P:Program)(t:TypeId):Bool:=match P.underlying t with
 |some (.array _ _)=>P.keyTypeAt 6 t&&P.tiled 6 t
 |some (.struct _)=>P.keyTypeAt 6 t&&P.tiled 6 t
 |_=>false
noncomputable def zin:List CV->Option (List Value)
 |[]=>some []
 |.bool b::r=>match zin r with
  |some l=>some (.bool b::l)
  |none=>none
 |.int k n::r=>match zin r with
  |some l=>some (.int k n::l)
  |none=>none
 |_::_=>none
noncomputable def zsC(P:Program)(t:TypeId):CV->Bool
 |.agg cs=>match zin cs with
  |some vs=>(P.keyLits 8 t vs).isSome
  |none=>false
 |_=>false
noncomputable def zvS(P:Program)(t:TypeId):Bool:=match P.underlying t with
 |some (.int _)=>true
 |some .string=>true
 |some .bool=>true
 |_=>false
noncomputable def zkL(P:Program)(t:TypeId)(k:CV):Bool:=match zcz P t with
 |true=>zsC P t k
 |false=>zvS P t
noncomputable def zuA(P:Program)(t:TypeId)(x y:CV):Option Bool:=match zcz P t with
 |true=>match zsC P t y with
  |true=>some (cvEq x y)
  |false=>none
 |false=>ceq P 40 t x y
noncomputable def zeY(P:Program)(kt:TypeId)(k:CV):List (CV×CV×Nat)->Nat->Option (Option (Nat×CV×Nat))
 |[],_=>some none
 |(a,b,s)::es,i=>match zuA P kt k a with
  |some true=>some (some (i,b,s))
  |some false=>zeY P kt k es (i+1)
  |none=>none
noncomputable def zm0(m:Mem):CV->Option (List (CV×CV×Nat))
 |.nilm=>some []
 |.map tag=>match m.get tag with
  |some (.map es _)=>some es
  |_=>none
 |_=>none
noncomputable def zbC(P:Program)(m:Mem)(t:TypeId)(x k:CV)(ok:Bool):COut:=
 match P.underlying t with
 |some (.map kt et)=>match zkL P kt k,zhZ P et with
  |true,some z=>match zm0 m x with
   |some es=>match zeY P kt k es 0 with
    |some (some (_,v,_))=>.val (match ok with |true=>.tup [v,.bool true] |false=>v)
    |some none=>.val (match ok with |true=>.tup [z,.bool false] |false=>z)
    |none=>.no "lookup: keys"
   |none=>.no "lookup: no map"
  |_,_=>.no "lookup: type"
 |_=>.no "lookup"
noncomputable def zaM(P:Program)(m:Mem)(t:TypeId)(x k v:CV):COut:=
 match P.underlying t,x with
 |some (.map kt _),.map tag=>match zkL P kt k,m.get tag with
  |true,some (.map es clock)=>match zeY P kt k es 0 with
   |some (some (i,_,s))=>.mem zam (m.put tag (.map (es.set i (k,v,s)) clock))
   |some none=>.mem zam (m.put tag (.map (es++[(k,v,clock)]) (clock+1)))
   |none=>.no "map update: keys"
  |_,_=>.no "map update: no map"
 |_,_=>.no "map update"
noncomputable def zb7(P:Program)(m:Mem)(t:TypeId)(x k:CV):COut:=
 match P.underlying t,x with
 |some (.map kt et),.map tag=>match zkL P kt k,m.get tag,zhZ P et with
  |true,some (.map es clock),some z=>match zeY P kt k es 0 with
   |some (some (i,v,s))=>.mem (.tup [v,.int .i64 (.ofNat s)]) (m.put tag (.map (es.set i (k,v,s)) clock))
   |some none=>.mem (.tup [z,.int .i64 (.ofNat clock)]) (m.put tag (.map (es++[(k,z,clock)]) (clock+1)))
   |none=>.no "map entry: keys"
  |_,_,_=>.no "map entry: no map"
 |_,_=>.no "map entry"
noncomputable def zmt(s:Nat):List (CV×CV×Nat)->Nat->Option (Nat×CV)
 |[],_=>none
 |(a,_,s')::es,i=>match Nat.beq s' s with
  |true=>some (i,a)
  |false=>zmt s es (i+1)
noncomputable def zbc(m:Mem)(x s v:CV):COut:=
 match x,s with
 |.map tag,.int _ (.ofNat s)=>match m.get tag with
  |some (.map es clock)=>match zmt s es 0 with
   |some (i,k)=>.mem zam (m.put tag (.map (es.set i (k,v,s)) clock))
   |none=>.no "entry store: gone"
  |_=>.no "entry store: no map"
 |_,_=>.no "entry store"
noncomputable def zaE(P:Program)(x:CV)(a:TypeId)(ok:Bool):COut:=
 match P.underlying a with
 |some (.interface _)=>.no "type assertion to an interface"
 |some _=>match x,zhZ P a with
  |.ifc t v,some z=>match Nat.beq t a,ok with
   |true,true=>.val (.tup [v,.bool true])
   |true,false=>.val v
   |false,true=>.val (.tup [z,.bool false])
   |false,false=>.no "type assertion fails"
  |_,_=>.no "type assertion"
 |none=>.no "type"
noncomputable def evO(t:Tmps)(x:Operand):Option CV:=
 Operand.rec (motive:=fun _=>Option CV) (fun i=>t.get i) ofV (fun g=>Bool.rec (motive:=fun _=>Option CV) none (some (.ptr g 0)) (Nat.blt g 64)) (fun f=>some (.fn f [] [])) x
noncomputable def evL(t:Tmps):List Operand->Option (List CV)
 |[]=>some []
 |x::xs=>match evO t x with
  |some v=>match evL t xs with
   |some vs=>some (v::vs)
   |none=>none
  |none=>none
noncomputable def evP(t:Tmps):List (Nat×Operand)->Option (List (Nat×CV))
 |[]=>some []
 |(i,x)::xs=>match evO t x with
  |some v=>match evP t xs with
   |some vs=>some ((i,v)::vs)
   |none=>none
  |none=>none
noncomputable def zef(t:Tmps):Option Operand->Option (Option CV)
 |none=>some none
 |some x=>match evO t x with
  |some v=>some (some v)
  |none=>none
noncomputable def zpz(f:CV)(args:List CV):COut:=
 match f with
 |.fn g a b=>.call g (a++args++b)
 |.yld l=>.yield l args
 |_=>.no "call: no function"
noncomputable def zdL(mx:Bool):List CV->COut
 |[.int k a,.int k' b]=>match kEq k k' with
  |true=>.val (.int k (match mx with |true=>(match ilt a b with |true=>b |false=>a) |false=>(match ilt b a with |true=>b |false=>a)))
  |false=>.no "min, max"
 |_=>.no "min, max"
noncomputable def zpu(P:Program)(tys:List TypeId)(m:Mem):List CV->COut
 |[x]=>match tys with
  |[ty]=>ztd P m ty x
  |_=>.no "len"
 |_=>.no "len"
noncomputable def ap2(P:Program)(T:Nat)(m:Mem)(ty ty2:TypeId)(x:CV):CV->COut
 |.str bs=>zdp P T m ty ty2 x bs
 |y=>zdm P T m ty ty2 x y
noncomputable def zjI(P:Program)(T:Nat)(tys:List TypeId)(m:Mem):List CV->COut
 |[x,y]=>match tys with
  |[ty,ty2]=>ap2 P T m ty ty2 x y
  |_=>.no "append"
 |_=>.no "append"
noncomputable def zvT(m:Mem):List CV->COut
 |[x]=>zco m x
 |_=>.no "slice data"
noncomputable def zqr(P:Program)(tys:List TypeId)(m:Mem):List CV->COut
 |[x,y]=>match tys with
  |[ty,ty2]=>zro P m ty ty2 x y
  |_=>.no "copy"
 |_=>.no "copy"
noncomputable def zmD(P:Program)(tys:List TypeId)(m:Mem):List CV->COut
 |[x]=>match tys with
  |[ty]=>zqm P m ty x
  |_=>.no "clear"
 |_=>.no "clear"
noncomputable def zxl(_:Mem)(l:List CV):COut:=zdL true l
noncomputable def zxz(_:Mem)(l:List CV):COut:=zdL false l
noncomputable def zuZ(_:Mem):List CV->COut
 |[]=>.recover
 |_=>.no "recover"
noncomputable def zxK(P:Program)(tys:List TypeId)(m:Mem):List CV->COut
 |[x,y]=>match tys with
  |[pt,_]=>zcp P m pt x y
  |_=>.no "unsafe string"
 |_=>.no "unsafe string"
noncomputable def zcP(P:Program)(T:Nat)(tys:List TypeId):Builtin->Mem->List CV->COut
 |.len=>zpu P tys
 |.append=>zjI P T tys
 |.copy=>zqr P tys
 |.clear=>zmD P tys
 |.recover=>zuZ
 |.unsafeString=>zxK P tys
 |.unsafeSliceData=>zvT
 |.max=>zxl
 |.min=>zxz
 |_=>fun _ _=>.no "builtin"
noncomputable def zeh(f:Operand)(m:Mem)(t:Tmps)(args:List CV):COut:=
 match evO t f with
 |some f=>zpz f args
 |none=>.no "call"
noncomputable def znd(P:Program)(T:Nat)(tys:List TypeId):Callee->Mem->Tmps->List CV->COut
 |.value f=>zeh f
 |.invoke _ _=>fun _ _ _=>.no "invoke"
 |.builtin b=>fun m _ args=>zcP P T tys b m args
noncomputable def zbn(P:Program)(T:Nat)(c:Call)(m:Mem)(t:Tmps):COut:=
 match evL t c.args.toList with
 |none=>.no "call: arguments"
 |some args=>znd P T c.argTypes.toList c.callee m t args
noncomputable def un1(f:Mem->CV->COut)(x:Operand)(m:Mem)(t:Tmps):COut:=
 Option.rec (motive:=fun _=>COut) (.no "operand") (fun v=>f m v) (evO t x)
noncomputable def zbL(f:Mem->CV->CV->COut)(x y:Operand)(m:Mem)(t:Tmps):COut:=
 Option.rec (motive:=fun _=>COut) (.no "operand") (fun v=>Option.rec (motive:=fun _=>COut) (.no "operand") (fun u=>f m v u) (evO t y)) (evO t x)
noncomputable def zlm(f:Mem->CV->CV->CV->COut)(x y z:Operand)(m:Mem)(t:Tmps):COut:=
 match evO t x with
 |some v=>zbL (fun m a b=>f m v a b) y z m t
 |none=>.no "operand"
noncomputable def ziC(_:Mem)(v:CV):COut:=.val v
noncomputable def zcE(c a b:Operand)(m:Mem)(t:Tmps):COut:=
 match evO t c with
 |some (.bool true)=>un1 ziC a m t
 |some (.bool false)=>un1 ziC b m t
 |_=>.no "pick"
noncomputable def zbO(P:Program)(T:Nat)(e:TypeId)(m:Mem)(_:Tmps):COut:=
 match zhZ P e with
 |some z=>zim T m e z
 |none=>.no "alloc"
noncomputable def zcG(P:Program)(ty:TypeId)(ps:Array (Nat×Operand))(_:Mem)(t:Tmps):COut:=
 match evP t ps.toList with
 |some ps=>zjt P ty ps
 |none=>.no "build"
noncomputable def zal(P:Program)(T:Nat)(ty:TypeId)(n:Nat)(ps:Array (Nat×Operand))(m:Mem)(t:Tmps):COut:=
 match evP t ps.toList with
 |some ps=>za0 P T m ty n ps
 |none=>.no "buildSlice"
noncomputable def zvV(_:Mem):CV->COut
 |.ptr a b=>.val (.ptr a b)
 |.fn a b c=>.val (.fn a b c)
 |.yld l=>.val (.yld l)
 |_=>.no "nilCheck"
noncomputable def zhh(P:Program)(ty:TypeId)(_:Mem)(x:CV):COut:=
 match P.underlying ty with
 |some (.interface _)=>.no "makeInterface"
 |some _=>.val (.ifc ty x)
 |none=>.no "makeInterface"
noncomputable def zdV(fn:Fn)(a b:Array Operand)(_:Mem)(t:Tmps):COut:=
 match fn with
 |.func f=>match evL t a.toList with
  |some a=>match evL t b.toList with
   |some b=>.val (.fn f a b)
   |none=>.no "makeFunc"
  |none=>.no "makeFunc"
 |_=>.no "makeFunc"
noncomputable def zgy(T:Nat)(r:Option Operand)(m:Mem)(_:Tmps):COut:=
 match r with
 |none=>.mem (.map T) (m.newAt T (.map [] 0))
 |some _=>.no "makeMap"
noncomputable def za7(P:Program)(ty:TypeId)(x:Operand)(lo hi mx:Option Operand)(m:Mem)(t:Tmps):COut:=
 match evO t x with
 |some x=>match zef t lo with
  |some lo=>match zef t hi with
   |some hi=>match zef t mx with
    |some mx=>zba P m ty x lo hi mx
    |none=>.no "slice"
   |none=>.no "slice"
  |none=>.no "slice"
 |none=>.no "slice"
noncomputable def zea(i:Nat)(_:Mem):CV->COut
 |.tup vs=>match nth vs i with
  |some v=>.val v
  |none=>.no "extract"
 |_=>.no "extract"
noncomputable def zot(_:Mem):CV->COut
 |.ifc a b=>.panic (.ifc a b)
 |_=>.no "panic"
noncomputable def zmf(args:List CV):CV->COut
 |.fn g a b=>.defer g (a++args++b)
 |_=>.no "defer"
noncomputable def zbR(c:Call)(_:Mem)(t:Tmps):COut:=
 match evL t c.args.toList with
 |some args=>match c.callee with
  |.value f=>match evO t f with
   |some f=>zmf args f
   |none=>.no "defer"
  |_=>.no "defer"
 |none=>.no "defer"
noncomputable def zis:Operand->Bool
 |.const _=>true
 |_=>false
noncomputable def zx4(_:Mem)(_:Tmps):COut:=.no "operation"
noncomputable def za4(P:Program)(T:Nat)(op:Op):Mem->Tmps->COut:=
 match op with
 |.move x=>un1 ziC x
 |.assign x=>un1 ziC x
 |.pick c a b=>zcE c a b
 |.alloc e=>zbO P T e
 |.box e x=>un1 (fun m v=>zim T m e v) x
 |.build ty ps=>zcG P ty ps
 |.buildSlice ty n ps=>zal P T ty n ps
 |.load ty a=>un1 (fun m v=>zdC P m ty v) a
 |.store ty a x=>zbL (fun m a x=>zaL P m ty a x) a x
 |.nilCheck x=>un1 zvV x
 |.binOp op ty x y _=>zbL (fun _=>zpH P (zis x||zis y) op ty) x y
 |.unOp op _ x=>un1 (fun _=>cUn op) x
 |.convert s d x=>un1 (fun m v=>za3 P T m s d v) x
 |.makeInterface ty x=>un1 (zhh P ty) x
 |.makeFunc fn a b=>zdV fn a b
 |.makeMap _ r=>zgy T r
 |.makeSlice ty l c=>zbL (fun m l c=>zan P T m ty l c) l c
 |.slice ty x lo hi mx=>za7 P ty x lo hi mx
 |.fieldAddr ty x f=>un1 (fun _ v=>za5 P ty v f) x
 |.field ty x f=>un1 (fun _ v=>zfx P ty v f) x
 |.indexAddr ty x i=>zbL (fun m x i=>zai P m ty x i) x i
 |.index ty x i=>zbL (fun _ x i=>zdK P ty x i) x i
 |.lookup ty x k ok=>zbL (fun m x k=>zbC P m ty x k ok) x k
 |.mapUpdate ty x k v=>zlm (fun m x k v=>zaM P m ty x k v) x k v
 |.mapEntry ty x k=>zbL (fun m x k=>zb7 P m ty x k) x k
 |.entryStore _ x s v=>zlm (fun m x s v=>zbc m x s v) x s v
 |.insert ty x k v=>zlm (fun m x k v=>zaM P m ty x k v) x k v
 |.typeAssert x _ a ok=>un1 (fun _ v=>zaE P v a ok) x
 |.extract x i=>un1 (zea i) x
 |.panic x=>un1 zot x
 |.call c=>zbn P T c
 |.defer c=>zbR c
 |_=>zx4
noncomputable def cop(P:Program)(op:Op)(m:Mem):Tmps->COut:=za4 P m.nxt op m
end Go.Cx
namespace Go.Cx
open Go
inductive CDef where
 |mark (l:Nat)
 |fn (f:FuncId) (args:List CV)
inductive CEx where
 |normal
 |exit (id:Nat)
 |goto (l:Nat)
 |ret
 |panic (v:CV)
inductive Task where
 |call (f:FuncId) (args:List CV) (m:Mem)
 |dcall (f:FuncId) (args:List CV) (m:Mem)
 |rcall (f:FuncId) (args:List CV) (v:CV) (m:Mem)
 |code (c:Code) (t:Tmps) (ds:List CDef) (r:Option Nat) (m:Mem)
inductive Res where
 |no (why:String)
 |ret (v:CV) (m:Mem)
 |pan (v:CV) (m:Mem)
 |ex (e:CEx) (t:Tmps) (ds:List CDef) (m:Mem)
 deriving Inhabited
abbrev KK:=Tmps->List CDef->Mem->Res
noncomputable def zlS(k:KK)(d:Option Tmp)(v:CV)(t:Tmps)(ds:List CDef)(m:Mem):Res:=
 Option.rec (motive:=fun _=>Res) (k t ds m) (fun d=>Bool.rec (motive:=fun _=>Res) (.no "temporary") (k (t.set d v) ds m) (Nat.ble (Nat.succ d) t.sz)) d
noncomputable def zxm(want:Bool):Option CV->Option Bool
 |some (.bool b)=>some (match b with |true=>want |false => !want)
 |some (.tup [])=>some false
 |_=>none
noncomputable def zaC(ops:List Oper)(t:Tmps):Option (Nat×Bool)->Option Bool
 |none=>some true
 |some (j,want)=>match nth ops j with
  |some q=>match q.dst with
   |some d=>zxm want (t.get d)
   |none=>none
  |none=>none
noncomputable def ze3:List Tmp->List CV->Tmps->Option Tmps
 |[],[],t=>some t
 |p::ps,v::vs,t=>match Nat.blt p t.sz with
  |true=>ze3 ps vs (t.set p v)
  |false=>none
 |_,_,_=>none
noncomputable def zfm:CEx->Option (Option Code)
 |.normal=>some none
 |.ret=>some (some .ret)
 |.exit id=>some (some (.exit id))
 |.goto id=>some (some (.goto id))
 |.panic _=>none
noncomputable def zbf(l:Nat)(m:Mem)(jump:Option Code):Res:=
 match m.get l with
 |some (.loop _ _ t ps asg body d)=>match jump with
  |none=>.ret (.bool true) (m.put l (.loop .ready none t ps asg body d))
  |some c=>.ret (.bool false) (m.put l (.loop .done (some c) t ps asg body d))
 |_=>.no "round: loop gone"
noncomputable def zg0(l:Nat):Res->Res
 |.ex e _ _ m=>match zfm e with
  |some j=>zbf l m j
  |none=>.no "panic in a round"
 |.no w=>.no w
 |_=>.no "round"
noncomputable def zjU(ih:Task->Res)(l:Nat)(c:Code):Res->Res
 |.ex .normal t [] m=>match m.get l with
  |some (.loop .ready pe t0 ps asg body d)=>zg0 l (ih (.code c t [] (some l) (m.put l (.loop .busy pe t0 ps asg body d))))
  |_=>.no "yield: state"
 |.no w=>.no w
 |_=>.no "yield: assign"
noncomputable def zbN(ih:Task->Res)(l:Nat)(args:List CV)(m:Mem):Res:=
 match m.get l with
 |some (.loop _ _ t ps asg body _)=>match ze3 ps args t with
  |some t1=>zjU ih l body (ih (.code asg t1 [] (some l) m))
  |none=>.no "yield: arguments"
 |_=>.no "yield: no loop"
noncomputable def zjL(k:KK)(dst:Option Tmp)(t:Tmps)(ds:List CDef):Res->Res
 |.ret v m=>zlS k dst v t ds m
 |.pan v m=>.ex (.panic v) t ds m
 |.no w=>.no w
 |.ex _ _ _ _=>.no "call"
noncomputable def zsr(k:KK)(dst:Option Tmp)(t:Tmps)(ds:List CDef):Res->Res
 |.ret v m=>zlS k dst v t ds m
 |.no w=>.no w
 |_=>.no "yield"
noncomputable def after(ih:Task->Res)(r:Option Nat)(k:KK)(dst:Option Tmp)(t:Tmps)(ds:List CDef)(m:Mem):COut->Res
 |.val v=>zlS k dst v t ds m
 |.mem v m=>zlS k dst v t ds m
 |.call f args=>zjL k dst t ds (ih (.call f args m))
 |.yield l args=>zsr k dst t ds (zbN ih l args m)
 |.defer f args=>match r with
  |none=>zlS k dst zam t (.fn f args::ds) m
  |some _=>.no "defer in a round"
 |.panic v=>.ex (.panic v) t ds m
 |.recover=>.no "recover"
 |.no w=>.no w
noncomputable def zcR(P:Program)(ih:Task->Res)(ops:List Oper)(r:Option Nat)(o:Oper)(k:KK)(t:Tmps)(ds:List CDef)(m:Mem):Res:=
 match zaC ops t o.guard with
 |some true=>after ih r k o.dst t ds m (cop P o.op m t)
 |some false=>zlS k o.dst zam t ds m
 |none=>.no "guard"
noncomputable def zdg(P:Program)(ih:Task->Res)(ops:List Oper)(r:Option Nat)(l:List Oper):KK:=
 List.rec (motive:=fun _=>KK) (fun t ds m=>.ex .normal t ds m) (fun o _ k=>zcR P ih ops r o k) l
noncomputable def zmq(P:Program)(t:Tmps)(m:Mem):List ResultVar->Option (List CV)
 |[]=>some []
 |.tmp i::rs=>match t.get i with
  |some v=>match zmq P t m rs with
   |some vs=>some (v::vs)
   |none=>none
  |none=>none
 |.cell a ty::rs=>match t.get a with
  |some p=>match zdC P m ty p with
   |.val v=>match zmq P t m rs with
    |some vs=>some (v::vs)
    |none=>none
   |_=>none
  |none=>none
noncomputable def zic:List CV->CV
 |[v]=>v
 |vs=>.tup vs
noncomputable def zb6:Nat->List CV->Tr CV->Tr CV
 |_,[],t=>t
 |i,v::vs,t=>zb6 (i+1) vs (t.set (i+1) i (some v))
noncomputable def zhq(k:Mem->Res):Res->Res
 |.ret _ m=>k m
 |.no w=>.no w
 |_=>.no "deferred"
noncomputable def leave(P:Program)(ih:Task->Res)(rs:List ResultVar)(t:Tmps):List CDef->Mem->Res
 |[]=>fun m=>match zmq P t m rs with
  |some vs=>.ret (zic vs) m
  |none=>.no "results"
 |.mark l::ds=>fun m=>match m.get l with
  |some (.dfr true)=>leave P ih rs t ds (m.put l (.dfr false))
  |_=>.no "mark"
 |.fn f args::ds=>fun m=>zhq (leave P ih rs t ds) (ih (.dcall f args m))
noncomputable def zdq(P:Program)(ih:Task->Res)(rs:List ResultVar):Res->Res
 |.ex .normal t ds m=>leave P ih rs t ds m
 |.ex .ret t ds m=>leave P ih rs t ds m
 |.ex (.panic v) _ [] m=>.pan v m
 |.ex (.panic v) t (.fn f args::ds) m=>zhq (leave P ih rs t ds) (ih (.rcall f args v m))
 |.no w=>.no w
 |_=>.no "function's end"
noncomputable def zha(P:Program)(rs:List ResultVar):Res->Res
 |.ex .normal t [] m=>leave P (fun _=>.no "deferred") rs t [] m
 |.ex .ret t [] m=>leave P (fun _=>.no "deferred") rs t [] m
 |.no w=>.no w
 |_=>.no "deferred call's end"
noncomputable def ze6(fn:Func):Bool:=match fn.name == "runtime.NumGoroutine" with
 |true=>false
 |false=>true
noncomputable def zb4(P:Program)(ih:Task->Res)(fn:Func)(args:List CV)(m:Mem)(k:Res->Res):Option Code->Res
 |some c=>match Nat.ble args.length fn.ntmps&&ze6 fn with
  |true=>k (ih (.code c ⟨fn.ntmps,zb6 0 args .nil⟩ [] none m))
  |false=>.no "arguments"
 |none=>.no fn.name
noncomputable def zwD(fn:Func)(m:Mem):List CV->Res
 |[.ptr t off]=>match fn.name == "internal/abi.NoEscape" && fn.origin == "" with
  |true=>.ret (.ptr t off) m
  |false=>.no fn.name
 |_=>.no fn.name
noncomputable def ztl(P:Program)(ih:Task->Res)(args:List CV)(m:Mem):Option Func->Res
 |some fn=>match fn.body with
  |some c=>zb4 P ih fn args m (zdq P ih fn.results.toList) (some c)
  |none=>zwD fn m args
 |none=>.no "no function"
theorem zpL{P:Program}{ih:Task->Res}{args:List CV}{m:Mem}{fn:Func}{c:Code}(hb:fn.body=some c):ztl P ih args m (some fn)=zb4 P ih fn args m (zdq P ih fn.results.toList) (some c):=by
 show(match fn.body with
  |some c=>zb4 P ih fn args m (zdq P ih fn.results.toList) (some c)
  |none=>zwD fn m args)=_
 rw[hb]
noncomputable def zaJ:Code->Option (Array Oper×List Code)
 |.region _ ops false=>some (ops,[])
 |.seq a b=>match zaJ a with
  |some (ops,r)=>some (ops,r++[b])
  |none=>none
 |_=>none
noncomputable def zuJ(ih:Task->Res):List Code->Tmps->List CDef->Mem->Res
 |[],t,ds,m=>.ex .normal t ds m
 |b::r,t,ds,m=>match ih (.code b t ds none m) with
  |.ex .normal t ds m=>zuJ ih r t ds m
  |x=>x
noncomputable def zfB:Op->Bool
 |.call { callee:=.builtin .recover,args:=⟨[]⟩,.. }=>true
 |_=>false
noncomputable def zkU(P:Program)(m:Mem):List Oper->Tmps->Option Tmps
 |[],t=>some t
 |o::l,t=>match o.guard,o.dst,cop P o.op m t with
  |none,some d,.val v=>match Nat.ble (Nat.succ d) t.sz with
   |true=>zkU P m l (t.set d v)
   |false=>none
  |_,_,_=>none
noncomputable def zvM(P:Program)(m:Mem)(rv:CV)(t:Tmps):List Oper->Option Tmps
 |o::l=>match o.guard,o.dst,zfB o.op with
  |none,some d,true=>match Nat.ble (Nat.succ d) t.sz with
   |true=>zkU P m l (t.set d rv)
   |false=>none
  |_,_,_=>none
 |[]=>none
noncomputable def zew(P:Program)(ih:Task->Res)(fn:Func)(args:List CV)(m:Mem)(rv:CV)(ops:List Oper)(rest:List Code):Res:=
 match Nat.ble args.length fn.ntmps&&ze6 fn with
 |true=>match zvM P m rv ⟨fn.ntmps,zb6 0 args .nil⟩ ops with
  |some t=>zha P fn.results.toList (zuJ ih rest t [] m)
  |none=>.no "recover"
 |false=>.no "arguments"
noncomputable def zwn(l:List Oper):Bool:=match l with
 |o::_=>zfB o.op
 |[]=>false
noncomputable def zoW(P:Program)(ih:Task->Res)(args:List CV)(m:Mem)(v:CV):Option Func->Res
 |some fn=>match fn.body with
  |some c=>match zaJ c with
   |some (ops,rest)=>zew P ih fn args m v ops.toList rest
   |none=>.no "recover"
  |none=>.no fn.name
 |none=>.no "no function"
noncomputable def zoY(P:Program)(ih:Task->Res)(args:List CV)(m:Mem):Option Func->Res
 |some fn=>match(match fn.body with |some c=>zaJ c |none=>none) with
  |some (ops,rest)=>match zwn ops.toList with
   |true=>zew P ih fn args m .nili ops.toList rest
   |false=>zb4 P ih fn args m (zha P fn.results.toList) fn.body
  |none=>zb4 P ih fn args m (zha P fn.results.toList) fn.body
 |none=>.no "no function"
noncomputable def zak(m j:Nat):Bool:=Nat.beq (Nat.land (Nat.shiftRight m j) 1) 1
noncomputable def zpN:Ground->Bool
 |.textOnly _=>false
 |.gcOnly _=>false
 |_=>true
noncomputable def zcU(bs:List Nat):List Edge->Option Nat
 |[]=>some 0
 |e::es=>match zcU bs es with
  |none=>none
  |some r=>match zpN e.ground with
   |false=>some r
   |true=>match nth bs e.on with
    |some b=>some (Nat.lor (Nat.lor (Nat.shiftLeft 1 e.on) b) r)
    |none=>none
noncomputable def zer:List Oper->List Nat->Option (List Nat)
 |[],bs=>some bs
 |o::os,bs=>match zcU bs o.after.toList with
  |some b=>zer os (bs++[b])
  |none=>none
noncomputable def zgv:List Oper->Nat->List (Nat×Nat)
 |[],_=>[]
 |o::os,i=>match o.dst with
  |some d=>(d,i)::zgv os (i+1)
  |none=>zgv os (i+1)
noncomputable def zxX(z:Nat×Nat)(i B:Nat)(pr:List (Nat×Nat))(u:Nat):Bool:=pr.all fun p=>match Nat.beq p.1 u with
 |true=>zak B p.2||(Nat.beq p.2 z.1&&zak z.2 i)
 |false=>true
noncomputable def zun(z:Nat×Nat)(i B:Nat)(pr:List (Nat×Nat)):List Operand->Bool
 |[]=>true
 |.tmp u::xs=>zxX z i B pr u&&zun z i B pr xs
 |_::xs=>zun z i B pr xs
noncomputable def zn3:List (Nat×Nat)->Bool
 |[]=>true
 |p::ps=>(ps.all fun q => !Nat.beq q.1 p.1)&&zn3 ps
noncomputable def zkc(B:Nat):Option (Nat×Bool)->Bool
 |none=>true
 |some (j,_)=>zak B j
noncomputable def znt:Option Operand->List Operand
 |none=>[]
 |some x=>[x]
noncomputable def zaz:Op->List Operand
 |.move x=>[x]
 |.assign x=>[x]
 |.pick c a b=>[c,a,b]
 |.box _ x=>[x]
 |.build _ ps=>ps.toList.map (·.2)
 |.buildSlice _ _ ps=>ps.toList.map (·.2)
 |.load _ a=>[a]
 |.store _ a x=>[a,x]
 |.nilCheck x=>[x]
 |.binOp _ _ x y _=>[x,y]
 |.unOp _ _ x=>[x]
 |.convert _ _ x=>[x]
 |.makeInterface _ x=>[x]
 |.makeFunc _ a b=>a.toList++b.toList
 |.makeSlice _ l c=>[l,c]
 |.slice _ x lo hi mx=>x::(znt lo++znt hi++znt mx)
 |.fieldAddr _ x _=>[x]
 |.field _ x _=>[x]
 |.indexAddr _ x i=>[x,i]
 |.index _ x i=>[x,i]
 |.lookup _ x k _=>[x,k]
 |.mapUpdate _ x k v=>[x,k,v]
 |.insert _ x k v=>[x,k,v]
 |.mapEntry _ x k=>[x,k]
 |.entryStore _ x s v=>[x,s,v]
 |.typeAssert x _ _ _=>[x]
 |.extract x _=>[x]
 |.panic x=>[x]
 |.call c=>match c.callee with
  |.value f=>f::c.args.toList
  |_=>c.args.toList
 |.defer c=>match c.callee with
  |.value f=>f::c.args.toList
  |_=>c.args.toList
 |_=>[]
noncomputable def zpc(z:Nat×Nat)(pr:List (Nat×Nat)):List (Oper×Nat)->Nat->Bool
 |[],_=>true
 |(o,B)::r,i=>zun z i B pr (zaz o.op)&&(zkc B o.guard&&zpc z pr r (i+1))
noncomputable def zie:List Nat->Nat->Nat×Nat
 |[],_=>(0,0)
 |b::bs,i=>match bs with
  |[]=>(i,b)
  |_=>zie bs (i+1)
noncomputable def zgJ(ops:List Oper):Option (List (Oper×Nat)):=
 match zer ops [] with
 |none=>none
 |some bs=>match zn3 (zgv ops 0)&&zpc (zie bs 0) (zgv ops 0) (ops.zip bs) 0 with
  |true=>some (ops.zip bs)
  |false=>none
noncomputable def zcQ:Op->Bool
 |.move _=>true
 |.assign _=>true
 |.pick _ _ _=>true
 |.build _ _=>true
 |.nilCheck _=>true
 |.binOp _ _ _ _ _=>true
 |.unOp _ _ _=>true
 |.makeInterface _ _=>true
 |.makeFunc _ _ _=>true
 |.fieldAddr _ _ _=>true
 |.field _ _ _=>true
 |.index _ _ _=>true
 |.typeAssert _ _ _ _=>true
 |.extract _ _=>true
 |_=>false
noncomputable def zb8(P:Program):Op->Bool
 |.alloc _=>true
 |.box _ _=>true
 |.buildSlice _ _ _=>true
 |.makeSlice _ _ _=>true
 |.makeMap _ _=>true
 |.convert s d _=>match P.underlying s,P.underlying d with
  |some .string,some (.slice _)=>true
  |_,_=>false
 |_=>false
noncomputable def zaV(S:Nat->Bool):List (Nat×Nat×CO)->Mem->Mem
 |[],m=>m
 |(j,T,o)::r,m=>match S j with
  |true=>(zaV S r m).newAt T o
  |false=>zaV S r m
noncomputable def zaq(B cl j:Nat):Bool:=zak B j && !zak cl j
structure DS where
 t:Tmps
 cur:Mem
 cl:Nat
 hist:List (Nat×Nat×Mem)
 as:List (Nat×Nat×CO)
 ns:List (Nat×Oper×Nat×CV)
inductive DRes where
 |no (why:String)
 |ok (s:DS)
 |pan (v:CV) (m:Mem) (s:DS)
 |fin (t:Nat) (o:CO) (s:DS)
noncomputable def zmH(v:CV):COut->Bool
 |.val u=>cvEq u v
 |_=>false
noncomputable def zjX(P:Program)(op:Op)(t:Tmps)(v:CV)(m:Mem):Bool:=zmH v (za4 P m.nxt op m t)
noncomputable def zgE(P:Program)(op:Op)(B:Nat)(t:Tmps)(v:CV)(as:List (Nat×Nat×CO)):List (Nat×Nat×Mem)->Bool
 |[]=>true
 |(w,cl,m)::r=>match zak B w with
  |true=>true
  |false=>match zjX P op t v (zaV (zaq B cl) as m) with
   |true=>zgE P op B t v as r
   |false=>false
noncomputable def zgk(P:Program)(t:Tmps)(B cl:Nat)(m:Mem)(as:List (Nat×Nat×CO)):List (Nat×Oper×Nat×CV)->Bool
 |[]=>true
 |(i,o,B',v)::r=>match zak B i with
  |true=>zgk P t B cl m as r
  |false=>match zjX P o.op t v (zaV (zaq B' cl) as m) with
   |true=>zgk P t B cl m as r
   |false=>false
noncomputable def zwP:Res->Option (CV×Mem)
 |.ret v m=>some (v,m)
 |_=>none
noncomputable def znr(ih:Task->Res)(m:Mem):COut->Option (CV×Mem)
 |.mem v m'=>some (v,m')
 |.call f args=>zwP (ih (.call f args m))
 |.yield l args=>zwP (zbN ih l args m)
 |_=>none
noncomputable def zbT(d:Option Tmp)(v:CV)(t:Tmps)(k:Tmps->DRes):DRes:=
 match d with
 |none=>k t
 |some d=>match Nat.ble (Nat.succ d) t.sz with
  |true=>k (t.set d v)
  |false=>.no "temporary"
noncomputable def zhI(T:Nat)(m:Mem):Option CO:=match m.get T with
 |some (.cells ty cs)=>some (.cells ty cs)
 |some (.opn ty sz cs)=>some (.opn ty sz cs)
 |some (.map es c)=>some (.map es c)
 |_=>none
noncomputable def zeQ(i T:Nat)(d:Option Tmp)(s:DS)(k:DS->DRes):COut->DRes
 |.mem v m'=>match zhI T m' with
  |some ob=>zbT d v s.t fun t=>k ⟨t,s.cur,s.cl,s.hist,(i,T,ob)::s.as,s.ns⟩
  |none=>.no "new object"
 |.no w=>.no w
 |_=>.no "new object"
noncomputable def zhL(B:Nat):List (Nat×Nat×Mem)->Bool
 |[]=>true
 |(w,_,_)::_=>zak B w
noncomputable def zpq(P:Program)(i B:Nat)(d:Option Tmp)(s:DS)(k:DS->DRes):Option (CV×Mem)->DRes
 |some (v,m')=>match zhL B s.hist with
  |true=>match zgk P s.t B B m' s.as s.ns with
   |true=>zbT d v s.t fun t=>k ⟨t,m',B,(i,s.cl,s.cur)::s.hist,s.as,s.ns⟩
   |false=>.no "draw: read and write"
  |false=>.no "draw: two writes"
 |none=>.no "draw: call"
noncomputable def zbD(P:Program)(o:Oper)(i B:Nat)(s:DS)(k:DS->DRes)(v:CV):DRes:=
 match zcQ o.op with
 |true=>zbT o.dst v s.t fun t=>k ⟨t,s.cur,s.cl,s.hist,s.as,s.ns⟩
 |false=>match zgE P o.op B s.t v s.as s.hist with
  |true=>zbT o.dst v s.t fun t=>k ⟨t,s.cur,s.cl,s.hist,s.as,(i,o,B,v)::s.ns⟩
  |false=>.no "draw: write and read"
noncomputable def zkE(B:Nat)(s:DS)(kp:CV->Mem->DS->DRes)(v:CV)(m:Mem):DRes:=
 match zhL B s.hist with
 |true=>kp v m s
 |false=>.no "draw: panic"
noncomputable def zg5(P:Program)(i B:Nat)(d:Option Tmp)(s:DS)(k:DS->DRes)(kp:CV->Mem->DS->DRes):Res->DRes
 |.pan v m=>zkE B s kp v m
 |r=>zpq P i B d s k (zwP r)
noncomputable def zc1(P:Program)(ih:Task->Res)(o:Oper)(i B:Nat)(s:DS)(k:DS->DRes)(kp:CV->Mem->DS->DRes)(m:Mem):COut->DRes
 |.val v=>zbD P o i B s k v
 |.no w=>.no w
 |.call f args=>zg5 P i B o.dst s k kp (ih (.call f args m))
 |out=>zpq P i B o.dst s k (znr ih m out)
noncomputable def ztQ(P:Program)(ih:Task->Res)(o:Oper)(i B:Nat)(s:DS)(k:DS->DRes)(kp:CV->Mem->DS->DRes)(m:Mem):DRes:=zc1 P ih o i B s k kp m (za4 P m.nxt o.op m s.t)
noncomputable def zcg(P:Program)(ih:Task->Res)(ops:List Oper)(T0:Nat)(o:Oper)(i B:Nat)(k:DS->DRes)(kp:CV->Mem->DS->DRes)(s:DS):DRes:=
 match zaC ops s.t o.guard with
 |some false=>zbT o.dst zam s.t fun t=>k ⟨t,s.cur,s.cl,s.hist,s.as,s.ns⟩
 |some true=>match zb8 P o.op with
  |true=>zeQ i (Nat.add T0 i) o.dst s k (za4 P (Nat.add T0 i) o.op ⟨0,.nil⟩ s.t)
  |false=>ztQ P ih o i B s k kp (zaV (zaq B s.cl) s.as s.cur)
 |none=>.no "guard"
noncomputable def zgf(P:Program)(o:Oper)(i B:Nat)(s:DS)(k:DS->DRes):COut->DRes
 |.val v=>zbD P o i B s k v
 |.no w=>.no w
 |_=>.no "draw: beside a panic"
noncomputable def zql(P:Program)(o:Oper)(i B:Nat)(s:DS)(k:DS->DRes)(m:Mem):DRes:=zgf P o i B s k (za4 P m.nxt o.op m s.t)
noncomputable def zgH(P:Program)(ops:List Oper)(T0:Nat)(o:Oper)(i B:Nat)(k:DS->DRes)(s:DS):DRes:=
 match zaC ops s.t o.guard with
 |some false=>zbT o.dst zam s.t fun t=>k ⟨t,s.cur,s.cl,s.hist,s.as,s.ns⟩
 |some true=>match zb8 P o.op with
  |true=>zeQ i (Nat.add T0 i) o.dst s k (za4 P (Nat.add T0 i) o.op ⟨0,.nil⟩ s.t)
  |false=>zql P o i B s k (zaV (zaq B s.cl) s.as s.cur)
 |none=>.no "guard"
noncomputable def zaA(P:Program)(ops:List Oper)(T0 z:Nat)(v:CV)(mp:Mem):List (Oper×Nat)->Nat->DS->DRes
 |[],_=>fun s=>.pan v mp s
 |(o,B)::r,i=>match zak B z with
  |true=>zaA P ops T0 z v mp r (i+1)
  |false=>zgH P ops T0 o i B (zaA P ops T0 z v mp r (i+1))
noncomputable def zoX(tF:Nat):CV->Bool
 |.slc t _ _ _ => !Nat.beq t tF
 |.opn t _ _ => !Nat.beq t tF
 |.ptr t _ => !Nat.beq t tF
 |_=>false
noncomputable def zsE(t:Tmps)(tF:Nat):Op->Bool
 |.indexAddr _ x _=>match evO t x with
  |some v=>zoX tF v
  |none=>false
 |_=>false
noncomputable def zlx(t:Tmps)(B tF:Nat):List (Nat×Oper×Nat×CV)->Bool
 |[]=>true
 |(i,o,_,_)::r=>(zak B i||zsE t tF o.op)&&zlx t B tF r
noncomputable def zgT(t:Tmps)(tF:Nat):Option Oper->Bool
 |some o=>match o.op with
  |.store _ a _=>match evO t a with
   |some (.ptr t' _) => !Nat.beq t' tF
   |_=>false
  |_=>false
 |none=>false
noncomputable def zqB(ops:List Oper)(t:Tmps)(B tF:Nat):List (Nat×Nat×Mem)->Bool
 |[]=>true
 |(w,_,_)::r=>match zak B w with
  |true=>true
  |false=>zgT t tF (nth ops w)&&zqB ops t B tF r
noncomputable def zre:Op->Bool
 |.store _ _ _=>true
 |_=>false
noncomputable def ztj:Option (Nat×Bool)->Bool
 |none=>true
 |some _=>false
noncomputable def zu8:Option Tmp->Bool
 |none=>true
 |some _=>false
noncomputable def zrK(tF:Nat)(s:DS):COut->DRes
 |.mem _ m'=>match m'.get tF with
  |some oF=>.fin tF oF s
  |none=>.no "draw: last"
 |_=>.no "draw: last"
noncomputable def zhg(P:Program)(ops:List Oper)(T0:Nat)(o:Oper)(B:Nat)(s:DS):DRes:=
 match o.op with
 |.store _ a _=>match evO s.t a with
  |some (.ptr tF _)=>match Nat.blt tF T0&&(zlx s.t B tF s.ns&&zqB ops s.t B tF s.hist) with
   |true=>zrK tF s (za4 P s.cur.nxt o.op s.cur s.t)
   |false=>.no "draw: two writes"
  |_=>.no "draw: last"
 |_=>.no "draw: last"
noncomputable def zfW(r:List (Oper×Nat))(o:Oper)(B:Nat)(s:DS):Bool:=
 match r with
 |[]=>(zre o.op&&(ztj o.guard&&zu8 o.dst)) && !zhL B s.hist
 |_::_=>false
noncomputable def zdk(P:Program)(ih:Task->Res)(ops:List Oper)(T0:Nat)(r:List (Oper×Nat))(o:Oper)(i B:Nat)(k:DS->DRes)(kp:CV->Mem->DS->DRes)(s:DS):DRes:=
 match zfW r o B s with
 |true=>zhg P ops T0 o B s
 |false=>zcg P ih ops T0 o i B k kp s
noncomputable def zaN(P:Program)(ih:Task->Res)(ops:List Oper)(T0:Nat):List (Oper×Nat)->Nat->DS->DRes
 |[],_=>fun s=>.ok s
 |(o,B)::r,i=>zdk P ih ops T0 r o i B (zaN P ih ops T0 r (i+1)) fun v m=>zaA P ops T0 i v m r (i+1)
noncomputable def zpF(m:Mem)(cl:Nat):List (Nat×Nat×CO)->Bool
 |[]=>true
 |(j,T,_)::r=>(zak cl j||(match m.get T with |none=>true |some _=>false))&&zpF m cl r
noncomputable def zbp(N:Nat)(as:List (Nat×Nat×CO)):List (Nat×Nat×Mem)->Bool
 |[]=>true
 |(_,cl,m)::r=>Nat.ble N m.nxt&&(zpF m cl as&&zbp N as r)
noncomputable def ziZ:List (Nat×Nat)->Tmps->Tmps
 |[],t=>t
 |(d,_)::r,t=>ziZ r (t.unset d)
noncomputable def zgG(N:Nat)(s:DS)(r:Res):Res:=
 match zbp N s.as ((0,s.cl,s.cur)::s.hist) with
 |true=>r
 |false=>.no "draw: tags"
noncomputable def zkv(ops:List Oper)(N:Nat)(ds:List CDef):DRes->Res
 |.ok s=>zgG N s (.ex .normal s.t ds (zaV (fun j => !zak s.cl j) s.as s.cur))
 |.pan v m s=>zgG N s (.ex (.panic v) (ziZ (zgv ops 0) s.t) ds m)
 |.fin tF oF s=>zgG N s (.ex .normal s.t ds ((zaV (fun j => !zak s.cl j) s.as s.cur).put tF oF))
 |.no w=>.no w
noncomputable def ziq(P:Program)(ih:Task->Res)(ops:List Oper)(t:Tmps)(ds:List CDef)(m:Mem):Res:=
 match zgJ ops with
 |some l=>zkv ops (Nat.add m.nxt ops.length) ds (zaN P ih ops m.nxt l 0 ⟨t,⟨Nat.add m.nxt ops.length,m.tr⟩,0,[],[],[]⟩)
 |none=>.no "draw: plan"
noncomputable def zgx(ih:Task->Res)(b:Code)(r:Option Nat):Res->Res
 |.ex .normal t ds m=>ih (.code b t ds r m)
 |x=>x
noncomputable def zpM(ih:Task->Res)(a b:Code)(t:Tmps)(ds:List CDef)(r:Option Nat)(m:Mem):Option CV->Res
 |some (.bool true)=>ih (.code a t ds r m)
 |some (.bool false)=>ih (.code b t ds r m)
 |_=>.no "cond"
noncomputable def zgt(id:Nat):Res->Res
 |.ex (.exit i) t ds m=>match Nat.beq i id with
  |true=>.ex .normal t ds m
  |false=>.ex (.exit i) t ds m
 |x=>x
noncomputable def zo5:Res->Res
 |.ex (.goto _) _ _ _=>.no "goto"
 |x=>x
noncomputable def zeb(ih:Task->Res)(l:Nat)(t:Tmps)(ds:List CDef)(r:Option Nat)(m:Mem):Option CO->Res
 |some (.loop st pe t0 ps asg body d)=>match st with
  |.busy=>.no "busy"
  |_=>match pe with
   |none=>.ex .normal t ds (m.put l (.loop .exhausted pe t0 ps asg body d))
   |some c=>ih (.code c t ds r (m.put l (.loop .exhausted pe t0 ps asg body d)))
 |_=>.no "loop"
noncomputable def ze4(ih:Task->Res)(l:Nat)(t:Tmps)(ds:List CDef)(r:Option Nat):Res->Res
 |.ret _ m=>zeb ih l t ds r m (m.get l)
 |.no w=>.no w
 |_=>.no "range"
noncomputable def zdn(ih:Task->Res)(l:Nat)(t:Tmps)(ds:List CDef)(r:Option Nat)(m:Mem):Option CV->Res
 |some (.fn f first cap)=>ze4 ih l t ds r (ih (.call f (first++[.yld l]++cap) m))
 |_=>.no "rangeFunc"
noncomputable def ze2(ih:Task->Res)(g:Operand)(ps:List Tmp)(asg body:Code)(t:Tmps)(ds:List CDef)(m:Mem):Option Nat->Res
 |some l0=>match m.get l0 with
  |some (.loop _ _ _ _ _ _ d)=>zdn ih m.nxt t ds (some l0) (m.new (.loop .ready none t ps asg body d)) (evO t g)
  |_=>.no "rangeFunc: no loop around"
 |none=>zdn ih (m.nxt+1) t (.mark m.nxt::ds) none ((m.new (.dfr true)).new (.loop .ready none t ps asg body m.nxt)) (evO t g)
noncomputable def zvr(P:Program)(ih:Task->Res)(t:Tmps)(ds:List CDef)(r:Option Nat)(m:Mem):Code->Res
 |.skip=>.ex .normal t ds m
 |.label _=>.ex .normal t ds m
 |.ret=>.ex .ret t ds m
 |.exit id=>.ex (.exit id) t ds m
 |.goto l=>.ex (.goto l) t ds m
 |.refuse w=>.no w
 |.region id ops draw=>match draw with
  |false=>zdg P ih ops.toList r ops.toList t ds m
  |true=>ziq P ih ops.toList t ds m
 |.seq a b=>zgx ih b r (ih (.code a t ds r m))
 |.cond x a b=>zpM ih a b t ds r m (evO t x)
 |.block id b=>zgt id (ih (.code b t ds r m))
 |.scope b=>zo5 (ih (.code b t ds r m))
 |.loop b=>zgx ih (.loop b) r (ih (.code b t ds r m))
 |.rangeFunc g ps asg body=>ze2 ih g ps.toList asg body t ds m r
abbrev Ext:=FuncId->Option (Mem->List CV->Option CV)
noncomputable def zxP(m:Mem):Option CV->Res
 |some v=>.ret v m.up
 |none=>.no "contract"
noncomputable def zr9(P:Program)(ih:Task->Res)(f:FuncId)(args:List CV)(m:Mem):Option (Mem->List CV->Option CV)->Res
 |some g=>zxP m (g m args)
 |none=>ztl P ih args m P.funcs[f]?
noncomputable def zny(P:Program)(X:Ext)(ih:Task->Res):Task->Res
 |.call f args m=>zr9 P ih f args m (X f)
 |.dcall f args m=>zoY P ih args m P.funcs[f]?
 |.rcall f args v m=>zoW P ih args m v P.funcs[f]?
 |.code c t ds r m=>zvr P ih t ds r m c
noncomputable def zkP(P:Program)(X:Ext)(n:Nat):Task->Res:=
 Nat.rec (motive:=fun _=>Task->Res) (fun _=>.no "fuel") (fun _ ih=>zny P X ih) n
end Go.Cx
namespace Go.Cx
open Go Go.RowKit
structure Blk where
 blk:Nat
 off:Nat
 cap:Nat
 sz:Nat
abbrev Env:=Nat->Option Blk
mutual
noncomputable def den(e:Env):CV->Option Value
 |.bool b=>some (.bool b)
 |.int k n=>some (.int k n)
 |.str s=>some (.string ⟨(s.map UInt8.ofNat).toArray⟩)
 |.agg cs=>(denL e cs).map fun l=>.agg l.toArray
 |.tup cs=>(denL e cs).map fun l=>.tuple l.toArray
 |.ptr t off=>(e t).map fun b=>.pointer (some ⟨b.blk,b.off+off,none⟩)
 |.slc t off n c=>(e t).map fun b=>.slice (some ⟨b.blk,b.off+off,none⟩) n c
 |.opn t k n=>(e t).map fun b=>.slice (some ⟨b.blk,b.off+k*b.sz,none⟩) n (b.cap - k)
 |.emp t k a=>(e t).map fun b=>if b.cap=k+a then .slice (some ⟨b.blk,b.off+k*b.sz,none⟩) 0 0 else .slice (some ⟨b.blk,b.off+(k+a)*b.sz,none⟩) 0 (b.cap - (k+a))
 |.fn f a b=>(denL e a).bind fun x=>(denL e b).map fun y=>.func (.func f) x.toArray y.toArray
 |.yld l=>(e l).map fun b=>.func (.yield b.blk) #[] #[]
 |.map t=>(e t).map fun b=>.map (some b.blk)
 |.ifc ty v=>(den e v).map fun v=>.iface ty v
 |.nilp=>some (.pointer none)
 |.nils=>some (.slice none 0 0)
 |.nilf=>some .nilFunc
 |.nilm=>some (.map none)
 |.nili=>some .nilIface
 |.res x _ _ _=>some (.int .i64 x)
 |.void a=>some (.slice (some a) 0 0)
noncomputable def denL(e:Env):List CV->Option (List Value)
 |[]=>some []
 |x::xs=>(den e x).bind fun v=>(denL e xs).map fun l=>v::l
end
def Env.le(e e':Env):Prop:=∀t b,e t=some b->e' t=some b
theorem Env.le.refl(e:Env):Env.le e e:=fun _ _ h=>h
theorem Env.le.trans{a b c:Env}(h:Env.le a b)(k:Env.le b c):Env.le a c:=fun t x hx=>k t x (h t x hx)
mutual
theorem den_mono{e e':Env}(h:Env.le e e'):∀(x:CV) (v:Value),den e x=some v->den e' x=some v
 |.bool _,_,hv=>hv
 |.int _ _,_,hv=>hv
 |.str _,_,hv=>hv
 |.agg cs,v,hv=>by
  simp only[den,ya3]at hv ⊢;obtain⟨l,hl,rfl⟩:=hv;exact⟨l,denL_mono h cs l hl,rfl⟩
 |.tup cs,v,hv=>by
  simp only[den,ya3]at hv ⊢;obtain⟨l,hl,rfl⟩:=hv;exact⟨l,denL_mono h cs l hl,rfl⟩
 |.ptr t _,v,hv=>by
  simp only[den,ya3]at hv ⊢;obtain⟨b,hb,rfl⟩:=hv;exact⟨b,h t b hb,rfl⟩
 |.slc t _ _ _,v,hv=>by
  simp only[den,ya3]at hv ⊢;obtain⟨b,hb,rfl⟩:=hv;exact⟨b,h t b hb,rfl⟩
 |.opn t _ _,v,hv=>by
  simp only[den,ya3]at hv ⊢;obtain⟨b,hb,rfl⟩:=hv;exact⟨b,h t b hb,rfl⟩
 |.emp t _ _,v,hv=>by
  simp only[den,ya3]at hv ⊢;obtain⟨b,hb,rfl⟩:=hv;exact⟨b,h t b hb,rfl⟩
 |.fn f a b,v,hv=>by
  simp only[den,yc9,ya3]at hv ⊢;obtain⟨x,hx,y,hy,rfl⟩:=hv;exact⟨x,denL_mono h a x hx,y,denL_mono h b y hy,rfl⟩
 |.yld l,v,hv=>by
  simp only[den,ya3]at hv ⊢;obtain⟨b,hb,rfl⟩:=hv;exact⟨b,h l b hb,rfl⟩
 |.map t,v,hv=>by
  simp only[den,ya3]at hv ⊢;obtain⟨b,hb,rfl⟩:=hv;exact⟨b,h t b hb,rfl⟩
 |.ifc ty x,v,hv=>by
  simp only[den,ya3]at hv ⊢;obtain⟨u,hu,rfl⟩:=hv;exact⟨u,den_mono h x u hu,rfl⟩
 |.nilp,_,hv=>hv
 |.nils,_,hv=>hv
 |.nilf,_,hv=>hv
 |.nilm,_,hv=>hv
 |.nili,_,hv=>hv
 |.res _ _ _ _,_,hv=>hv
 |.void _,_,hv=>hv
theorem denL_mono{e e':Env}(h:Env.le e e'):∀(l:List CV) (vs:List Value),denL e l=some vs->denL e' l=some vs
 |[],_,hv=>hv
 |x::xs,vs,hv=>by
  simp only[denL,yc9,ya3]at hv ⊢;obtain⟨v,hx,l,hl,rfl⟩:=hv;exact⟨v,den_mono h x v hx,l,denL_mono h xs l hl,rfl⟩
end
section lists
variable{e:Env}
theorem zaj{x:CV}{xs:List CV}{vs:List Value}(h:denL e (x::xs)=some vs):∃v l,den e x=some v/\denL e xs=some l/\vs=v::l:=by
 simp only[denL,yc9,ya3]at h;obtain⟨v,hx,l,hl,rfl⟩:=h;exact⟨v,l,hx,hl,rfl⟩
theorem zar{x:CV}{xs:List CV}{v:Value}{l:List Value}(h1:den e x=some v)(h2:denL e xs=some l):denL e (x::xs)=some (v::l):=by
 simp[denL,h1,h2]
theorem zad:∀{l:List CV} {vs:List Value},denL e l=some vs->vs.length=l.length
 |[],vs,h=>by simp only[denL,ya0]at h;subst h;rfl
 |x::xs,vs,h=>by
  obtain⟨v,l,_,hl,rfl⟩:=zaj h;simp[zad hl]
theorem zaR:∀{a b:List CV} {x y:List Value},denL e a=some x->denL e b=some y->denL e (a++b)=some (x++y)
 |[],b,x,y,h1,h2=>by simp only[denL,ya0]at h1;subst h1;exact h2
 |c::a,b,x,y,h1,h2=>by
  obtain⟨v,l,hv,hl,rfl⟩:=zaj h1;exact zar hv (zaR hl h2)
theorem zbG{α : Type}:∀(l:List α) (n:Nat),nth l n=l[n]?
 |[],_=>rfl
 |x::xs,0=>rfl
 |x::xs,n+1=>by
  show nth xs n=_;rw[zbG xs n];rfl
theorem zjy:∀{l:List CV} {vs:List Value} {i:Nat} {x:CV},denL e l=some vs->l[i]? = some x->∃v,den e x=some v/\vs[i]? = some v
 |[],_,_,_,_,hx=>by simp at hx
 |y::l,vs,0,x,h,hx=>by
  obtain⟨v,r,hv,hl,rfl⟩:=zaj h;simp only[List.getElem?_cons_zero,ya0]at hx;subst hx;exact⟨v,hv,rfl⟩
 |y::l,vs,i+1,x,h,hx=>by
  obtain⟨v,r,hv,hl,rfl⟩:=zaj h;simp only[yc6]at hx ⊢;exact zjy hl hx
theorem zfe:∀{l:List CV} {vs:List Value} (n:Nat),denL e l=some vs->denL e (l.take n)=some (vs.take n)
 |[],_,n,h=>by simp only[denL,ya0]at h;subst h;simp[denL]
 |y::l,vs,0,h=>by simp[denL]
 |y::l,vs,n+1,h=>by
  obtain⟨v,r,hv,hl,rfl⟩:=zaj h;exact zar hv (zfe n hl)
theorem zle:∀{l:List CV} {vs:List Value} (n:Nat),denL e l=some vs->denL e (l.drop n)=some (vs.drop n)
 |[],_,n,h=>by simp only[denL,ya0]at h;subst h;simp[denL]
 |y::l,vs,0,h=>h
 |y::l,vs,n+1,h=>by
  obtain⟨v,r,hv,hl,rfl⟩:=zaj h;exact zle n hl
theorem zo6:∀{l:List CV} {vs:List Value} (i:Nat) {x:CV} {v:Value},denL e l=some vs->den e x=some v->denL e (l.set i x)=some (vs.set i v)
 |[],_,_,_,_,h,_=>by simp only[denL,ya0]at h;subst h;simp[denL]
 |y::l,vs,0,x,v,h,hx=>by
  obtain⟨u,r,hv,hl,rfl⟩:=zaj h;exact zar hx hl
 |y::l,vs,i+1,x,v,h,hx=>by
  obtain⟨u,r,hv,hl,rfl⟩:=zaj h;exact zar hv (zo6 i hl hx)
theorem zbl{cs l:List CV}{off n:Nat}(h:zcZ cs off n=some l):off+n<=cs.length/\l=(cs.drop off).take n:=by
 unfold zcZ at h;split at h
 ·rename_i hb;simp only[ya0]at h;exact⟨ya9 hb,h.symm⟩
 ·cases h
theorem zbu{cs l:List CV}{vs:List Value}{off n:Nat}(h:denL e cs=some vs)(ht:zcZ cs off n=some l):off+n<=vs.length/\denL e l=some ((vs.drop off).take n):=by
 obtain⟨h1,rfl⟩:=zbl ht;exact⟨by rw[zad h];exact h1,zfe n (zle off h)⟩
def zls(vs:List Value):Nat->List Value->List Value
 |_,[]=>vs
 |off,u::us=>zls (vs.set off u) (off+1) us
theorem zjB:∀{us:List CV} {cs:List CV} {off:Nat} {vs ws:List Value},denL e cs=some vs->denL e us=some ws->denL e (zax cs off us)=some (zls vs off ws)
 |[],cs,off,vs,ws,h1,h2=>by simp only[denL,ya0]at h2;subst h2;exact h1
 |u::us,cs,off,vs,ws,h1,h2=>by
  obtain⟨v,r,hv,hl,rfl⟩:=zaj h2;exact zjB (us:=us) (cs:=cs.set off u) (off:=off+1) (zo6 off h1 hv) hl
theorem zaK:∀(us cs:List CV) (off:Nat),(zax cs off us).length=cs.length
 |[],_,_=>rfl
 |u::us,cs,off=>by simp[zax,zaK us]
theorem zbY:∀(us vs:List Value) (off:Nat),(zls vs off us).length=vs.length
 |[],_,_=>rfl
 |u::us,vs,off=>by simp[zls,zbY us]
theorem zhd(pre suf:List Value):∀(us vs:List Value) (off:Nat),off+us.length<=vs.length->zls (pre++vs++suf) (pre.length+off) us=pre++zls vs off us++suf
 |[],_,_,_=>rfl
 |u::us,vs,off,h=>by
  simp only[ya7]at h;simp only[zls];rw[yc1,List.set_append_right _ _ (by omega),List.set_append_left _ _ (by omega),Nat.add_sub_cancel_left,<- yc1,Nat.add_assoc];exact zhd pre suf us _ (off+1) (by simp;omega)
theorem zuS{cs:List CV}{x:CV}{i:Nat}(h:cs.all one=true)(hx:one x=true):(cs.set i x).all one=true:=by
 rw[List.all_eq_true]at *;intro y hy;rcases List.mem_or_eq_of_mem_set hy with hy |rfl
 ·exact h y hy
 ·exact hx
theorem ze1:∀{us cs:List CV} {off:Nat},cs.all one=true->us.all one=true->(zax cs off us).all one=true
 |[],_,_,h,_=>h
 |u::us,cs,off,h,hu=>by
  simp only[List.all_cons,ya2]at hu;exact ze1 (us:=us) (cs:=cs.set off u) (off:=off+1) (zuS h hu.1) hu.2
theorem zvL{x:CV}{v:Value}(h:one x=true)(hv:den e x=some v):v.oneCell'=true:=by
 cases x<;>simp only[den,ya0,ya3,yc9]at hv<;>first
  |(subst hv;rfl)
  |(obtain⟨b,_,rfl⟩:=hv;first |rfl |(split<;>rfl))
  |(obtain⟨x,_,y,_,rfl⟩:=hv;rfl)
  |simp[one]at h
theorem zeP:∀{cs:List CV} {vs:List Value},cs.all one=true->denL e cs=some vs->∀v∈vs,v.oneCell'=true
 |[],vs,_,h=>by simp only[denL,ya0]at h;subst h;simp
 |x::xs,vs,ha,h=>by
  obtain⟨v,l,hv,hl,rfl⟩:=zaj h;simp only[List.all_cons,ya2]at ha;intro u hu;rcases List.mem_cons.1 hu with rfl |hu
  ·exact zvL ha.1 hv
  ·exact zeP ha.2 hl u hu
end lists
theorem zlR{a b:Nat}(h:a=b):Nat.beq a b=true:=by subst h;exact Nat.beq_refl a
theorem zkQ{a b:Nat}(h:a≠b):Nat.beq a b=false:=by
 cases hb:Nat.beq a b with
 |false=>rfl
 |true=>exact absurd (yb0 hb) h
section tree
variable{α : Type}
theorem Tr.get_nil(n:Nat):(Tr.nil:Tr α).get n=none:=rfl
theorem Tr.get_zero(l r:Tr α)(v:Option α):(Tr.node l v r).get 0=v:=rfl
theorem Tr.get_succ(l r:Tr α)(v:Option α)(k:Nat):(Tr.node l v r).get (k+1)=if k%2=0 then l.get (k / 2)else r.get (k / 2):=by
 show Bool.rec (motive:=fun _=>Option α) _ _ (Nat.beq (Nat.mod k 2) 0)=_;by_cases h:k%2=0
 ·rw[if_pos h,show Nat.beq (Nat.mod k 2) 0=true from zlR h];rfl
 ·rw[if_neg h,show Nat.beq (Nat.mod k 2) 0=false from zkQ h];rfl
theorem Tr.set_zero_nil(f:Nat)(x:Option α):Tr.set (f+1) (Tr.nil:Tr α) 0 x=.node .nil x .nil:=rfl
theorem Tr.set_zero_node(f:Nat)(l r:Tr α)(v x:Option α):Tr.set (f+1) (.node l v r) 0 x=.node l x r:=rfl
theorem Tr.set_succ_nil(f k:Nat)(x:Option α):Tr.set (f+1) (Tr.nil:Tr α) (k+1) x=if k%2=0 then .node (Tr.set f .nil (k / 2) x) none .nil else .node .nil none (Tr.set f .nil (k / 2) x):=by
 show Bool.rec (motive:=fun _=>Tr α) _ _ (Nat.beq (Nat.mod k 2) 0)=_;by_cases h:k%2=0
 ·rw[if_pos h,show Nat.beq (Nat.mod k 2) 0=true from zlR h];rfl
 ·rw[if_neg h,show Nat.beq (Nat.mod k 2) 0=false from zkQ h];rfl
theorem Tr.set_succ_node(f k:Nat)(l r:Tr α)(v x:Option α):Tr.set (f+1) (.node l v r) (k+1) x=if k%2=0 then .node (Tr.set f l (k / 2) x) v r else .node l v (Tr.set f r (k / 2) x):=by
 show Bool.rec (motive:=fun _=>Tr α) _ _ (Nat.beq (Nat.mod k 2) 0)=_;by_cases h:k%2=0
 ·rw[if_pos h,show Nat.beq (Nat.mod k 2) 0=true from zlR h];rfl
 ·rw[if_neg h,show Nat.beq (Nat.mod k 2) 0=false from zkQ h];rfl
theorem Tr.get_set:∀(f:Nat) (t:Tr α) (n:Nat) (x:Option α) (i:Nat),n<f->(Tr.set f t n x).get i=if i=n then x else t.get i
 |0,_,_,_,_,h=>by omega
 |f+1,.nil,0,x,i,h=>by
  rw[Tr.set_zero_nil];cases i with
  |zero=>rfl
  |succ i=>rw[Tr.get_succ];simp[Tr.get_nil]
 |f+1,.node l v r,0,x,i,h=>by
  rw[Tr.set_zero_node];cases i with
  |zero=>rfl
  |succ i=>rw[Tr.get_succ,Tr.get_succ,if_neg (by omega:¬i+1=0)]
 |f+1,.nil,k+1,x,i,h=>by
  have ih:=fun j=>Tr.get_set f (.nil:Tr α) (k / 2) x j (by omega)
  rw[Tr.set_succ_nil];cases i with
  |zero=>split<;>simp[Tr.get_zero,Tr.get_nil]
  |succ i=>
   split<;>rw[Tr.get_succ]<;>simp only[Tr.get_nil,ih]<;>by_cases h1:i%2=0<;>by_cases h2:i / 2=k / 2<;>by_cases h3:i=k<;>simp[h1,h2,h3]<;>omega
 |f+1,.node l v r,k+1,x,i,h=>by
  have ih:=fun(t:Tr α) j=>Tr.get_set f t (k / 2) x j (by omega)
  rw[Tr.set_succ_node];cases i with
  |zero=>split<;>simp[Tr.get_zero]
  |succ i=>
   split<;>rw[Tr.get_succ,Tr.get_succ]<;>simp only[ih]<;>by_cases h1:i%2=0<;>by_cases h2:i / 2=k / 2<;>by_cases h3:i=k<;>simp[h1,h2,h3]<;>omega
end tree
theorem Mem.get_put(m:Mem)(t:Nat)(o:CO)(i:Nat):(m.put t o).get i=if i=t then some o else m.get i:=Tr.get_set (t+1) m.tr t (some o) i (by omega)
theorem Mem.get_kill(m:Mem)(t i:Nat):(m.kill t).get i=if i=t then none else m.get i:=Tr.get_set (t+1) m.tr t none i (by omega)
theorem Mem.get_new(m:Mem)(o:CO)(i:Nat):(m.new o).get i=if i=m.nxt then some o else m.get i:=Tr.get_set (m.nxt+1) m.tr m.nxt (some o) i (by omega)
theorem Tmps.get_some{t:Tmps}{i:Nat}{v:CV}(h:t.get i=some v):i<t.sz/\t.tr.get i=some v:=by
 obtain⟨sz,tr⟩:=t
 change Bool.rec (motive:=fun _=>Option CV) none (tr.get i) (Nat.ble (Nat.succ i) sz)=some v at h
 cases hb:Nat.ble (Nat.succ i) sz with
 |false=>rw[hb]at h;cases h
 |true=>rw[hb]at h;exact⟨ya9 hb,h⟩
theorem Tmps.get_set{t:Tmps}{i j:Nat}{v u:CV}(h:(t.set i v).get j=some u):(j=i/\u=v/\j<t.sz)\/(j≠i/\t.get j=some u):=by
 obtain⟨sz,tr⟩:=t;obtain⟨h1,h2⟩:=Tmps.get_some h
 change j<sz at h1
 change (Tr.set (Nat.succ i) tr i (some v)).get j=some u at h2
 rw[Tr.get_set _ _ _ _ _ (by omega)]at h2;by_cases hj:j=i
 ·rw[if_pos hj]at h2;cases h2;exact .inl ⟨hj,rfl,h1⟩
 ·rw[if_neg hj]at h2;refine .inr ⟨hj,?_⟩;show Bool.rec (motive:=fun _=>Option CV) none (tr.get j) (Nat.ble (Nat.succ j) sz)=some u;rw[show Nat.ble (Nat.succ j) sz=true from yb1 h1];exact h2
theorem Tmps.set_sz(t:Tmps)(i:Nat)(v:CV):(t.set i v).sz=t.sz:=rfl
end Go.Cx
namespace Go.Cx
open Go Go.RowKit
variable{e:Env}{P:Program}{w:World}{m:Mem}
def TOk(e:Env)(t:Tmps)(vs:Array Value):Prop:=
 vs.size=t.sz/\∀(i:Nat) (x:CV),t.get i=some x->∃v,den e x=some v/\vs[i]? = some v
inductive EntsOk (e:Env):List (CV×CV×Nat)->List MapEntry->Prop where
 |nil:EntsOk e [] []
 |cons {a b:CV} {s:Nat} {es:List (CV×CV×Nat)} {k v:Value} {ms:List MapEntry}:den e a=some k->den e b=some v->EntsOk e es ms->EntsOk e ((a,b,s)::es) ({ key:=k,val:=v,born:=s }::ms)
def NoFr(fr:Nat×Nat)(n:Nat):Prop:=∀i,i<n->¬(fr.1<=i/\i<fr.2)
theorem NoFr.zero(n:Nat):NoFr (0,0) n:=fun i _ h=>by
 have:=h.2;simp at this
def zxV(w:World)(b:Nat)(row:List Value)(ty:TypeId):Prop:=∃fr,w.heap[b]? = some (.cells row.toArray ty fr)/\NoFr fr row.length
def znx(e:Env)(w:World)(t:Nat):CO->Prop
 |.cells ty cs=>∃b l,e t=some b/\b.off=0/\denL e cs=some l/\cs.all one=true/\w.heap[b.blk]? = some (.cells l.toArray ty (0,0))
 |.opn ty sz cs=>∃b l pre suf,e t=some b/\b.sz=sz/\0<sz/\pre.length=b.off/\denL e cs=some l/\cs.all one=true/\zxV w b.blk (pre++l++suf) ty/\(l++suf).length=b.cap*sz/\b.cap<=maxLen
 |.map es clock=>∃b ms,e t=some b/\EntsOk e es ms/\w.heap[b.blk]? = some (.map ms.toArray clock)
 |.loop st pe tm ps asg body d=>∃b r db,e t=some b/\e d=some db/\w.heap[b.blk]? = some (.loop r)/\r.state=st/\r.pending=pe/\TOk e tm r.tmps/\r.params=ps.toArray/\r.assign=asg/\r.body=body/\r.defers=db.blk
 |.ro cs=>∃b l pre suf ty fr,e t=some b/\pre.length=b.off/\denL e cs=some l/\cs.all one=true/\w.heap[b.blk]? = some (.cells (pre++l++suf).toArray ty fr)/\(t<64->suf=[])
 |.dfr live=>∃b,e t=some b/\w.heap[b.blk]? = some (.deferred (match live with |true=>some [] |false=>none))
def Mok(e:Env)(m:Mem)(w:World):Prop:=∀t o,m.get t=some o->znx e w t o
def VOk(P:Program)(e:Env)(w:World)(out:COut)(s:Sem Value):Prop:=
 match out with
 |.val v=>∃V,den e v=some V/\s.run P w=.ok V w
 |.no _=>True
 |_=>False
theorem zaa{t:TypeId}{d:TypeDesc}(h:P.underlying t=some d)(w:World):(underlying t).run P w=.ok d w:=run_underlying h w
theorem zkt{t:TypeId}{i:TypeInfo}(h:P.info? t=some i)(w:World):(typeInfo t).run P w=.ok i w:=by simp[typeInfo,h]
theorem zag{t:TypeId}{i:TypeInfo}(h:P.info? t=some i)(w:World):(sizeOf t).run P w=.ok i.size w:=by simp[sizeOf,zkt h]
theorem zgh{t:TypeId}(h:zdT P t=some none):∀w,(isAgg t).run P w=.ok false w:=by
 unfold zdT at h;split at h
 ·split at h<;>simp at h
 ·split at h<;>simp at h
 ·rename_i d h1 h2 hd;intro w;cases d<;>first |(exact absurd rfl (h1 _)) |(exact absurd rfl (h2 _ _)) |simp[isAgg,zaa hd]
 ·simp at h
theorem zgq{t:TypeId}{n:Nat}(h:zdT P t=some (some n)):(∀w,(isAgg t).run P w=.ok true w)/\(∀w,(sizeOf t).run P w=.ok n w):=by
 unfold zdT at h;split at h
 ·rename_i fs hd;split at h
  ·rename_i i hi;simp at h;subst h;exact⟨fun w=>by simp[isAgg,zaa hd],fun w=>zag hi w⟩
  ·simp at h
 ·rename_i l el hd;split at h
  ·rename_i i hi;simp at h;subst h;exact⟨fun w=>by simp[isAgg,zaa hd],fun w=>zag hi w⟩
  ·simp at h
 ·simp at h
 ·simp at h
theorem zaW{w:World}{b off:Nat}{cs:Array Value}{t:TypeId}{fr:Nat×Nat}(h:w.heap[b]? = some (.cells cs t fr)):w.cell? ⟨b,off,none⟩=cs[off]? := by
 simp[World.cell?,h]
theorem zg7{t:TypeId}{n b off:Nat}{cs:List Value}{ty:TypeId}{fr:Nat×Nat}(hs:zdT P t=some (some n))(h:w.heap[b]? = some (.cells cs.toArray ty fr))(hn:off+n<=cs.length):
  (loadVar t ⟨b,off,none⟩).run P w=.ok (.agg ((cs.drop off).take n).toArray) w:=by
 obtain⟨h1,h2⟩:=zgq hs;have hl:((cs.drop off).take n).length=n:=by simp;omega
 have:=run_loadCells_list (P:=P) w ⟨b,off,none⟩ ((cs.drop off).take n) (fun j v hj=>by
  rw[Addr.add_lit,zaW h];rw[List.getElem?_take]at hj;split at hj
  ·rw[List.getElem?_drop]at hj;simpa using hj
  ·cases hj)
 rw[hl]at this;simp[loadVar,h1,h2,this]
theorem zht{t:TypeId}{b off:Nat}{cs:Array Value}{ty:TypeId}{fr:Nat×Nat}{v:Value}(hs:zdT P t=some none)(h:w.heap[b]? = some (.cells cs ty fr))(hv:cs[off]? = some v):
  (loadVar t ⟨b,off,none⟩).run P w=.ok v w:=by
 have h1:=zgh hs;have hc:w.cell? ⟨b,off,none⟩=some v:=by rw[zaW h,hv]
 simp[loadVar,h1,hc]
theorem zwj{t:Nat}{cs:List CV}(hm:Mok e m w)(h:zdW m t=some cs):∃b l pre suf ty fr,e t=some b/\pre.length=b.off/\denL e cs=some l/\w.heap[b.blk]? = some (.cells (pre++l++suf).toArray ty fr):=by
 unfold zdW at h;split at h
 ·rename_i ty cs' ho;simp only[ya0]at h;subst h;obtain⟨b,l,h1,h2,h3,h4,h5⟩:=hm _ _ ho;exact⟨b,l,[],[],ty,_,h1,by simp[h2],h3,by simpa using h5⟩
 ·rename_i ty sz cs' ho;simp only[ya0]at h;subst h;obtain⟨b,l,pre,suf,h1,_,_,h4,h5,_,⟨fr,h6,_⟩,_⟩:=hm _ _ ho;exact⟨b,l,pre,suf,ty,fr,h1,h4,h5,h6⟩
 ·rename_i cs' ho;simp only[ya0]at h;subst h;obtain⟨b,l,pre,suf,ty,fr,h1,h2,h3,h4,h5,_⟩:=hm _ _ ho;exact⟨b,l,pre,suf,ty,fr,h1,h2,h3,h5⟩
 ·cases h
theorem zdy{t:TypeId}{cs:List CV}{l:List Value}{off:Nat}{v:CV}(hd:denL e cs=some l)(h:part P t cs off=some v):
  ∃V,den e v=some V/\(∀w,(Go.part t l.toArray off).run P w=.ok V w) /\
   ∀(w:World) (b o2:Nat) (pre suf:List Value) (ty:TypeId) (fr:Nat×Nat),pre.length=o2->w.heap[b]? = some (.cells (pre++l++suf).toArray ty fr)->(loadVar t ⟨b,o2+off,none⟩).run P w=.ok V w:=by
 unfold part at h;split at h
 ·rename_i hs;rw[zbG]at h;obtain⟨V,hV,hl⟩:=zjy hd h;have hlt:off<l.length:=(List.getElem?_eq_some_iff.1 hl).1;refine⟨V,hV,fun w=>by simp[Go.part,zgh hs,hl],fun w b o2 pre suf ty fr hp hh=>zht hs hh ?_⟩;subst hp;rw[List.getElem?_toArray,yc1,yd0 (by omega),Nat.add_sub_cancel_left,yb8 hlt,hl]
 ·rename_i n hs;split at h
  ·rename_i l' ht;simp only[ya0]at h;subst h;obtain⟨h1,h2⟩:=zbu hd ht;refine⟨.agg ((l.drop off).take n).toArray,by simp[den,h2],fun w=>?_,fun w b o2 pre suf ty fr hp hh=>?_⟩
   ·obtain⟨k1,k2⟩:=zgq hs;simp[Go.part,k1,k2]
   ·subst hp;rw[zg7 hs hh (by simp;omega)];rw[yc1,<- List.drop_drop,List.drop_left,List.drop_append_of_le_length (by omega),List.take_append_of_le_length (by simp;omega)]
  ·cases h
 ·cases h
theorem zig{t off:Nat}{V:Value}(h:den e (.ptr t off)=some V):∃b,e t=some b/\V=.pointer (some ⟨b.blk,b.off+off,none⟩):=by
 simp only[den,ya3]at h;obtain⟨b,hb,rfl⟩:=h;exact⟨b,hb,rfl⟩
theorem znP(hm:Mok e m w){x:CV}{V:Value}(hx:den e x=some V)(t:TypeId):VOk P e w (zdC P m t x) (Instr.loadAt t V):=by
 unfold zdC;split
 ·rename_i tag off;split
  ·rename_i cs hc;split
   ·rename_i v hp;obtain⟨b,l,pre,suf,ty,fr,h1,h2,h3,h4⟩:=zwj hm hc;obtain⟨b',hb',rfl⟩:=zig hx;obtain rfl:b=b':=by rw[h1]at hb';cases hb';rfl
    obtain⟨U,hU,_,hl⟩:=zdy h3 hp;refine⟨U,hU,?_⟩;simp only[Instr.loadAt,Instr.sureAddr,Sem.run_bind,Sem.run_pure,Result.andThen_ok];exact hl w b.blk b.off pre suf ty fr h2 h4
   ·trivial
  ·trivial
 ·trivial
theorem zjR{x:CV}{V:Value}(hx:den e x=some V)(s:TypeId)(f:Nat):VOk P e w (za5 P s x f) (Instr.fieldAt s V f):=by
 unfold za5;split
 ·rename_i fs hu;split
  ·rename_i fd hf;rw[zbG]at hf;have hf':fs[f]? = some fd:=by simpa using hf
   split
   ·rename_i i hi;split
    ·trivial
    ·rename_i k hk;split
     ·rename_i t off;obtain⟨b,hb,rfl⟩:=zig hx;refine⟨.pointer (some ⟨b.blk,b.off+(off+fd.offset),none⟩),?_,?_⟩
      ·show(e t).map _=_;rw[hb];rfl
      ·simp[Instr.fieldAt,zaa hu,hf',Instr.sureAddr,fieldPlace,zag hi,hk,Addr.add_lit,Nat.add_assoc]
     ·trivial
   ·trivial
  ·trivial
 ·trivial
theorem zqw{x:CV}{V:Value}(hx:den e x=some V)(t:TypeId)(f:Nat):VOk P e w (zfx P t x f) (Instr.field t V f):=by
 unfold zfx;split
 ·rename_i fs cs hu;split
  ·rename_i fd hf;rw[zbG]at hf;have hf':fs[f]? = some fd:=by simpa using hf
   split
   ·rename_i v hp;simp only[den,ya3]at hx;obtain⟨l,hl,rfl⟩:=hx;obtain⟨U,hU,hr,_⟩:=zdy hl hp;exact⟨U,hU,by simp[Instr.field,zaa hu,hf',asAgg,hr w]⟩
   ·trivial
  ·trivial
 ·trivial
theorem zvj{s:List Nat}{n b:Nat}(h:s[n]? = some b):(⟨(s.map UInt8.ofNat).toArray⟩:ByteArray)[n]? = some (UInt8.ofNat b):=by
 have hlt:n<s.length:=(List.getElem?_eq_some_iff.1 h).1;rw[ByteArray.getElem?_lt' _ _ (by show n<(s.map UInt8.ofNat).toArray.size;simpa using hlt)];have:s[n]=b:=(List.getElem?_eq_some_iff.1 h).2;subst this;congr 1;show(s.map UInt8.ofNat).toArray[n]'(by simpa using hlt)=_;simp
theorem zq5{x i:CV}{V J:Value}(hx:den e x=some V)(hi:den e i=some J)(t:TypeId):VOk P e w (zdK P t x i) (Instr.index t V J):=by
 unfold zdK;split
 ·rename_i hu;unfold zuP;split
  ·rename_i s;split
   ·rename_i k n;split
    ·rename_i b hb;rw[zbG]at hb;simp only[den,ya0]at hx hi;subst hx;subst hi;refine⟨.int .u8 ((b%256:Nat):Int),rfl,?_⟩;have:=zvj hb;simp[Instr.index,asIntOf,zaa hu,this]
    ·trivial
   ·trivial
  ·trivial
 ·rename_i len elem hu;unfold zvB;split
  ·rename_i cs;split
   ·rename_i k n;split
    ·rename_i inf hinf;split
     ·rename_i hlt;split
      ·rename_i v hp;have hlt:n<len:=by simpa[Nat.blt_eq]using hlt
       simp only[den,ya0,ya3]at hx hi;obtain⟨l,hl,rfl⟩:=hx;subst hi;obtain⟨U,hU,hr,_⟩:=zdy hl hp;refine⟨U,hU,?_⟩;have:=hr w;simp[Instr.index,asIntOf,zaa hu,hlt,zag hinf,this]
      ·trivial
     ·trivial
    ·trivial
   ·trivial
  ·trivial
 ·trivial
theorem zkB(hm:Mok e m w){x i:CV}{V J:Value}(hx:den e x=some V)(hi:den e i=some J)(t:TypeId):VOk P e w (zai P m t x i) (Instr.indexAt t V J):=by
 unfold zai;split
 ·rename_i elem hu;unfold zg9;split
  ·rename_i tag off n c;unfold zp3;split
   ·rename_i kk k;split
    ·rename_i inf hinf;split
     ·rename_i hlt;have hlt:k<n:=by simpa[Nat.blt_eq]using hlt
      simp only[den,ya0,ya3]at hx hi;obtain⟨b,hb,rfl⟩:=hx;subst hi;refine⟨.pointer (some ⟨b.blk,b.off+(off+k*inf.size),none⟩),?_,?_⟩
      ·show(e tag).map _=_;rw[hb];rfl
      ·simp[Instr.indexAt,asIntOf,zaa hu,hlt,zag hinf,Addr.add_lit,Nat.add_assoc]
     ·trivial
    ·trivial
   ·trivial
  ·rename_i tag k0 n;unfold zpS;split
   ·rename_i kk k;split
    ·rename_i inf hinf;split
     ·rename_i ty sz cs ho;split
      ·rename_i hlt;simp only[ya2]at hlt;have hlt1:k<n:=by simpa[Nat.blt_eq]using hlt.1
       have hsz:sz=inf.size:=yb0 hlt.2;obtain⟨b',_,_,_,h1,h2,_⟩:=hm _ _ ho;simp only[den,ya0,ya3]at hx hi;obtain⟨b,hb,rfl⟩:=hx;subst hi;obtain rfl:b'=b:=by rw[h1]at hb;cases hb;rfl
       refine⟨.pointer (some ⟨b'.blk,b'.off+(k0+k)*sz,none⟩),?_,?_⟩
       ·show(e tag).map _=_;rw[hb];rfl
       ·simp[Instr.indexAt,asIntOf,zaa hu,hlt1,zag hinf,Addr.add_lit,Nat.add_assoc,h2,hsz,Nat.add_mul]
      ·trivial
     ·trivial
    ·trivial
   ·trivial
  ·trivial
 ·rename_i len elem hu;unfold zvG;split
  ·rename_i tag off;unfold zp3;split
   ·rename_i kk k;split
    ·rename_i inf hinf;split
     ·rename_i hlt;have hlt:k<len:=by simpa[Nat.blt_eq]using hlt
      simp only[den,ya0,ya3]at hx hi;obtain⟨b,hb,rfl⟩:=hx;subst hi;refine⟨.pointer (some ⟨b.blk,b.off+(off+k*inf.size),none⟩),?_,?_⟩
      ·show(e tag).map _=_;rw[hb];rfl
      ·simp[Instr.indexAt,asIntOf,zaa hu,hlt,zag hinf,Addr.add_lit,Nat.add_assoc,Instr.sureAddr]
     ·trivial
    ·trivial
   ·trivial
  ·trivial
 ·trivial
theorem zfr(s:List Nat):(⟨(s.map UInt8.ofNat).toArray⟩:ByteArray).size=s.length:=by show(s.map UInt8.ofNat).toArray.size=_;simp
theorem zbH{b:Nat}{es:Array MapEntry}{c:Nat}(h:w.heap[b]? = some (.map es c)):(getObj b).run P w=.ok (.map es c) w:=by simp[getObj,Sem.run,h]
theorem zuO(hm:Mok e m w){x:CV}{V:Value}(hx:den e x=some V)(t ty:TypeId):VOk P e w (ztd P m t x) (Builtin.len_ #[t] ty #[V]):=by
 unfold ztd;split
 ·rename_i hu;unfold zq2;split
  ·rename_i s;simp only[den,ya0]at hx;subst hx;exact⟨_,rfl,by simp[Builtin.len_,zaa hu,goInt,zfr]⟩
  ·trivial
 ·rename_i el hu;unfold ztX;split
  ·simp only[den,ya3]at hx;obtain⟨b,_,rfl⟩:=hx;exact⟨_,rfl,by simp[Builtin.len_,zaa hu,goInt]⟩
  ·simp only[den,ya3]at hx;obtain⟨b,_,rfl⟩:=hx;exact⟨_,rfl,by simp[Builtin.len_,zaa hu,goInt]⟩
  ·simp only[den,ya3]at hx;obtain⟨b,_,rfl⟩:=hx;refine⟨_,rfl,?_⟩;split<;>simp[Builtin.len_,zaa hu,goInt]
  ·simp only[den,ya0]at hx;subst hx;exact⟨_,rfl,by simp[Builtin.len_,zaa hu,goInt]⟩
  ·simp only[den,ya0]at hx;subst hx;exact⟨_,rfl,by simp[Builtin.len_,zaa hu,goInt]⟩
  ·trivial
 ·rename_i n el hu;exact⟨_,rfl,by simp[Builtin.len_,zaa hu,goInt]⟩
 ·rename_i kt et hu;unfold zk7;split
  ·simp only[den,ya0]at hx;subst hx;exact⟨_,rfl,by simp[Builtin.len_,zaa hu,goInt]⟩
  ·rename_i tag;split
   ·rename_i es clock ho;obtain⟨b,ms,h1,h2,h3⟩:=hm _ _ ho;simp only[den,ya3]at hx;obtain⟨b',hb',rfl⟩:=hx;obtain rfl:b=b':=by rw[h1]at hb';cases hb';rfl
    have hlen:es.length=ms.length:=by
     clear h1 h3 ho hb'
     induction h2 with
     |nil=>rfl
     |cons _ _ _ ih=>simp[ih]
    exact⟨_,rfl,by simp[Builtin.len_,zaa hu,goInt,zbH h3,hlen]⟩
   ·trivial
  ·trivial
 ·trivial
end Go.Cx
namespace Go.Cx
open Go Go.RowKit
variable{e:Env}{P:Program}{w:World}{m:Mem}
theorem za8{a b:IntKind}(h:kEq a b=true):a=b:=by
 cases a<;>cases b<;>first |rfl |(simp[kEq,zxo]at h)
theorem zbm(k:IntKind)(n:Int):zkg k n=k.wrap n:=by
 unfold zkg;split
 ·rename_i a;split
  ·rename_i h;have h:a<zxD k:=by simpa[Nat.blt_eq]using h
   have h0:(0:Int)<=Int.ofNat a:=Int.natCast_nonneg a;have h1:(Int.ofNat a:Int)=(a:Int):=rfl;cases k<;>simp only[zxD]at h<;>simp[IntKind.wrap,IntKind.bits,IntKind.signed]<;>omega
  ·rfl
 ·rfl
theorem zb9(a b:Int):ieq a b=(a==b):=by
 have h:ieq a b=true↔a=b:=by
  cases a<;>cases b<;>simp[ieq]<;>omega
 exact Bool.eq_iff_iff.2 (by rw[h];simp)
theorem zch(a b:Int):ilt a b=decide (a<b):=by
 have h:ilt a b=true↔a<b:=by
  cases a<;>cases b<;>simp[ilt,Nat.blt_eq]<;>omega
 exact Bool.eq_iff_iff.2 (by rw[h];simp)
theorem zhc:∀(a b:List Nat),zjc a b=(a.map UInt8.ofNat==b.map UInt8.ofNat)
 |[],[]=>rfl
 |[],_::_=>rfl
 |_::_,[]=>rfl
 |a::x,b::y=>by
  have h:(UInt8.ofNat a==UInt8.ofNat b)=Nat.beq (a%256) (b%256):=by
   by_cases h:a%256=b%256
   ·rw[zlR h];simp[<- UInt8.toNat_inj,h]
   ·rw[zkQ h];simp[<- UInt8.toNat_inj,h]
  simp only[zjc,List.map_cons];rw[List.cons_beq_cons,h,<- zhc x y];cases Nat.beq (a%256) (b%256)<;>rfl
theorem zur:∀(a b:List Nat),ltL a b=Op.bytesLess (a.map UInt8.ofNat) (b.map UInt8.ofNat)
 |[],[]=>rfl
 |[],_::_=>rfl
 |_::_,[]=>rfl
 |a::x,b::y=>by
  have h:(UInt8.ofNat a==UInt8.ofNat b)=Nat.beq (a%256) (b%256):=by
   by_cases h:a%256=b%256
   ·rw[zlR h];simp[<- UInt8.toNat_inj,h]
   ·rw[zkQ h];simp[<- UInt8.toNat_inj,h]
  have h2:decide (UInt8.ofNat a<UInt8.ofNat b)=Nat.blt (a%256) (b%256):=by
   by_cases h:a%256<b%256
   ·rw[show Nat.blt (a%256) (b%256)=true by simpa[Nat.blt_eq]using h];simp[UInt8.lt_iff_toNat_lt,h]
   ·rw[show Nat.blt (a%256) (b%256)=false by(cases hb:Nat.blt (a%256) (b%256)with |false=>rfl |true=>exact absurd (by simpa[Nat.blt_eq]using hb) h)];simp[UInt8.lt_iff_toNat_lt,h]
  simp only[ltL,List.map_cons,Op.bytesLess];rw[h,h2,<- zur x y];cases Nat.blt (a%256) (b%256)<;>cases Nat.beq (a%256) (b%256)<;>rfl
theorem zdM{cs:List CV}{V:Value}(h:den e (.agg cs)=some V):∃l,denL e cs=some l/\V=.agg l.toArray:=by
 simp only[den,ya3]at h;obtain⟨l,hl,rfl⟩:=h;exact⟨l,hl,rfl⟩
theorem zqt{eq:TypeId->CV->CV->Option Bool}{D:Nat}(heq:∀t x y b X Y,eq t x y=some b->den e x=some X->den e y=some Y->∀w,(Op.equalIn D t X Y).run P w=.ok b w){xs ys:List CV}{lx ly:List Value}
  (hx:denL e xs=some lx) (hy:denL e ys=some ly):∀(fs:List Field) (b:Bool),ztY P eq xs ys fs=some b->∀w,(Op.eqFields D lx.toArray ly.toArray fs).run P w=.ok b w
 |[],b,h,w=>by
  simp only[ztY,ya0]at h;simp[Op.eqFields,<- h]
 |f::fs,b,h,w=>by
  unfold ztY at h;split at h
  ·cases h
  ·rename_i hn;have hn':f.name ≠ "_" := by simpa using hn
   split at h
   ·rename_i a a' ha ha';obtain⟨A,hA,rA,_⟩:=zdy hx ha;obtain⟨A',hA',rA',_⟩:=zdy hy ha';split at h
    ·rename_i hab;have e1:=heq _ _ _ _ _ _ hab hA hA' w;have e2:=zqt heq hx hy fs b h w;simp[Op.eqFields,hn',rA,rA',e1,e2]
    ·rename_i r hr;have e1:=heq _ _ _ b _ _ h hA hA' w;cases b with
     |true=>exact absurd h (by simpa using hr)
     |false=>simp[Op.eqFields,hn',rA,rA',e1]
   ·cases h
theorem zrp{eq:TypeId->CV->CV->Option Bool}{D:Nat}(heq:∀t x y b X Y,eq t x y=some b->den e x=some X->den e y=some Y->∀w,(Op.equalIn D t X Y).run P w=.ok b w){xs ys:List CV}{lx ly:List Value}{el:TypeId}{sz:Nat}
  (hx:denL e xs=some lx) (hy:denL e ys=some ly):∀(n i:Nat) (b:Bool),zwf P eq el sz xs ys i n=some b->∀w,(Op.eqItems D el sz lx.toArray ly.toArray (List.range' i n)).run P w=.ok b w
 |0,i,b,h,w=>by
  simp only[zwf,ya0]at h;simp[Op.eqItems,<- h]
 |n+1,i,b,h,w=>by
  unfold zwf at h;split at h
  ·rename_i a a' ha ha';obtain⟨A,hA,rA,_⟩:=zdy hx ha;obtain⟨A',hA',rA',_⟩:=zdy hy ha';rw[List.range'_succ];split at h
   ·rename_i hab;have e1:=heq _ _ _ _ _ _ hab hA hA' w;have e2:=zrp heq hx hy n (i+1) b h w;simp[Op.eqItems,rA,rA',e1,e2]
   ·rename_i r hr;have e1:=heq _ _ _ b _ _ h hA hA' w;cases b with
    |true=>exact absurd h (by simpa using hr)
    |false=>simp[Op.eqItems,rA,rA',e1]
  ·cases h
theorem zaT{k:IntKind}{n:Int}{V:Value}(h:den e (.int k n)=some V):V=.int k n:=by simpa[den]using h.symm
theorem zbP{s:List Nat}{V:Value}(h:den e (.str s)=some V):V=.string ⟨(s.map UInt8.ofNat).toArray⟩:=by simpa[den]using h.symm
theorem zbv{b:Bool}{V:Value}(h:den e (.bool b)=some V):V=.bool b:=by simpa[den]using h.symm
theorem zul:∀(d:Nat) (t:TypeId) (x y:CV) (b:Bool) (X Y:Value),ceq P d t x y=some b->den e x=some X->den e y=some Y->∀D,d<=D->∀w,(Op.equalIn D t X Y).run P w=.ok b w
 |0,t,x,y,b,X,Y,h,_,_,_,_,_=>by simp[ceq]at h
 |d+1,t,x,y,b,X,Y,h,hx,hy,D,hD,w=>by
  obtain⟨D,rfl⟩:∃k,D=k+1:=⟨D - 1,by omega⟩
  have ih:∀t x y b X Y,ceq P d t x y=some b->den e x=some X->den e y=some Y->∀w,(Op.equalIn D t X Y).run P w=.ok b w:=fun t x y b X Y h1 h2 h3 w=>zul d t x y b X Y h1 h2 h3 D (by omega) w
  change (match P.underlying t with
   |some (.int _)=>zl2
   |some .string=>zlv
   |some .bool=>zh8
   |some (.pointer el)=>zlC P el
   |some (.interface _)=>zrD P (ceq P d)
   |some (.slice _)=>zr7
   |some (.func _ _ _)=>zwT
   |some (.map _ _)=>ztb
   |some (.struct fs)=>zfj P (ceq P d) t fs.toList
   |some (.array n el)=>ztM P (ceq P d) el n
   |_=>fun _ _=>none) x y=some b at h
  generalize hu:P.underlying t=u at h;split at h
  ·rename_i k;unfold zl2 at h;split at h
   ·split at h
    ·rename_i hk;obtain rfl:=za8 hk;obtain rfl:=zaT hx;obtain rfl:=zaT hy;simp only[ya0]at h;subst h;rw[zb9];exact run_equalIn_int w D t _ _ _ _ hu
    ·cases h
   ·cases h
  ·unfold zlv at h;split at h
   ·rename_i sa sb;obtain rfl:=zbP hx;obtain rfl:=zbP hy;simp only[ya0]at h;subst h;rw[zhc];have:=run_equalIn_string (P:=P) w D t ⟨(sa.map UInt8.ofNat).toArray⟩ ⟨(sb.map UInt8.ofNat).toArray⟩ hu;simpa using this
   ·cases h
  ·unfold zh8 at h;split at h
   ·rename_i a c;obtain rfl:=zbv hx;obtain rfl:=zbv hy;simp only[ya0]at h;subst h;have:=run_equalIn_bool' (P:=P) w D t a c hu;rw[this];cases a<;>cases c<;>rfl
   ·cases h
  ·rename_i el;unfold zlC at h;split at h
   ·simp only[ya0]at h;subst h;simp only[den,ya0]at hx hy;subst hx;subst hy;simp[Op.equalIn,zaa hu]
   ·simp only[ya0]at h;subst h;simp only[den,ya0,ya3]at hx hy;obtain⟨b,_,rfl⟩:=hx;subst hy;simp[Op.equalIn,zaa hu]
   ·simp only[ya0]at h;subst h;simp only[den,ya0,ya3]at hx hy;obtain⟨b,_,rfl⟩:=hy;subst hx;simp[Op.equalIn,zaa hu]
   ·split at h
    ·rename_i a1 b1 a2 b2 _ j hb hj;simp only[ya2]at hb;obtain rfl:=yb0 hb.1;obtain rfl:=yb0 hb.2;simp only[ya0]at h;subst h;rw[hx]at hy;obtain rfl:=Option.some.inj hy;simp only[den,ya3]at hx;obtain⟨b,_,rfl⟩:=hx;simp[Op.equalIn,zaa hu,sizeOf,typeInfo,hj,run_sameAddr_same]
    ·cases h
   ·cases h
  ·rename_i ms;unfold zrD at h;split at h
   ·simp only[ya0]at h;subst h;simp only[den,ya0,ya3]at hx hy;subst hx;subst hy;simp[Op.equalIn,zaa hu]
   ·simp only[ya0]at h;subst h;simp only[den,ya0,ya3]at hx hy;obtain⟨b,_,rfl⟩:=hy;subst hx;simp[Op.equalIn,zaa hu]
   ·simp only[ya0]at h;subst h;simp only[den,ya0,ya3]at hx hy;obtain⟨b,_,rfl⟩:=hx;subst hy;simp[Op.equalIn,zaa hu]
   ·rename_i ta va tb vb;simp only[den,ya3]at hx hy;obtain⟨VA,hVA,rfl⟩:=hx;obtain⟨VB,hVB,rfl⟩:=hy;split at h
    ·rename_i htt;have htt:=yb0 htt;subst htt;unfold zrB at h;split at h
     ·rename_i i hi;split at h
      ·rename_i hcmp;have hrec:=ih ta va vb b VA VB h hVA hVB w;have hnc:¬((!i.comparable)=true):=by rw[hcmp];simp
       simp only[Op.equalIn,Sem.run_bind,zaa hu,Result.andThen_ok];rw[if_neg (by simp)];simp only[Sem.run_bind,zkt hi,Result.andThen_ok];rw[if_neg hnc];exact hrec
      ·cases h
     ·cases h
    ·rename_i htt;simp only[ya0]at h;subst h;have hne:ta≠tb:=fun hq=>by rw[zlR hq]at htt;cases htt
     simp[Op.equalIn,zaa hu,hne]
   ·cases h
  ·rename_i el;unfold zr7 at h;split at h<;>simp only[ya0,reduceCtorEq]at h<;>subst h<;>simp only[den,ya0,ya3]at hx hy
   ·subst hx;subst hy;simp[Op.equalIn,zaa hu]
   ·obtain⟨b,_,rfl⟩:=hx;subst hy;simp[Op.equalIn,zaa hu]
   ·obtain⟨b,_,rfl⟩:=hx;subst hy;simp[Op.equalIn,zaa hu]
   ·obtain⟨b,_,rfl⟩:=hx;subst hy;split<;>simp[Op.equalIn,zaa hu]
   ·subst hx;subst hy;simp[Op.equalIn,zaa hu]
  ·rename_i p1 p2 p3;unfold zwT at h;split at h<;>simp only[ya0,reduceCtorEq]at h<;>subst h<;>simp only[den,ya0,ya3,yc9]at hx hy
   ·obtain⟨_,_,_,_,rfl⟩:=hx;subst hy;simp[Op.equalIn,zaa hu]
   ·subst hx;subst hy;simp[Op.equalIn,zaa hu]
  ·rename_i p1 p2;unfold ztb at h;split at h<;>simp only[ya0,reduceCtorEq]at h<;>subst h<;>simp only[den,ya0,ya3]at hx hy
   ·obtain⟨b,_,rfl⟩:=hx;subst hy;simp[Op.equalIn,zaa hu]
   ·subst hx;subst hy;simp[Op.equalIn,zaa hu]
  ·rename_i fs;unfold zfj at h;split at h
   ·split at h
    ·cases h
    ·rename_i hp;obtain⟨lx,hlx,rfl⟩:=zdM hx;obtain⟨ly,hly,rfl⟩:=zdM hy;have hf:P.fieldsOf t=fs:=by unfold Program.fieldsOf;rw[hu]
     have:=run_equalIn_struct (P:=P) w D t lx.toArray ly.toArray (by rw[hf];exact hu) hp;rw[hf]at this;rw[this];exact zqt ih hlx hly _ _ h w
   ·cases h
  ·rename_i n el;unfold ztM at h;split at h
   ·split at h
    ·rename_i inf hi;obtain⟨lx,hlx,rfl⟩:=zdM hx;obtain⟨ly,hly,rfl⟩:=zdM hy;rw[run_equalIn_array w D lx.toArray ly.toArray hu hi,show P.cellsOf el=inf.size by simp[Program.cellsOf,hi],List.range_eq_range'];exact zrp ih hlx hly n 0 b h w
    ·cases h
   ·cases h
  ·cases h
def zsy(V:Value):Prop:=(∀k n,V≠.int k n)/\(∀k n,V≠.float k n)/\(∀k a b,V≠.complex k a b)/\(∀s,V≠.string s)
theorem zuY{V U:Value}(h:zsy V)(t:TypeId):binOp .eql t V U=(do pure (.bool (<- Op.equal t V U))):=by
 cases V<;>first
  |rfl
  |exact absurd rfl (h.1 _ _)
  |exact absurd rfl (h.2.1 _ _)
  |exact absurd rfl (h.2.2.1 _ _ _)
  |exact absurd rfl (h.2.2.2 _)
  |(cases U<;>rfl)
theorem zvw{V U:Value}(h:zsy V)(t:TypeId):binOp .neq t V U=(do pure (.bool (!(<- Op.equal t V U)))):=by
 cases V<;>first
  |rfl
  |exact absurd rfl (h.1 _ _)
  |exact absurd rfl (h.2.1 _ _)
  |exact absurd rfl (h.2.2.1 _ _ _)
  |exact absurd rfl (h.2.2.2 _)
  |(cases U<;>rfl)
theorem zj1{op:BinOp}{t:TypeId}{X Y:Operand}{V U:Value}(h1:¬(V=.nilIface/\U=.nilIface))(h2:¬((∃a,V=.agg a)/\∃b,U=.agg b)):eqGuard op t X Y V U=pure ():=by
 cases V<;>first
  |(cases op<;>rfl)
  |(cases U<;>first
    |exact absurd ⟨rfl,rfl⟩ h1
    |exact absurd ⟨⟨_,rfl⟩,_,rfl⟩ h2
    |(cases op<;>rfl))
theorem zqd{neg:Bool}{t:TypeId}{x y:CV}{V U:Value}(hx:den e x=some V)(hy:den e y=some U)(hV:zsy V){X Y:Operand}
  (hg:∀op,(eqGuard op t X Y V U).run P w=.ok () w):
  VOk P e w (ofB neg (ceq P 40 t x y)) (do eqGuard (match neg with |true=>.neq |false=>.eql) t X Y V U;binOp (match neg with |true=>.neq |false=>.eql) t V U):=by
 cases hc:ceq P 40 t x y with
 |none=>cases neg<;>trivial
 |some b=>
  have h:=zul (e:=e) 40 t x y b V U hc hx hy 10000 (by omega) w;cases neg
  ·refine⟨.bool b,rfl,?_⟩;simp only[Sem.run_bind,hg,Result.andThen_ok,zuY hV,Op.equal,Op.maxDepth,h];rfl
  ·refine⟨.bool (!b),rfl,?_⟩;simp only[Sem.run_bind,hg,Result.andThen_ok,zvw hV,Op.equal,Op.maxDepth,h];rfl
theorem zxJ{x:CV}{V:Value}(hx:den e x=some V)(h1:∀k n,x≠.int k n)(h2:∀s,x≠.str s)(h3:∀z k r h,x≠.res z k r h):zsy V:=by
 cases x<;>simp only[den,ya0,ya3,yc9]at hx<;>first
  |exact absurd rfl (h1 _ _)
  |exact absurd rfl (h2 _)
  |exact absurd rfl (h3 _ _ _ _)
  |(subst hx;exact⟨by simp,by simp,by simp,by simp⟩)
  |(obtain⟨_,_,rfl⟩:=hx;first |(split<;>exact⟨by simp,by simp,by simp,by simp⟩) |exact⟨by simp,by simp,by simp,by simp⟩)
  |(obtain⟨_,_,_,_,rfl⟩:=hx;exact⟨by simp,by simp,by simp,by simp⟩)
theorem zom{x:CV}(hx:den e x=some .nilIface):x=.nili:=by
 cases x<;>simp only[den,ya0,ya3,yc9,reduceCtorEq,and_false,exists_false]at hx<;>first
  |rfl
  |(obtain⟨b,_,h⟩:=hx;split at h<;>cases h)
theorem zh6{x:CV}{a:Array Value}(hx:den e x=some (.agg a)):∃l,x=.agg l:=by
 cases x<;>simp only[den,ya0,ya3,yc9,reduceCtorEq,and_false,exists_false]at hx<;>first
  |exact⟨_,rfl⟩
  |(obtain⟨b,_,h⟩:=hx;split at h<;>cases h)
theorem zm7{X Y:Operand}(h:(zis X||zis Y)=true)(op:BinOp)(t:TypeId)(w:World):(eqGuard op t X Y .nilIface .nilIface).run P w=.ok () w:=by
 cases X<;>cases Y<;>first
  |(simp[zis]at h;done)
  |(cases op<;>simp[eqGuard])
theorem zuq{neg:Bool}{t:TypeId}{x y:CV}{V U:Value}(hx:den e x=some V)(hy:den e y=some U)(hV:zsy V)(X Y:Operand):
  VOk P e w (cEq P (zis X||zis Y) neg t x y) (do eqGuard (match neg with |true=>.neq |false=>.eql) t X Y V U;binOp (match neg with |true=>.neq |false=>.eql) t V U):=by
 unfold cEq;split
 ·rename_i hk;split
  ·rename_i hl;refine zqd hx hy hV fun op=>?_
   unfold zhm at hk;split at hk<;>try cases hk
   simp only[den,ya0]at hx hy;subst hx;subst hy;exact zm7 hl op t w
  ·trivial
 ·rename_i hk;split
  ·trivial
  ·rename_i hg;refine zqd hx hy hV fun op=>?_
   unfold zhm at hk;split at hk<;>try cases hk
   obtain⟨l,_,rfl⟩:=zdM hx;obtain⟨l',_,rfl⟩:=zdM hy;exact run_eqGuard_agg w op t X Y _ _ hg
 ·rename_i h0 h1;refine zqd hx hy hV fun op=>?_
  rw[zj1]
  ·rfl
  ·rintro⟨rfl,rfl⟩;rw[zom hx,zom hy]at h0;exact h0 rfl
  ·rintro⟨⟨a,rfl⟩,b,rfl⟩;obtain⟨l,rfl⟩:=zh6 hx;obtain⟨l',rfl⟩:=zh6 hy;exact h1 rfl
end Go.Cx
namespace Go.Cx
open Go Go.RowKit
variable{e:Env}{P:Program}{w:World}{m:Mem}
theorem zuK{f:IntKind->Int->Int->COut}{k k':IntKind}{a b:Int}{s:Sem Value}(h:k=k'->VOk P e w (f k a b) s):VOk P e w (same f k k' a b) s:=by
 unfold same;split
 ·rename_i hk;exact h (za8 hk)
 ·trivial
theorem zts{k k':IntKind}{a b:Int}(op:BinOp)(t:TypeId)(X Y:Operand):
  VOk P e w (zp1 op k k' a b) (do eqGuard op t X Y (.int k a) (.int k' b);binOp op t (.int k a) (.int k' b)):=by
 simp only[eqGuard_at_int,pure_bind];cases op<;>simp only[zp1,zwz]
 case shl=>
  unfold zml;split
  ·trivial
  ·rename_i h;rw[zch]at h;have h:¬b<0:=by simpa using h
   exact⟨_,rfl,by simp[binOp,Op.shift,h]⟩
 case shr=>
  unfold zkX;split
  ·trivial
  ·rename_i h;rw[zch]at h;have h:¬b<0:=by simpa using h
   exact⟨_,rfl,by simp[binOp,Op.shift,h]⟩
 all_goals
  refine zuK fun hk=>?_
  subst hk
 case quo=>
  unfold zlX;split
  ·trivial
  ·rename_i h;rw[zb9]at h;have h:¬b=0:=by simpa using h
   exact⟨_,rfl,by simp[binOp,Op.intDiv,h,zbm]⟩
 case rem=>
  unfold zlE;split
  ·trivial
  ·rename_i h;rw[zb9]at h;have h:¬b=0:=by simpa using h
   exact⟨_,rfl,by simp[binOp,Op.intDiv,h]⟩
 case add=>exact⟨_,rfl,by simp[binOp,Op.intArith,zbm]⟩
 case sub=>exact⟨_,rfl,by simp[binOp,Op.intArith,zbm]⟩
 case mul=>exact⟨_,rfl,by simp[binOp,Op.intArith,zbm]⟩
 case and=>exact⟨_,rfl,by simp only[binOp,ne_eq,not_true,if_false];rfl⟩
 case or=>exact⟨_,rfl,by simp only[binOp,ne_eq,not_true,if_false];rfl⟩
 case xor=>exact⟨_,rfl,by simp only[binOp,ne_eq,not_true,if_false];rfl⟩
 case andNot=>exact⟨_,rfl,by simp only[binOp,ne_eq,not_true,if_false];rfl⟩
 case eql=>exact⟨_,rfl,by simp[binOp,Op.intCmp,zb9]⟩
 case neq=>exact⟨_,rfl,by simp[binOp,Op.intCmp,zb9,bne]⟩
 case lss=>exact⟨_,rfl,by simp[binOp,Op.intCmp,zch]⟩
 case gtr=>exact⟨_,rfl,by simp[binOp,Op.intCmp,zch]⟩
 case leq=>
  refine⟨_,rfl,?_⟩;have:(!ilt b a)=decide (a<=b):=by
   rw[zch];by_cases h:b<a
   ·have:¬a<=b:=by omega
    simp[h,this]
   ·have:a<=b:=by omega
    simp[h,this]
  simp[binOp,Op.intCmp,this]
 case geq=>
  refine⟨_,rfl,?_⟩;have:(!ilt a b)=decide (a>=b):=by
   rw[zch];by_cases h:a<b
   ·have:¬b<=a:=by omega
    simp[h,this]
   ·have:b<=a:=by omega
    simp[h,this]
  simp[binOp,Op.intCmp,this]
theorem zsY{a b:List Nat}(op:BinOp)(t:TypeId)(X Y:Operand):
  VOk P e w (zrZ op a b) (do eqGuard op t X Y (.string ⟨(a.map UInt8.ofNat).toArray⟩) (.string ⟨(b.map UInt8.ofNat).toArray⟩);binOp op t (.string ⟨(a.map UInt8.ofNat).toArray⟩) (.string ⟨(b.map UInt8.ofNat).toArray⟩)):=by
 simp only[eqGuard_at_string,pure_bind];cases op<;>simp only[zrZ]<;>first
  |trivial
  |(refine⟨_,rfl,?_⟩;simp[binOp,Op.stringOp,zhc,zur];done)
  |skip
 unfold zia;split
 ·rename_i h;have h:=ya9 h;refine⟨_,rfl,?_⟩;rw[show binOp .add t (.string ⟨(a.map UInt8.ofNat).toArray⟩) (.string ⟨(b.map UInt8.ofNat).toArray⟩)=Op.stringOp .add ⟨(a.map UInt8.ofNat).toArray⟩ ⟨(b.map UInt8.ofNat).toArray⟩from by simp[binOp]];rw[run_string_add_sum _ _ _ (by show(a.map UInt8.ofNat).toArray.size+(b.map UInt8.ofNat).toArray.size<=_;simp;omega),ByteArray.mk_append_mk];simp
 ·trivial
theorem zvQ{op:BinOp}{t:TypeId}{x y:CV}{V U:Value}(hx:den e x=some V)(hy:den e y=some U)(X Y:Operand):
  VOk P e w (zpH P (zis X||zis Y) op t x y) (do eqGuard op t X Y V U;binOp op t V U):=by
 unfold zpH;split
 ·obtain rfl:=zaT hx;obtain rfl:=zaT hy;exact zts op t X Y
 ·obtain rfl:=zbP hx;obtain rfl:=zbP hy;exact zsY op t X Y
 ·trivial
 ·trivial
 ·trivial
 ·rename_i g1 g2 g3 h1 h2;have hV:=zxJ hx (fun k n h=>g1 k n h) (fun s h=>g2 s h) (fun z k r h q=>g3 z k r h q);cases op<;>simp only[zf6]<;>first
   |trivial
   |exact zuq (neg:=false) hx hy hV X Y
   |exact zuq (neg:=true) hx hy hV X Y
theorem zwi{op:UnOp}{x:CV}{V:Value}(hx:den e x=some V):VOk P e w (cUn op x) (Op.unary op V):=by
 unfold cUn;split
 ·obtain rfl:=zbv hx;exact⟨_,rfl,by simp[Op.unary]⟩
 ·obtain rfl:=zaT hx;exact⟨_,rfl,by simp[Op.unary,Op.intArith,zbm]⟩
 ·trivial
theorem zfK{x:Option CV}{d n:Nat}(h:bound x d=some n):(x=none/\n=d)\/∃k,x=some (.int k (.ofNat n)):=by
 unfold bound at h;split at h
 ·simp at h;exact .inl ⟨rfl,h.symm⟩
 ·simp at h;subst h;exact .inr ⟨_,rfl⟩
 ·simp at h
def ztk(e:Env):Option CV->Option Value->Prop
 |none,none=>True
 |some x,some v=>den e x=some v
 |_,_=>False
theorem zaY{isS:Bool}{len cap:Nat}{lo hi:Option CV}{lv hv:Option Value}(h1:ztk e lo lv)(h2:ztk e hi hv){a b:Nat}(ha:bound lo 0=some a)(hb:bound hi len=some b)
  (hab:a<=b) (hbc:b<=cap) (w:World):(Instr.sliceBounds isS len cap lv hv none).run P w=.ok (a,b,cap) w:=by
 have e1:(match hv with |some v=>Instr.sliceBound v cap (if isS then .sliceAcap else .sliceAlen) |none=>pure len).run P w=.ok b w:=by
  rcases zfK hb with⟨rfl,hy⟩ |⟨k,rfl⟩
  ·cases hv with
   |none=>simp;omega
   |some v=>exact h2.elim
  ·cases hv with
   |none=>exact h2.elim
   |some v=>
    obtain rfl:=zaT (show den e _=some v from h2);simp[Instr.sliceBound,asIntOf,hbc]
 have e2:(match lv with |some v=>Instr.sliceBound v b (if(none:Option Value).isSome then .slice3C else .sliceB) |none=>pure 0).run P w=.ok a w:=by
  rcases zfK ha with⟨rfl,hy⟩ |⟨k,rfl⟩
  ·cases lv with
   |none=>simp;omega
   |some v=>exact h1.elim
  ·cases lv with
   |none=>exact h1.elim
   |some v=>
    obtain rfl:=zaT (show den e _=some v from h1);simp[Instr.sliceBound,asIntOf,hab]
 unfold Instr.sliceBounds;cases hv<;>cases lv<;>simp_all
theorem zrm(s:List Nat)(a b:Nat):(⟨(s.map UInt8.ofNat).toArray⟩:ByteArray).extract a b=⟨(((s.drop a).take (b - a)).map UInt8.ofNat).toArray⟩:=by
 have:=Lib.extract_data ⟨(s.map UInt8.ofNat).toArray⟩ a b;generalize (⟨(s.map UInt8.ofNat).toArray⟩:ByteArray).extract a b=z at this;obtain⟨⟨z⟩⟩:=z;simp at this;simp[this,List.map_take,List.map_drop]
theorem zby{isS:Bool}{len cap:Nat}{lo:Option CV}{lv:Option Value}{kh km:IntKind}(h1:ztk e lo lv){a b c:Nat}(ha:bound lo 0=some a)(hab:a<=b)(hbc:b<=c)(hcc:c<=cap)(w:World):
  (Instr.sliceBounds isS len cap lv (some (.int kh (b:Int))) (some (.int km (c:Int)))).run P w=.ok (a,b,c) w:=by
 have e0:(Instr.sliceBound (.int km (c:Int)) cap (if isS then .slice3Acap else .slice3Alen)).run P w=.ok c w:=by
  simp[Instr.sliceBound,asIntOf,hcc]
 have e1:(Instr.sliceBound (.int kh (b:Int)) c .slice3B).run P w=.ok b w:=by
  simp[Instr.sliceBound,asIntOf,hbc]
 have e2:(match lv with |some v=>Instr.sliceBound v b .slice3C |none=>pure 0).run P w=.ok a w:=by
  rcases zfK ha with⟨rfl,hy⟩ |⟨k,rfl⟩
  ·cases lv with
   |none=>simp;omega
   |some v=>exact h1.elim
  ·cases lv with
   |none=>exact h1.elim
   |some v=>
    obtain rfl:=zaT (show den e _=some v from h1);simp[Instr.sliceBound,asIntOf,hab]
 unfold Instr.sliceBounds;cases lv<;>simp_all
theorem zpp(hm:Mok e m w){x c:CV}{V C:Value}(hx:den e x=some V){lo hi:Option CV}{lv hv:Option Value}(h1:ztk e lo lv)(h2:ztk e hi hv)(h3:den e c=some C)(t:TypeId):
  VOk P e w (zfY P m t x lo hi c) (Instr.sliceAt t V lv hv (some C)):=by
 unfold zfY;split
 ·rename_i kh b km mx;cases hv with
  |none=>exact h2.elim
  |some hv=>
  obtain rfl:=zaT (show den e _=some hv from h2);obtain rfl:=zaT h3;split
  ·rename_i elem hu;split
   ·rename_i inf hinf;unfold zgo;split
    ·rename_i tag off n c;unfold zog;split
     ·rename_i a ha;split
      ·rename_i hc;simp only[ya2]at hc;have hab:=ya9 hc.1;have hbm:=ya9 hc.2.1;have hmc:=ya9 hc.2.2;simp only[den,ya3]at hx;obtain⟨bl,hbl,rfl⟩:=hx;have:=zby (P:=P) (isS:=true) (len:=n) (cap:=c) (kh:=kh) (km:=km) h1 ha hab hbm hmc w;by_cases hca:mx=a
       ·subst hca;refine⟨.slice (some ⟨bl.blk,bl.off+off,none⟩) (b - mx) (mx - mx),?_,?_⟩
        ·rw[show Nat.beq mx mx=true from zlR rfl];show(e tag).map _=_;rw[hbl];rfl
        ·simp[Instr.sliceAt,zaa hu,Instr.slice,this,zag hinf]
       ·refine⟨.slice (some ⟨bl.blk,bl.off+(off+a*inf.size),none⟩) (b - a) (mx - a),?_,?_⟩
        ·rw[show Nat.beq mx a=false from zkQ hca];show(e tag).map _=_;rw[hbl];rfl
        ·simp[Instr.sliceAt,zaa hu,Instr.slice,this,zag hinf,hca,Addr.add_lit,Nat.add_assoc]
      ·trivial
     ·trivial
    ·rename_i tag k n;split
     ·rename_i ty sz cs ho;unfold zrW;split
      ·rename_i a ha;split
       ·rename_i hc;simp only[ya2]at hc;have hab:=ya9 hc.1;have hbm:=ya9 hc.2.1;have hlen:=ya9 hc.2.2.1;have hsz:sz=inf.size:=yb0 hc.2.2.2.1;obtain⟨bl,l,pre,suf,k1,k2,k3,k4,k5,k6,k7,k8,k9⟩:=hm _ _ ho;simp only[den,ya3]at hx;obtain⟨bl',hbl,rfl⟩:=hx;obtain rfl:bl=bl':=by rw[k1]at hbl;cases hbl;rfl
        have hcl:cs.length<=bl.cap*sz:=by rw[<- k8,<- zad k5];simp
        have hkb:k+mx<=bl.cap:=Nat.le_of_mul_le_mul_right (Nat.le_trans hlen hcl) k3;have:=zby (P:=P) (isS:=true) (len:=n) (cap:=bl.cap - k) (kh:=kh) (km:=km) h1 ha hab hbm (by omega) w;have hsz':inf.size=bl.sz:=by rw[k2,hsz]
        by_cases hca:mx=a
        ·subst hca;refine⟨.slice (some ⟨bl.blk,bl.off+k*sz,none⟩) (b - mx) (mx - mx),?_,?_⟩
         ·rw[show Nat.beq mx mx=true from zlR rfl];show(e tag).map _=_;rw[hbl];rfl
         ·simp[Instr.sliceAt,zaa hu,Instr.slice,this,zag hinf,k2]
        ·refine⟨.slice (some ⟨bl.blk,bl.off+(k+a)*sz,none⟩) (b - a) (mx - a),?_,?_⟩
         ·rw[show Nat.beq mx a=false from zkQ hca];show(e tag).map _=_;rw[hbl];rfl
         ·simp[Instr.sliceAt,zaa hu,Instr.slice,this,zag hinf,hca,Addr.add_lit,hsz',k2,Nat.add_mul,Nat.add_assoc]
       ·trivial
      ·trivial
     ·trivial
    ·unfold ziU;split
     ·rename_i ha;simp only[den,ya0]at hx;subst hx;have:=zby (P:=P) (isS:=true) (len:=0) (cap:=0) (kh:=kh) (km:=km) h1 ha (Nat.le_refl _) (Nat.le_refl _) (Nat.le_refl _) w;rw[show((0:Nat):Int)=0 from rfl]at this;exact⟨_,rfl,by simp[Instr.sliceAt,zaa hu,Instr.slice,this,zag hinf]⟩
     ·trivial
    ·unfold zkk;split
     ·rename_i ha;simp only[den,ya0]at hx;subst hx;have:=zby (P:=P) (isS:=true) (len:=0) (cap:=0) (kh:=kh) (km:=km) h1 ha (Nat.le_refl _) (Nat.le_refl _) (Nat.le_refl _) w;rw[show((0:Nat):Int)=0 from rfl]at this;exact⟨_,rfl,by simp[Instr.sliceAt,zaa hu,Instr.slice,this,zag hinf]⟩
     ·trivial
    ·trivial
   ·trivial
  ·trivial
 ·trivial
theorem zr0(hm:Mok e m w){x:CV}{V:Value}(hx:den e x=some V){lo hi mx:Option CV}{lv hv mv:Option Value}(h1:ztk e lo lv)(h2:ztk e hi hv)(h3:ztk e mx mv)(t:TypeId):
  VOk P e w (zba P m t x lo hi mx) (Instr.sliceAt t V lv hv mv):=by
 unfold zba;split
 ·cases mv with
  |none=>exact h3.elim
  |some C=>exact zpp hm hx h1 h2 h3 t
 ·have hmv:mv=none:=by cases mv with |none=>rfl |some _=>exact h3.elim
  subst hmv;split
  ·rename_i hu;unfold zs2;split
   ·rename_i s;split
    ·rename_i a b ha hb;split
     ·rename_i hc;simp only[ya2]at hc;obtain rfl:=zbP hx;have:=zaY (P:=P) (isS:=false) (len:=s.length) (cap:=s.length) h1 h2 ha hb (ya9 hc.1) (ya9 hc.2) w;refine⟨_,rfl,?_⟩;simp[Instr.sliceAt,zaa hu,Instr.slice,zfr,this,zrm]
     ·trivial
    ·trivial
   ·trivial
  ·rename_i elem hu;split
   ·rename_i inf hinf;unfold zcs;split
    ·rename_i tag off n c;unfold znp;split
     ·rename_i a b ha hb;split
      ·rename_i hc;simp only[ya2]at hc;have hbc:=ya9 hc.2;have hab:=ya9 hc.1;simp only[den,ya3]at hx;obtain⟨bl,hbl,rfl⟩:=hx;have:=zaY (P:=P) (isS:=true) (len:=n) (cap:=c) h1 h2 ha hb hab hbc w;by_cases hca:c=a
       ·subst hca;refine⟨.slice (some ⟨bl.blk,bl.off+off,none⟩) (b - c) (c - c),?_,?_⟩
        ·rw[show Nat.beq c c=true from zlR rfl];show(e tag).map _=_;rw[hbl];rfl
        ·simp[Instr.sliceAt,zaa hu,Instr.slice,this,zag hinf]
       ·refine⟨.slice (some ⟨bl.blk,bl.off+(off+a*inf.size),none⟩) (b - a) (c - a),?_,?_⟩
        ·rw[show Nat.beq c a=false from zkQ hca];show(e tag).map _=_;rw[hbl];rfl
        ·simp[Instr.sliceAt,zaa hu,Instr.slice,this,zag hinf,hca,Addr.add_lit,Nat.add_assoc]
      ·trivial
     ·trivial
    ·rename_i tag k n;split
     ·rename_i ty sz cs ho;unfold zvb;split
      ·rename_i a b ha hb;split
       ·rename_i hc;simp only[ya2]at hc;have hab:=ya9 hc.1;have hlen:=ya9 hc.2.1;have hsz:sz=inf.size:=yb0 hc.2.2.1;obtain⟨bl,l,pre,suf,k1,k2,k3,k4,k5,k6,k7,k8,k9⟩:=hm _ _ ho;simp only[den,ya3]at hx;obtain⟨bl',hbl,rfl⟩:=hx;obtain rfl:bl=bl':=by rw[k1]at hbl;cases hbl;rfl
        have hcl:cs.length<=bl.cap*sz:=by rw[<- k8,<- zad k5];simp
        have hkb:k+b<=bl.cap:=Nat.le_of_mul_le_mul_right (Nat.le_trans hlen hcl) k3;have:=zaY (P:=P) (isS:=true) (len:=n) (cap:=bl.cap - k) h1 h2 ha hb hab (by omega) w;have hsz':inf.size=bl.sz:=by rw[k2,hsz]
        split
        ·rename_i hq;simp only[Bool.or_eq_true]at hq;have hne:a=0\/¬(bl.cap - k=a):=by
          rcases hq with hq |hq
          ·exact .inl (yb0 hq)
          ·right;have h4:(k+a)*sz<cs.length:=by simpa[Nat.blt_eq]using hq
           have h5:k+a<bl.cap:=Nat.lt_of_mul_lt_mul_right (Nat.lt_of_lt_of_le h4 hcl);omega
         refine⟨.slice (some ⟨bl.blk,bl.off+(k+a)*bl.sz,none⟩) (b - a) (bl.cap - (k+a)),?_,?_⟩
         ·show(e tag).map _=_;rw[hbl];rfl
         ·rcases hne with rfl |hne
          ·by_cases hz:bl.cap - k=0
           ·rw[hz]at this;have hb0:b=0:=by omega
            subst hb0;have hk:bl.cap - (k+0)=0:=by omega
            simp[Instr.sliceAt,zaa hu,Instr.slice,this,zag hinf,hz]
           ·simp[Instr.sliceAt,zaa hu,Instr.slice,this,zag hinf,hz,Addr.add_lit]
          ·simp[Instr.sliceAt,zaa hu,Instr.slice,this,zag hinf,hne,Addr.add_lit,hsz',Nat.add_mul,Nat.add_assoc,Nat.sub_sub]
        ·rename_i hq;simp only[Bool.or_eq_false_iff]at hq;have h4:¬(k+a)*sz<cs.length:=by
          intro h;have:Nat.blt ((k+a)*sz) cs.length=true:=by simpa[Nat.blt_eq]using h
          rw[this]at hq;cases hq.2
         have hba:b=a:=by
          have h5:(k+b)*sz<=(k+a)*sz:=by omega
          have h6:k+b<=k+a:=Nat.le_of_mul_le_mul_right h5 k3;omega
         subst hba;by_cases hcap:bl.cap=k+b
         ·refine⟨.slice (some ⟨bl.blk,bl.off+k*bl.sz,none⟩) 0 0,?_,?_⟩
          ·show(e tag).map _=_;rw[hbl];simp[hcap]
          ·have h0:bl.cap - k=b:=by omega
           rw[h0]at this;simp[Instr.sliceAt,zaa hu,Instr.slice,this,zag hinf,h0]
         ·refine⟨.slice (some ⟨bl.blk,bl.off+(k+b)*bl.sz,none⟩) 0 (bl.cap - (k+b)),?_,?_⟩
          ·show(e tag).map _=_;rw[hbl];simp[hcap]
          ·have h0:¬(bl.cap - k=b):=by omega
           simp[Instr.sliceAt,zaa hu,Instr.slice,this,zag hinf,h0,Addr.add_lit,hsz',Nat.add_mul,Nat.add_assoc,Nat.sub_sub]
       ·trivial
      ·trivial
     ·trivial
    ·unfold zsH;split
     ·rename_i ha hb;simp only[den,ya0]at hx;subst hx;have:=zaY (P:=P) (isS:=true) (len:=0) (cap:=0) h1 h2 ha hb (Nat.le_refl _) (Nat.le_refl _) w;exact⟨_,rfl,by simp[Instr.sliceAt,zaa hu,Instr.slice,this,zag hinf]⟩
     ·trivial
    ·unfold zoo;split
     ·rename_i ha hb;simp only[den,ya0]at hx;subst hx;have:=zaY (P:=P) (isS:=true) (len:=0) (cap:=0) h1 h2 ha hb (Nat.le_refl _) (Nat.le_refl _) w;exact⟨_,rfl,by simp[Instr.sliceAt,zaa hu,Instr.slice,this,zag hinf]⟩
     ·trivial
    ·trivial
   ·trivial
  ·rename_i n elem hu;split
   ·rename_i inf hinf;unfold ztn;split
    ·rename_i tag off;unfold znp;split
     ·rename_i a b ha hb;split
      ·rename_i hc;simp only[ya2]at hc;have hbc:=ya9 hc.2;have hab:=ya9 hc.1;simp only[den,ya3]at hx;obtain⟨bl,hbl,rfl⟩:=hx;have:=zaY (P:=P) (isS:=false) (len:=n) (cap:=n) h1 h2 ha hb hab hbc w;by_cases hca:n=a
       ·subst hca;refine⟨.slice (some ⟨bl.blk,bl.off+off,none⟩) (b - n) (n - n),?_,?_⟩
        ·rw[show Nat.beq n n=true from zlR rfl];show(e tag).map _=_;rw[hbl];rfl
        ·simp[Instr.sliceAt,zaa hu,Instr.sureAddr,this,zag hinf]
       ·refine⟨.slice (some ⟨bl.blk,bl.off+(off+a*inf.size),none⟩) (b - a) (n - a),?_,?_⟩
        ·rw[show Nat.beq n a=false from zkQ hca];show(e tag).map _=_;rw[hbl];rfl
        ·simp[Instr.sliceAt,zaa hu,Instr.sureAddr,this,zag hinf,hca,Addr.add_lit,Nat.add_assoc]
      ·trivial
     ·trivial
    ·trivial
   ·trivial
  ·trivial
theorem zjd(mx:Bool){l:List CV}{vs:List Value}(h:denL e l=some vs)(ats:Array TypeId)(ty:TypeId):
  VOk P e w (zdL mx l) (if mx then Builtin.max_ ats ty vs.toArray else Builtin.min_ ats ty vs.toArray):=by
 unfold zdL;split
 ·rename_i k a k' b;split
  ·rename_i hk;obtain rfl:=za8 hk;obtain⟨v1,l1,hv1,hl1,rfl⟩:=zaj h;obtain⟨v2,l2,hv2,hl2,rfl⟩:=zaj hl1;simp only[denL,ya0]at hl2;subst hl2;obtain rfl:=zaT hv1;obtain rfl:=zaT hv2;cases mx
   ·have h0:=zch b a;cases hq:ilt b a<;>rw[hq]at h0
    ·have h1:¬b<a:=by simpa using h0.symm
     exact⟨.int k a,by simp[den,hq],by simp[Builtin.min_,Builtin.min2];omega⟩
    ·have h1:b<a:=by simpa using h0.symm
     exact⟨.int k b,by simp[den,hq],by simp[Builtin.min_,Builtin.min2];omega⟩
   ·have h0:=zch a b;cases hq:ilt a b<;>rw[hq]at h0
    ·have h1:¬a<b:=by simpa using h0.symm
     exact⟨.int k a,by simp[den,hq],by simp[Builtin.max_,Builtin.max2];omega⟩
    ·have h1:a<b:=by simpa using h0.symm
     exact⟨.int k b,by simp[den,hq],by simp[Builtin.max_,Builtin.max2];omega⟩
  ·trivial
 ·trivial
end Go.Cx
namespace Go.Cx
open Go Go.RowKit
def zf2:CO->Bool
 |.ro _=>true
 |_=>false
structure Keep(F:Nat->Prop)(w w':World):Prop where
 os:w'.os=w.os
 tape:w'.tape=w.tape
 output:w'.output=w.output
 size:w.heap.size<=w'.heap.size
 block:∀k,F k->w'.heap[k]? = w.heap[k]?
theorem Keep.refl(F:Nat->Prop)(w:World):Keep F w w:=⟨rfl,rfl,rfl,Nat.le_refl _,fun _ _=>rfl⟩
theorem Keep.trans{F:Nat->Prop}{a b c:World}(h:Keep F a b)(k:Keep F b c):Keep F a c:=
 ⟨k.os.trans h.os,k.tape.trans h.tape,k.output.trans h.output,Nat.le_trans h.size k.size,fun i hi=>(k.block i hi).trans (h.block i hi)⟩
structure Bas where
 w0:World
 F:Nat->Prop
 R:Nat->Prop
 Z:Nat->Prop
 hF:∀k,F k->k<w0.heap.size
 hR:∀k,R k->F k
variable{e:Env}{P:Program}{w:World}{m:Mem}{W0:Bas}
structure Rel(W0:Bas)(e:Env)(m:Mem)(w:World):Prop where
 ok:Mok e m w
 inj0:∀t t' o o' b b',m.get t=some o->m.get t'=some o'->zf2 o=false->zf2 o'=false->e t=some b->e t'=some b'->b.blk=b'.blk->t=t'
 own:∀t o b,m.get t=some o->zf2 o=false->e t=some b->¬W0.F b.blk
 rof:∀t o b,m.get t=some o->zf2 o=true->e t=some b->W0.R b.blk
 glb:∀g,g<64->e g=some ⟨g,0,0,0⟩
 dom:∀t,m.nxt<=t->e t=none
 frm:Keep W0.F W0.w0 w
 zlt:∀t,W0.Z t->t<m.nxt
 bar:∀t,W0.Z t->e t=none
theorem Rel.inj(h:Rel W0 e m w)(t t':Nat)(o o':CO)(b b':Blk)(h1:m.get t=some o)(h2:m.get t'=some o')(h3:zf2 o'=false)(h4:e t=some b)(h5:e t'=some b')(h6:b.blk=b'.blk):t=t':=by
 cases hr:zf2 o with
 |false=>exact h.inj0 t t' o o' b b' h1 h2 hr h3 h4 h5 h6
 |true=>
  have h7:=W0.hR _ (h.rof t o b h1 hr h4);rw[h6]at h7;exact absurd h7 (h.own t' o' b' h2 h3 h5)
theorem Rel.frF(h:Rel W0 e m w){k:Nat}(hk:W0.F k):k<w.heap.size:=Nat.lt_of_lt_of_le (W0.hF k hk) h.frm.size
theorem Rel.nF(h:Rel W0 e m w){k:Nat}(hk:w.heap.size<=k):¬W0.F k:=fun hq=>by
 have:=h.frF hq;omega
theorem Rel.nxtZ(h:Rel W0 e m w):e m.nxt=none/\¬W0.Z m.nxt:=⟨h.dom _ (Nat.le_refl _),fun hz=>Nat.lt_irrefl _ (h.zlt _ hz)⟩
theorem TOk.mono{e':Env}(h:Env.le e e'){t:Tmps}{vs:Array Value}(ht:TOk e t vs):TOk e' t vs:=
 ⟨ht.1,fun i x hx=>let ⟨v,h1,h2⟩:=ht.2 i x hx;⟨v,den_mono h x v h1,h2⟩⟩
theorem EntsOk.mono{e':Env}(h:Env.le e e'){es:List (CV×CV×Nat)}{ms:List MapEntry}(he:EntsOk e es ms):EntsOk e' es ms:=by
 induction he with
 |nil=>exact .nil
 |cons h1 h2 _ ih=>exact .cons (den_mono h _ _ h1) (den_mono h _ _ h2) ih
theorem zc5{t:Nat}{o:CO}(h:znx e w t o):∃b x,e t=some b/\w.heap[b.blk]? = some x:=by
 cases o with
 |cells=>obtain⟨b,l,h1,_,_,_,h2⟩:=h;exact⟨b,_,h1,h2⟩
 |opn=>obtain⟨b,l,_,_,h1,_,_,_,_,_,⟨fr,h2,_⟩,_⟩:=h;exact⟨b,_,h1,h2⟩
 |map=>obtain⟨b,_,h1,_,h2⟩:=h;exact⟨b,_,h1,h2⟩
 |loop=>obtain⟨b,_,_,h1,_,h2,_⟩:=h;exact⟨b,_,h1,h2⟩
 |dfr=>obtain⟨b,h1,h2⟩:=h;exact⟨b,_,h1,h2⟩
 |ro=>obtain⟨b,l,_,_,_,_,h1,_,_,_,h2,_⟩:=h;exact⟨b,_,h1,h2⟩
theorem zcH{b:Nat}{x:Obj}(h:w.heap[b]? = some x):b<w.heap.size:=(Array.getElem?_eq_some_iff.1 h).1
theorem zbZ{e':Env}{w':World}(h:Env.le e e'){t:Nat}{o:CO}(hb:∀b,e t=some b->w'.heap[b.blk]? = w.heap[b.blk]?)(ho:znx e w t o):znx e' w' t o:=by
 cases o with
 |cells=>obtain⟨b,l,h1,h2,h3,h4,h5⟩:=ho;exact⟨b,l,h _ _ h1,h2,denL_mono h _ _ h3,h4,(hb b h1).trans h5⟩
 |opn=>obtain⟨b,l,p,s,h1,h2,h3,h4,h5,h6,h7,h8⟩:=ho;obtain⟨fr,h7,h9⟩:=h7;exact⟨b,l,p,s,h _ _ h1,h2,h3,h4,denL_mono h _ _ h5,h6,⟨fr,(hb b h1).trans h7,h9⟩,h8⟩
 |map=>obtain⟨b,ms,h1,h2,h3⟩:=ho;exact⟨b,ms,h _ _ h1,h2.mono h,(hb b h1).trans h3⟩
 |loop=>obtain⟨b,r,db,h1,h2,h3,h4,h5,h6,h7⟩:=ho;exact⟨b,r,db,h _ _ h1,h _ _ h2,(hb b h1).trans h3,h4,h5,h6.mono h,h7⟩
 |dfr=>obtain⟨b,h1,h2⟩:=ho;exact⟨b,h _ _ h1,(hb b h1).trans h2⟩
 |ro=>obtain⟨b,l,pre,suf,ty,fr,h1,h2,h3,h4,h5,h6⟩:=ho;exact⟨b,l,pre,suf,ty,fr,h _ _ h1,h2,denL_mono h _ _ h3,h4,(hb b h1).trans h5,h6⟩
theorem Rel.put(h:Rel W0 e m w){T:Nat}{o o':CO}{b:Blk}(hg:m.get T=some o)(hro:zf2 o=false)(hro':zf2 o'=false)(hb:e T=some b){w':World}(hw:∀k,k≠b.blk->w'.heap[k]? = w.heap[k]?)
  (hs:w'.heap.size=w.heap.size) (h1:w'.os=w.os) (h2:w'.tape=w.tape) (h3:w'.output=w.output) (ho:znx e w' T o'):Rel W0 e (m.put T o') w':=by
 have hpres:∀t o1,(m.put T o').get t=some o1->∃o2,m.get t=some o2/\zf2 o2=zf2 o1:=fun t o1 ht=>by
  rw[Mem.get_put]at ht;by_cases hq:t=T
  ·subst hq;rw[if_pos rfl]at ht;cases ht;exact⟨o,hg,by rw[hro,hro']⟩
  ·rw[if_neg hq]at ht;exact⟨o1,ht,rfl⟩
 refine⟨fun t o1 ht=>?_,fun t t' o1 o2 b1 b2 ht ht' hr1 hr2 hb1 hb2 hq=>?_,fun t o1 b1 ht hr hb1=>?_,fun t o1 b1 ht hr hb1=>?_,h.glb,h.dom,h.frm.trans ⟨h1,h2,h3,Nat.le_of_eq hs.symm,fun k hk=>hw k (fun hq=>?_)⟩,h.zlt,h.bar⟩
 ·rw[Mem.get_put]at ht;by_cases hq:t=T
  ·rw[if_pos hq]at ht;cases ht;subst hq;exact ho
  ·rw[if_neg hq]at ht;refine zbZ (Env.le.refl e) (fun b1 hb1=>hw _ (fun hbb=>hq ?_)) (h.ok t o1 ht);exact h.inj t T o1 o b1 b ht hg hro hb1 hb hbb
 ·obtain⟨o3,h4,h4'⟩:=hpres t o1 ht;obtain⟨o4,h5,h5'⟩:=hpres t' o2 ht';exact h.inj0 t t' o3 o4 b1 b2 h4 h5 (h4'.trans hr1) (h5'.trans hr2) hb1 hb2 hq
 ·obtain⟨o3,h4,h5⟩:=hpres t o1 ht;exact h.own t o3 b1 h4 (h5.trans hr) hb1
 ·obtain⟨o3,h4,h5⟩:=hpres t o1 ht;exact h.rof t o3 b1 h4 (h5.trans hr) hb1
 ·subst hq;exact h.own T o b hg hro hb hk
def Env.ext(e:Env)(t:Nat)(b:Blk):Env:=fun i=>if i=t then some b else e i
theorem Env.ext_same(e:Env)(t:Nat)(b:Blk):e.ext t b t=some b:=if_pos rfl
theorem Env.ext_le{e:Env}{t:Nat}(h:e t=none)(b:Blk):Env.le e (e.ext t b):=fun i x hx=>by
 unfold Env.ext;rw[if_neg (by rintro rfl;rw[h]at hx;cases hx)];exact hx
theorem Mem.nxtAt(m:Mem)(T:Nat)(o:CO):(m.newAt T o).nxt=if T<m.nxt then m.nxt else T+1:=by
 show Bool.rec (motive:=fun _=>Nat) (Nat.succ T) m.nxt (Nat.blt T m.nxt)=_;by_cases h:T<m.nxt
 ·rw[if_pos h,show Nat.blt T m.nxt=true by simpa[Nat.blt_eq]using h]
 ·rw[if_neg h,show Nat.blt T m.nxt=false by
   cases hb:Nat.blt T m.nxt with
   |false=>rfl
   |true=>exact absurd (by simpa[Nat.blt_eq]using hb) h]
theorem Mem.get_newAt(m:Mem)(T:Nat)(o:CO)(i:Nat):(m.newAt T o).get i=if i=T then some o else m.get i:=Tr.get_set (T+1) m.tr T (some o) i (by omega)
theorem Rel.fresh(h:Rel W0 e m w){T:Nat}(hT:e T=none/\¬W0.Z T){m1:Mem}(hm:∀t o,m1.get t=some o->m.get t=some o)(hn:m1.nxt=m.nxt){b:Blk}{w':World}{o:CO}
  (hap:∀t o1 b',m1.get t=some o1->e t=some b'->b'.blk≠b.blk/\w'.heap[b'.blk]? = w.heap[b'.blk]?) (hown:¬W0.F b.blk) (hfrm:Keep W0.F w w')
  (ho:znx (e.ext T b) w' T o) (hro:zf2 o=false:=by rfl):Env.le e (e.ext T b)/\Rel W0 (e.ext T b) (m1.newAt T o) w':=by
 have hle:Env.le e (e.ext T b):=Env.ext_le hT.1 b;have old:∀t o1 b1,t≠T->(m1.newAt T o).get t=some o1->e.ext T b t=some b1->m1.get t=some o1/\e t=some b1:=fun t o1 b1 ht hg hb=>by
  rw[Mem.get_newAt,if_neg ht]at hg;unfold Env.ext at hb;rw[if_neg ht]at hb;exact⟨hg,hb⟩
 have hnx:m.nxt<=(m1.newAt T o).nxt/\T<(m1.newAt T o).nxt:=by
  rw[Mem.nxtAt,hn];split<;>omega
 refine⟨hle,fun t o1 ht=>?_,fun t t' o1 o2 b1 b2 ht ht' hr1 hr2 hb1 hb2 hq=>?_,fun t o1 b1 ht hr hb1=>?_,fun t o1 b1 ht hr hb1=>?_,fun g hg=>hle _ _ (h.glb g hg),fun t ht=>?_,h.frm.trans hfrm,fun t ht=>Nat.lt_of_lt_of_le (h.zlt t ht) hnx.1,fun t ht=>?_⟩
 ·rw[Mem.get_newAt]at ht;by_cases hq:t=T
  ·rw[if_pos hq]at ht;cases ht;subst hq;exact ho
  ·rw[if_neg hq]at ht;exact zbZ hle (fun b1 hb1=>(hap t o1 b1 ht hb1).2) (h.ok t o1 (hm t o1 ht))
 ·by_cases h1:t=T<;>by_cases h2:t'=T
  ·rw[h1,h2]
  ·obtain⟨h3,h4⟩:=old t' o2 b2 h2 ht' hb2;subst h1;rw[Env.ext_same]at hb1;cases hb1;exact absurd hq.symm (hap t' o2 b2 h3 h4).1
  ·obtain⟨h3,h4⟩:=old t o1 b1 h1 ht hb1;subst h2;rw[Env.ext_same]at hb2;cases hb2;exact absurd hq (hap t o1 b1 h3 h4).1
  ·obtain⟨h3,h4⟩:=old t o1 b1 h1 ht hb1;obtain⟨h5,h6⟩:=old t' o2 b2 h2 ht' hb2;exact h.inj0 t t' o1 o2 b1 b2 (hm _ _ h3) (hm _ _ h5) hr1 hr2 h4 h6 hq
 ·by_cases h1:t=T
  ·subst h1;rw[Env.ext_same]at hb1;cases hb1;exact hown
  ·obtain⟨h3,h4⟩:=old t o1 b1 h1 ht hb1;exact h.own t o1 b1 (hm _ _ h3) hr h4
 ·by_cases h1:t=T
  ·subst h1;rw[Mem.get_newAt,if_pos rfl]at ht;cases ht;rw[hro]at hr;cases hr
  ·obtain⟨h3,h4⟩:=old t o1 b1 h1 ht hb1;exact h.rof t o1 b1 (hm _ _ h3) hr h4
 ·unfold Env.ext;rw[if_neg (by omega)];exact h.dom t (by omega)
 ·unfold Env.ext;rw[if_neg (fun hq:t=T=>hT.2 (hq ▸ ht))];exact h.bar t ht
theorem zbg(w:World)(x:Obj)(k:Nat):(w.alloc x).heap[k]? = if k=w.heap.size then some x else w.heap[k]? := by
 show(w.heap.push x)[k]? = _;rw[Array.getElem?_push]
theorem Rel.alloc(h:Rel W0 e m w){T:Nat}(hT:e T=none/\¬W0.Z T){o:CO}{x:Obj}(b:Blk)(hb:b.blk=w.heap.size)(ho:znx (e.ext T b) (w.alloc x) T o)(hro:zf2 o=false:=by rfl):
  Env.le e (e.ext T b)/\Rel W0 (e.ext T b) (m.newAt T o) (w.alloc x):=by
 refine h.fresh hT (fun _ _ h=>h) rfl (fun t o1 b' ht hb'=>?_) (h.nF (by omega)) ⟨rfl,rfl,rfl,by simp,fun k hk=>?_⟩ ho hro
 ·obtain⟨b2,x2,h1,h2⟩:=zc5 (h.ok t o1 ht);rw[h1]at hb';cases hb';have:=zcH h2;exact⟨by omega,by rw[zbg,if_neg (by omega)]⟩
 ·have:=h.frF hk;rw[zbg,if_neg (by omega)]
def EOk(W0:Bas)(P:Program)(e:Env)(m:Mem)(w:World)(out:COut)(s:Sem Value):Prop:=
 match out with
 |.val v=>∃V,den e v=some V/\s.run P w=.ok V w
 |.mem v m'=>∃e' V w',Env.le e e'/\den e' v=some V/\Rel W0 e' m' w'/\s.run P w=.ok V w'
 |.no _=>True
 |_=>False
def SOk(W0:Bas)(P:Program)(e:Env)(m:Mem)(w:World)(out:COut)(s:Sem Unit):Prop:=
 match out with
 |.val _=>False
 |.mem v m'=>v=zam/\∃w',Rel W0 e m' w'/\s.run P w=.ok () w'
 |.no _=>True
 |_=>False
theorem VOk.E{out:COut}{s:Sem Value}(h:VOk P e w out s):EOk W0 P e m w out s:=by
 cases out<;>first |exact h |exact h.elim
theorem zeK{x:CV}{vs:List CV}{V:Value}(h:zeO x=some vs)(hx:den e x=some V):∃l,denL e vs=some l/\V.cells.toList=l:=by
 unfold zeO at h;split at h
 ·simp only[ya0]at h;subst h;obtain⟨l,hl,rfl⟩:=zdM hx;exact⟨l,hl,by simp[Value.cells]⟩
 ·cases h
 ·rename_i h1 h2;simp only[ya0]at h;subst h;refine⟨[V],by simp[denL,hx],?_⟩;have:V.cells = #[V]:=by
   cases V with
   |agg a=>obtain⟨l,rfl⟩:=zh6 hx;exact absurd rfl (h1 l)
   |_=>rfl
  simp[this]
theorem zqU(h:Rel W0 e m w){T:Nat}(hT:e T=none/\¬W0.Z T){x:CV}{V:Value}(hx:den e x=some V)(t:TypeId):EOk W0 P e m w (zim T m t x) (Instr.box t V):=by
 unfold zim;split
 ·rename_i vs hc;split
  ·rename_i ha;obtain⟨l,hl,hV⟩:=zeK hc hx;have hcells:V.cells=l.toArray:=by rw[<- hV]
   obtain⟨h1,h2⟩:=h.alloc hT (o:=.cells t vs) (x:=.cells l.toArray t (0,0)) ⟨w.heap.size,0,0,0⟩ rfl
    ⟨_,l,Env.ext_same ..,rfl,denL_mono (Env.ext_le hT.1 _) _ _ hl,ha,by rw[zbg,if_pos rfl]⟩
   refine⟨_,.pointer (some ⟨w.heap.size,0,none⟩),_,h1,?_,h2,?_⟩
   ·show((e.ext T _) T).map _=_;rw[Env.ext_same];rfl
   ·simp[Instr.box,newVar,newRow,hcells]
  ·trivial
 ·trivial
theorem zrH(l:List UInt8):(l.map UInt8.toNat).map UInt8.ofNat=l:=by
 induction l with
 |nil=>rfl
 |cons x xs ih=>simp[ih]
theorem zoy{v:Value}{x:CV}(h:zwS v=some x):den e x=some v:=by
 unfold zwS at h;split at h<;>simp only[ya0,reduceCtorEq]at h<;>subst h<;>first
  |rfl
  |(simp only[den,zrH])
theorem zjQ:∀{l:List Value} {xs:List CV},zv4 l=some xs->denL e xs=some l
 |[],xs,h=>by simp only[zv4,ya0]at h;subst h;rfl
 |v::l,xs,h=>by
  unfold zv4 at h;split at h
  ·rename_i x hx;split at h
   ·rename_i ys hys;simp only[ya0]at h;subst h;exact zar (zoy hx) (zjQ hys)
   ·cases h
  ·cases h
theorem zsg{v:Value}{x:CV}(h:ofV v=some x):den e x=some v:=by
 unfold ofV at h;split at h
 ·split at h
  ·rename_i l hl;simp only[ya0]at h;subst h;simp[den,zjQ hl]
  ·cases h
 ·exact zoy h
theorem zd4{t:TypeId}{z:CV}(h:zhZ P t=some z):∃i zv,P.info? t=some i/\i.zero=some zv/\∀e,den e z=some zv:=by
 unfold zhZ at h;split at h
 ·rename_i i hi;split at h
  ·rename_i zv hz;exact⟨i,zv,hi,hz,fun e=>zsg h⟩
  ·cases h
 ·cases h
theorem zcq{t:TypeId}{z:List CV}(h:zey P t=some z):∃i zv,P.info? t=some i/\i.zero=some zv/\∀e,denL e z=some zv.cells.toList:=by
 unfold zey at h;split at h
 ·rename_i i hi;split at h
  ·rename_i zv hz;exact⟨i,zv,hi,hz,fun e=>zjQ h⟩
  ·cases h
 ·cases h
theorem zcO{t:TypeId}{i:TypeInfo}{z:Value}(hi:P.info? t=some i)(hz:i.zero=some z)(w:World):(zeroValue t).run P w=.ok z w:=by
 simp[zeroValue,zkt hi,hz]
theorem zmK{b i:Nat}{l:List Value}{ty:TypeId}{fr:Nat×Nat}(hb:w.heap[b]? = some (.cells l.toArray ty fr))(v:Value):
  (w.setCell ⟨b,i,none⟩ v).heap[b]? = some (.cells (l.set i v).toArray ty fr)/\(∀k,k≠b->(w.setCell ⟨b,i,none⟩ v).heap[k]? = w.heap[k]?):=by
 constructor
 ·simp[World.setCell,Array.getElem?_modify,hb]
 ·intro k hk;simp[World.setCell,Array.getElem?_modify,Ne.symm hk]
structure Wrote(b:Nat)(w w':World):Prop where
 os:w'.os=w.os
 tape:w'.tape=w.tape
 output:w'.output=w.output
 size:w'.heap.size=w.heap.size
 block:∀k,k≠b->w'.heap[k]? = w.heap[k]?
theorem zbs{b off:Nat}{ty:TypeId}{fr:Nat×Nat}:∀(xs:List Value) (i:Nat) (old:List Value) (w:World),w.heap[b]? = some (.cells old.toArray ty fr)->NoFr fr old.length->off+i+xs.length<=old.length->(∀v∈xs,v.oneCell'=true) ->
  ∃w',(storeCells ⟨b,off,none⟩ xs i).run P w=.ok () w'/\w'.heap[b]? = some (.cells (zls old (off+i) xs).toArray ty fr)/\Wrote b w w'
 |[],i,old,w,hb,_,_,_=>⟨w,by simp[storeCells],by simpa[zls]using hb,⟨rfl,rfl,rfl,rfl,fun _ _=>rfl⟩⟩
 |v::xs,i,old,w,hb,hnf,hl,hv=>by
  simp only[ya7]at hl;have hc:w.cell? ⟨b,off+i,none⟩=some (old[off+i]'(by omega)):=by
   rw[zaW hb];simp
  have hf:w.frozen? ⟨b,off+i,none⟩=false:=by
   have:=hnf (off+i) (by omega);obtain⟨lo,hi⟩:=fr;simp only at this;simp only[World.frozen?,hb];simp only[Bool.and_eq_false_iff,decide_eq_false_iff_not];omega
  obtain⟨h1,h2⟩:=zmK (i:=off+i) hb v;obtain⟨w',r,hh,hw⟩:=zbs (off:=off) xs (i+1) (old.set (off+i) v) (w.setCell ⟨b,off+i,none⟩ v) h1 (by simpa using hnf) (by simp;omega) (fun u hu=>hv u (ya4 _ hu));refine⟨w',?_,hh,⟨hw.os,hw.tape,hw.output,hw.size.trans (by simp),fun k hk=>(hw.block k hk).trans (h2 k hk)⟩⟩;simp only[storeCells,Sem.run_bind];rw[Addr.add_lit,run_store _ _ _ _ _ (hv v (ya5 ..)),hc];simp only[hf,Bool.false_eq_true,if_false,Result.andThen_ok];exact r
theorem zkn(h:Rel W0 e m w){t off:Nat}{vs:List CV}{m':Mem}(hw:wr m t off vs=some m'){us:List Value}(hu:denL e vs=some us):
  ∃b w',e t=some b/\(storeCells ⟨b.blk,b.off+off,none⟩ us).run P w=.ok () w'/\Rel W0 e m' w':=by
 unfold wr at hw;split at hw
 ·cases hw
 ·rename_i hall;split at hw
  ·rename_i ty cs ho;split at hw
   ·rename_i hl;simp only[ya0]at hw;subst hw;have hl:=ya9 hl;obtain⟨b,l,h1,h2,h3,h4,h5⟩:=h.ok _ _ ho;obtain⟨w',r,hh,hwr⟩:=zbs (P:=P) (off:=b.off+off) us 0 l w h5 (NoFr.zero _) (by rw[h2,zad h3,zad hu];omega) (zeP hall hu);refine⟨b,w',h1,r,h.put ho rfl rfl h1 hwr.block hwr.size hwr.os hwr.tape hwr.output ⟨b,_,h1,h2,zjB h3 hu,ze1 h4 hall,?_⟩⟩;rw[hh,h2];simp
   ·cases hw
  ·rename_i ty sz cs ho;split at hw
   ·rename_i hl;simp only[ya0]at hw;subst hw;have hl:=ya9 hl;obtain⟨b,l,pre,suf,h1,h2,h3,h4,h5,h6,h7,h8,h9⟩:=h.ok _ _ ho;have hll:off+us.length<=l.length:=by rw[zad h5,zad hu];exact hl
    obtain⟨fr,h7,hnf⟩:=h7;obtain⟨w',r,hh,hwr⟩:=zbs (P:=P) (off:=b.off+off) us 0 (pre++l++suf) w h7 hnf (by simp;omega) (zeP hall hu);refine⟨b,w',h1,r,h.put ho rfl rfl h1 hwr.block hwr.size hwr.os hwr.tape hwr.output ⟨b,zls l off us,pre,suf,h1,h2,h3,h4,zjB h5 hu,ze1 h6 hall,⟨fr,?_,by simpa[zbY]using hnf⟩,?_,h9⟩⟩
    ·rw[hh,Nat.add_zero,<- h4,zhd pre suf us l off hll]
    ·simpa[zbY]using h8
   ·cases hw
  ·cases hw
theorem zrt(h:Rel W0 e m w){x v:CV}{X V:Value}(hx:den e x=some X)(hv:den e v=some V)(t:TypeId):SOk W0 P e m w (zaL P m t x v) (Instr.storeAt t X V):=by
 unfold zaL;split
 ·rename_i tag off inf vs hi hc;split
  ·rename_i hn;split
   ·rename_i m' hw;obtain⟨us,hu,hV⟩:=zeK hc hv;obtain⟨b,w',h1,h2,h3⟩:=zkn (P:=P) h hw hu;obtain⟨b',hb',rfl⟩:=zig hx;obtain rfl:b=b':=by rw[h1]at hb';cases hb';rfl
    refine⟨rfl,w',h3,?_⟩;have hsz:V.cells.size=inf.size:=by rw[<- Array.length_toList,hV,zad hu,yb0 hn]
    simp only[Instr.storeAt,Instr.sureAddr,Sem.run_bind,Sem.run_pure,Result.andThen_ok,storeVar,zag hi,hsz,ne_eq,not_true,if_false,hV];exact h2
   ·trivial
  ·trivial
 ·trivial
end Go.Cx
namespace Go.Cx
open Go Go.RowKit
variable{e:Env}{P:Program}{w:World}{m:Mem}{W0:Bas}
inductive PartsOk (e:Env):List (Nat×CV)->List (Nat×Value)->Prop where
 |nil:PartsOk e [] []
 |cons {i:Nat} {x:CV} {v:Value} {l:List (Nat×CV)} {r:List (Nat×Value)}:den e x=some v->PartsOk e l r->PartsOk e ((i,x)::l) ((i,v)::r)
theorem zk0(off:Nat):∀(us vs:List Value) (k:Nat),(zls vs (off+k) us).toArray=(us.zipIdx k).foldl (fun acc (p:Value×Nat)=>acc.setIfInBounds (off+p.2) p.1) vs.toArray
 |[],_,_=>rfl
 |u::us,vs,k=>by
  simp only[zls,List.zipIdx_cons,List.foldl_cons];have:=zk0 off us (vs.set (off+k) u) (k+1);rw[<- Nat.add_assoc]at this;rw[this];simp
theorem zg2(place:Nat->Option (Nat×Nat)):∀{parts:List (Nat×CV)} {vparts:List (Nat×Value)} {cells res:List CV} {cs:List Value},PartsOk e parts vparts->denL e cells=some cs->zgu place cells parts=some res ->
  ∃rs,denL e res=some rs/\rs.length=cs.length/\Instr.fill place cs.toArray vparts=some rs.toArray
 |[],_,cells,res,cs,.nil,hc,h=>by
  simp only[zgu,ya0]at h;subst h;exact⟨cs,hc,rfl,rfl⟩
 |(i,x)::l,_,cells,res,cs,.cons (v:=v) (r:=r) hx hp,hc,h=>by
  unfold zgu at h;split at h
  ·rename_i off size vs hpl hvs;split at h
   ·rename_i hcond;simp only[ya2]at hcond;obtain⟨us,hu,hV⟩:=zeK hvs hx;have h1:us.length=size:=by rw[zad hu];exact yb0 hcond.1
    have h2:off+us.length<=cs.length:=by rw[zad hu,zad hc];exact ya9 hcond.2
    obtain⟨rs,k1,k2,k3⟩:=zg2 place hp (zjB hc hu) h;refine⟨rs,k1,by rw[k2,zbY],?_⟩;have hsz:v.cells.size=us.length:=by rw[<- Array.length_toList,hV]
    unfold Instr.fill;simp only[hpl,hsz];rw[if_neg (by simp[h1];omega)];rw[<- k3];congr 1;have:=zk0 off us cs 0;rw[Nat.add_zero]at this;rw[this,<- Array.foldl_toList,Array.toList_zipIdx,hV]
   ·cases h
  ·cases h
def zni(f:Field):Sem (Nat×Nat):=do pure (f.offset,<- sizeOf f.type)
theorem ziX:∀(fs:List Field),zhG P fs=true->∀w,(fs.mapM zni).run P w=.ok (fs.map fun f=>(f.offset,P.cellsOf f.type)) w
 |[],_,w=>by simp
 |f::fs,h,w=>by
  simp only[zhG,ya2]at h;obtain⟨i,hi⟩:=Option.isSome_iff_exists.1 h.1;simp[zni,zag hi,ziX fs h.2 w,Program.cellsOf,hi]
theorem zrR{parts:List (Nat×CV)}{vparts:List (Nat×Value)}(hp:PartsOk e parts vparts)(t:TypeId):VOk P e w (zjt P t parts) (Instr.build t vparts.toArray):=by
 unfold zjt;split
 ·trivial
 ·rename_i z hz;obtain⟨iz,zv,hiz,hzz,hzd⟩:=zcq hz;split
  ·rename_i fs hu;split
   ·rename_i hi;split
    ·rename_i cs hf;obtain⟨rs,k1,_,k3⟩:=zg2 _ hp (hzd e) hf;refine⟨.agg rs.toArray,by simp[den,k1],?_⟩;have hpl:(fs.mapM zni).run P w=.ok (fs.map fun f=>(f.offset,P.cellsOf f.type)) w:=by
      have:=ziX (P:=P) fs.toList hi w;rw[Array.mapM_eq_mapM_toList,Sem.run_map,this];obtain⟨l⟩:=fs;simp
     have hplace:(fun(i:Nat)=>(fs.map fun f:Field=>(f.offset,P.cellsOf f.type))[i]?)=zds P fs:=by
      funext i;unfold zds;rw[zbG,Array.getElem?_map,<- Array.getElem?_toList];cases fs.toList[i]? <;> rfl
     have hpl':(fs.mapM fun(f:Field)=>(do let s <- sizeOf f.type;pure (f.offset,s):Sem (Nat×Nat))).run P w=.ok (fs.map fun f=>(f.offset,P.cellsOf f.type)) w:=hpl;have hza:zv.cells.toList.toArray=zv.cells:=by simp
     rw[hza]at k3;simp only[Instr.build,Sem.run_bind,zcO hiz hzz,Result.andThen_ok,zaa hu,hpl',hplace,k3];rfl
    ·trivial
   ·trivial
  ·rename_i len el hu;split
   ·rename_i i hi;split
    ·rename_i cs hf;obtain⟨rs,k1,_,k3⟩:=zg2 _ hp (hzd e) hf;refine⟨.agg rs.toArray,by simp[den,k1],?_⟩;have hza:zv.cells.toList.toArray=zv.cells:=by simp
     rw[hza]at k3;simp only[Instr.build,Sem.run_bind,zcO hiz hzz,Result.andThen_ok,zaa hu,zag hi,k3];rfl
    ·trivial
   ·trivial
  ·trivial
def zpQ(z:List Value):Nat->List Value
 |0=>[]
 |n+1=>z++zpQ z n
theorem zhv(z:List Value):∀n,(zpQ z n).length=n*z.length
 |0=>by simp[zpQ]
 |n+1=>by simp[zpQ,zhv z n,Nat.add_mul];omega
theorem zjZ{z:List CV}{zv:List Value}(h:denL e z=some zv):∀n,denL e (rep z n)=some (zpQ zv n)
 |0=>rfl
 |n+1=>zaR h (zjZ h n)
theorem znM(z:List Value)(hz:0<z.length):∀(n i:Nat),i<n*z.length->(zpQ z n)[i]? = z[i%z.length]?
 |0,i,h=>by simp at h
 |n+1,i,h=>by
  simp only[zpQ];by_cases hi:i<z.length
  ·rw[yb8 hi,Nat.mod_eq_of_lt hi]
  ·rw[yd0 (by omega),znM z hz n (i - z.length) (by rw[Nat.add_mul]at h;omega)];congr 1;rw[<- Nat.mod_eq_sub_mod (by omega)]
theorem zhH(z:Array Value)(n:Nat)(hz:0<z.size):(Array.range (n*z.size)).map (fun j=>z[j%z.size]!)=(zpQ z.toList n).toArray:=by
 apply Array.ext_getElem?;intro i;rw[Array.getElem?_map];by_cases hi:i<n*z.size
 ·rw[Array.getElem?_range,if_pos hi];have h1:=znM z.toList (by simpa using hz) n i (by simpa using hi);simp only[List.getElem?_toArray,h1,yc5];have hm:i%z.size<z.size:=Nat.mod_lt _ hz;simp[hm,getElem!_pos]
 ·rw[Array.getElem?_range,if_neg hi];have h1:(zpQ z.toList n).length<=i:=by rw[zhv];simpa using hi
  simp[h1]
theorem ziE(h:Rel W0 e m w){T:Nat}(hT:e T=none/\¬W0.Z T){parts:List (Nat×CV)}{vparts:List (Nat×Value)}(hp:PartsOk e parts vparts)(t:TypeId)(len:Nat):EOk W0 P e m w (za0 P T m t len parts) (Instr.buildSlice t len vparts.toArray):=by
 unfold za0;split
 ·rename_i elem hu;split
  ·rename_i i z hi hz;obtain⟨iz,zv,hiz,hzz,hzd⟩:=zcq hz;obtain rfl:i=iz:=by rw[hi]at hiz;cases hiz;rfl
   split
   ·rename_i hcond;simp only[ya2]at hcond;have g1:0<i.size:=by simpa[Nat.blt_eq]using hcond.1
    have g2:len*i.size<=100000:=ya9 hcond.2.1;have g3:z.length=i.size:=yb0 hcond.2.2;have g4:zv.cells.size=i.size:=by rw[<- g3,<- zad (hzd e)];simp
    split
    ·rename_i cs hf;split
     ·rename_i ha;obtain⟨rs,k1,k2,k3⟩:=zg2 _ hp (zjZ (hzd e) len) hf;obtain⟨h1,h2⟩:=h.alloc hT (o:=.cells elem cs) (x:=.cells rs.toArray elem (0,0)) ⟨w.heap.size,0,0,0⟩ rfl
       ⟨_,rs,Env.ext_same ..,rfl,denL_mono (Env.ext_le hT.1 _) _ _ k1,ha,by rw[zbg,if_pos rfl]⟩
      refine⟨_,.slice (some ⟨w.heap.size,0,none⟩) len len,_,h1,?_,h2,?_⟩
      ·show((e.ext T _) T).map _=_;rw[Env.ext_same];rfl
      ·have hg:¬len*i.size > 2 ^ 24:=by omega
       have hr:=zhH zv.cells len (by omega);rw[g4]at hr;rw[<- hr]at k3;by_cases h0:len*i.size=0
       ·have hr0:(Array.range (len*i.size)).map (fun j=>(#[]:Array Value)[j%(#[]:Array Value).size]!)=(Array.range (len*i.size)).map (fun j=>zv.cells[j%i.size]!):=by simp[h0]
        simp only[Instr.buildSlice,Sem.run_bind,zaa hu,Result.andThen_ok,zag hi,if_neg hg,Sem.run_pure,if_pos h0,hr0,k3,newRow,run_newObj];rfl
       ·simp only[Instr.buildSlice,Sem.run_bind,zaa hu,Result.andThen_ok,zag hi,if_neg hg,Sem.run_pure,if_neg h0,zcO hi hzz,g4,k3,newRow,run_newObj];rfl
     ·trivial
    ·trivial
   ·trivial
  ·trivial
 ·trivial
end Go.Cx
namespace Go.Cx
open Go Go.RowKit
variable{e:Env}{P:Program}{w:World}{m:Mem}{W0:Bas}
theorem zmT:∀(us vs:List Value) (off:Nat),off+us.length<=vs.length->zls vs off us=vs.take off++us++vs.drop (off+us.length)
 |[],vs,off,h=>by simp[zls]
 |u::us,vs,off,h=>by
  simp only[ya7]at h;simp only[zls];rw[zmT us _ (off+1) (by simp;omega)];have h1:(vs.set off u).take (off+1)=vs.take off++[u]:=by
   rw[List.take_add_one,List.take_set_of_le (Nat.le_refl _)];simp[show off<vs.length by omega]
  have h2:(vs.set off u).drop (off+1+us.length)=vs.drop (off+(u::us).length):=by
   rw[List.drop_set_of_lt (by omega)];congr 1;simp;omega
  rw[h1,h2];simp
theorem zdh(hm:Mok e m w){sz n:Nat}{x:CV}{l:List CV}{V:Value}(h:elems m sz x=some (n,l))(hx:den e x=some V):
  ∃us,denL e l=some us/\us.length=n*sz/\(∀u∈us,u.oneCell'=true)/\((x=.nils/\V=.slice none 0 0/\n=0)\/∃ad c,V=.slice (some ad) n c/\∀j u,us[j]? = some u->w.cell? (ad.add j)=some u):=by
 unfold elems at h;split at h
 ·simp only[ya0,yc4]at h;obtain⟨rfl,rfl⟩:=h;simp only[den,ya0]at hx;exact⟨[],rfl,by simp,by simp,.inl ⟨rfl,hx.symm,rfl⟩⟩
 ·rename_i t off k c;split at h
  ·rename_i ty cs ho;split at h
   ·rename_i l' ht;simp only[ya0,yc4]at h;obtain⟨rfl,rfl⟩:=h;obtain⟨b,lv,h1,h2,h3,h4,h5⟩:=hm _ _ ho;simp only[den,ya3]at hx;obtain⟨b',hb',rfl⟩:=hx;obtain rfl:b=b':=by rw[h1]at hb';cases hb';rfl
    obtain⟨k1,k2⟩:=zbu h3 ht;refine⟨_,k2,by simp;omega,fun u hu=>zeP h4 h3 u (List.mem_of_mem_drop (List.mem_of_mem_take hu)),.inr ⟨_,_,rfl,fun j u hj=>?_⟩⟩;rw[Addr.add_lit,zaW h5,h2];rw[List.getElem?_take]at hj;split at hj
    ·rw[List.getElem?_drop]at hj;simpa using hj
    ·cases hj
   ·cases h
  ·rename_i ty sz' cs ho;split at h
   ·rename_i l' ht;simp only[ya0,yc4]at h;obtain⟨rfl,rfl⟩:=h;obtain⟨b,lv,pre,suf,h1,h2,h3,h4,h5,h6,⟨fr,h7,h7'⟩,h8,h9⟩:=hm _ _ ho;simp only[den,ya3]at hx;obtain⟨b',hb',rfl⟩:=hx;obtain rfl:b=b':=by rw[h1]at hb';cases hb';rfl
    obtain⟨k1,k2⟩:=zbu h5 ht;refine⟨_,k2,by simp;omega,fun u hu=>zeP h6 h5 u (List.mem_of_mem_drop (List.mem_of_mem_take hu)),.inr ⟨_,_,rfl,fun j u hj=>?_⟩⟩;rw[Addr.add_lit,zaW h7,<- h4];rw[List.getElem?_take]at hj;split at hj
    ·rw[List.getElem?_drop]at hj;have hlt:off+j<lv.length:=(List.getElem?_eq_some_iff.1 hj).1;rw[List.getElem?_toArray,yc1,Nat.add_assoc,yd0 (by omega),Nat.add_sub_cancel_left,yb8 hlt,hj]
    ·cases hj
   ·cases h
  ·rename_i cs ho;split at h
   ·rename_i l' ht;simp only[ya0,yc4]at h;obtain⟨rfl,rfl⟩:=h;obtain⟨b,lv,pre,suf,ty,fr,h1,h2,h3,h4,h5,_⟩:=hm _ _ ho;simp only[den,ya3]at hx;obtain⟨b',hb',rfl⟩:=hx;obtain rfl:b=b':=by rw[h1]at hb';cases hb';rfl
    obtain⟨k1,k2⟩:=zbu h3 ht;refine⟨_,k2,by simp;omega,fun u hu=>zeP h4 h3 u (List.mem_of_mem_drop (List.mem_of_mem_take hu)),.inr ⟨_,_,rfl,fun j u hj=>?_⟩⟩;rw[Addr.add_lit,zaW h5,<- h2];rw[List.getElem?_take]at hj;split at hj
    ·rw[List.getElem?_drop]at hj;have hlt:off+j<lv.length:=(List.getElem?_eq_some_iff.1 hj).1;rw[List.getElem?_toArray,yc1,Nat.add_assoc,yd0 (by omega),Nat.add_sub_cancel_left,yb8 hlt,hj]
    ·cases hj
   ·cases h
  ·cases h
 ·rename_i t k k2;split at h
  ·rename_i ty sz' cs ho;split at h
   ·rename_i hsz;have hsz:=yb0 hsz;split at h
    ·rename_i l' ht;simp only[ya0,yc4]at h;obtain⟨rfl,rfl⟩:=h;obtain⟨b,lv,pre,suf,h1,h2,h3,h4,h5,h6,⟨fr,h7,h7'⟩,h8,h9⟩:=hm _ _ ho;simp only[den,ya3]at hx;obtain⟨b',hb',rfl⟩:=hx;obtain rfl:b=b':=by rw[h1]at hb';cases hb';rfl
     obtain⟨k1,k2⟩:=zbu h5 ht;refine⟨_,k2,by simp;omega,fun u hu=>zeP h6 h5 u (List.mem_of_mem_drop (List.mem_of_mem_take hu)),.inr ⟨_,_,rfl,fun j u hj=>?_⟩⟩;rw[Addr.add_lit,zaW h7,<- h4,h2,hsz];rw[List.getElem?_take]at hj;split at hj
     ·rw[List.getElem?_drop]at hj;have hlt:k*sz+j<lv.length:=(List.getElem?_eq_some_iff.1 hj).1;rw[List.getElem?_toArray,yc1,Nat.add_assoc,yd0 (by omega),Nat.add_sub_cancel_left,yb8 hlt,hj]
     ·cases hj
    ·cases h
   ·cases h
  ·cases h
 ·simp only[ya0,yc4]at h;obtain⟨rfl,rfl⟩:=h;simp only[den,ya3]at hx;obtain⟨b,_,rfl⟩:=hx;refine⟨[],rfl,by simp,by simp,.inr ?_⟩;split
  ·exact⟨_,_,rfl,by simp⟩
  ·exact⟨_,_,rfl,by simp⟩
 ·simp only[ya0,yc4]at h;obtain⟨rfl,rfl⟩:=h;simp only[den,ya0]at hx;subst hx;exact⟨[],rfl,by simp,by simp,.inr ⟨_,_,rfl,by simp⟩⟩
 ·cases h
theorem zfa(sz n:Nat)(ad:Addr)(k c:Nat)(us:List Value)(hl:us.length=n*sz)(h:∀j u,us[j]? = some u->w.cell? (ad.add j)=some u):
  (Builtin.firstCells sz n (.slice (some ad) k c)).run P w=.ok us.toArray w:=by
 simp only[Builtin.firstCells];rw[<- hl];exact run_loadCells_list w ad us h
theorem zcL(h:Rel W0 e m w){T:Nat}(hT:e T=none/\¬W0.Z T){m1:Mem}(hm:∀t o,m1.get t=some o->m.get t=some o)(hn:m1.nxt=m.nxt){elem:TypeId}{sz k:Nat}(hsz:0<sz){cs:List CV}{us:List Value}(hu:denL e cs=some us)(ha:cs.all one=true)
  {v':Value} {w':World} (hk:0<k) (hlen:us.length=k*sz) (hown:w'.ownsRow w.heap.size elem sz v' k us) (hg:w.grownBy w' none):
  ∃e',Env.le e e'/\den e' (.opn T 0 k)=some v'/\Rel W0 e' (m1.newAt T (.opn elem sz cs)) w':=by
 obtain⟨_,⟨_,h0⟩ |⟨g,cap,cur,rfl,hge,hh,hc1,hc2,hc3,hc4⟩⟩:=hown
 ·omega
 ·have hs:=h.frm.size;have hrow:cur=(([]:List Value)++us++cur.toList.drop (k*sz)).toArray:=by
   rw[List.nil_append,<- hc4,List.take_append_drop]
  obtain⟨h1,h2⟩:=h.fresh hT (m1:=m1) hm hn (b:=⟨g,0,cap,sz⟩) (w':=w') (o:=.opn elem sz cs)
   (fun t o1 b' ht hb'=>by
    obtain⟨bb,x2,k1,k2⟩:=zc5 (h.ok t o1 (hm t o1 ht));have hbe:bb=b':=by rw[k1]at hb';exact Option.some.inj hb'
    rw[hbe]at k2;have hlt:=zcH k2;exact⟨fun hq=>by
     have hq:b'.blk=g:=hq;omega,hg.block _ hlt (by simp)⟩)
   (h.nF (by show w.heap.size<=g;omega)) ⟨hg.os,hg.tape,hg.output,hg.size,fun i hi=>hg.block i (h.frF hi) (by simp)⟩
   ⟨_,us,[],cur.toList.drop (k*sz),Env.ext_same ..,rfl,hsz,rfl,denL_mono (Env.ext_le hT.1 _) _ _ hu,ha,⟨(0,0),by rw[<- hrow];exact hh,NoFr.zero _⟩,by
    show(us++cur.toList.drop (k*sz)).length=cap*sz;have h3:cur.toList.length=cap*sz:=by simpa using hc3
    have h4:k*sz<=cap*sz:=yd2 _ hc1;rw[ya1,List.length_drop,hlen,h3];omega,hc2⟩
  refine⟨_,h1,?_,h2⟩;show((e.ext T _) T).map _=_;rw[Env.ext_same];simp
theorem all_append{a b:List CV}(h1:a.all one=true)(h2:b.all one=true):(a++b).all one=true:=by rw[List.all_append,h1,h2];rfl
theorem zhM(hm:Mok e m w){sz n:Nat}{x:CV}{l:List CV}{V:Value}(h:elems m sz x=some (n,l)):l.all one=true:=by
 have tk:∀{cs l:List CV} {off k:Nat},cs.all one=true->zcZ cs off k=some l->l.all one=true:=fun hc ht=>by
  obtain⟨_,rfl⟩:=zbl ht;rw[List.all_eq_true]at *;exact fun x hx=>hc x (List.mem_of_mem_drop (List.mem_of_mem_take hx))
 unfold elems at h;split at h
 ·simp only[ya0,yc4]at h;obtain⟨_,rfl⟩:=h;rfl
 ·split at h
  ·rename_i ho;split at h
   ·rename_i l' ht;simp only[ya0,yc4]at h;obtain⟨_,rfl⟩:=h;obtain⟨_,_,_,_,_,h4,_⟩:=hm _ _ ho;exact tk h4 ht
   ·cases h
  ·rename_i ho;split at h
   ·rename_i l' ht;simp only[ya0,yc4]at h;obtain⟨_,rfl⟩:=h;obtain⟨_,_,_,_,_,_,_,_,_,h4,_⟩:=hm _ _ ho;exact tk h4 ht
   ·cases h
  ·rename_i ho;split at h
   ·rename_i l' ht;simp only[ya0,yc4]at h;obtain⟨_,rfl⟩:=h;obtain⟨_,_,_,_,_,_,_,_,_,h4,_⟩:=hm _ _ ho;exact tk h4 ht
   ·cases h
  ·cases h
 ·split at h
  ·rename_i ho;split at h
   ·split at h
    ·rename_i l' ht;simp only[ya0,yc4]at h;obtain⟨_,rfl⟩:=h;obtain⟨_,_,_,_,_,_,_,_,_,h4,_⟩:=hm _ _ ho;exact tk h4 ht
    ·cases h
   ·cases h
  ·cases h
 ·simp only[ya0,yc4]at h;obtain⟨_,rfl⟩:=h;rfl
 ·simp only[ya0,yc4]at h;obtain⟨_,rfl⟩:=h;rfl
 ·cases h
theorem zpw(h:Rel W0 e m w){TT:Nat}(hTT:e TT=none/\¬W0.Z TT){s x:CV}{S X:Value}(hs:den e s=some S)(hx:den e x=some X)(T T2 ty:TypeId):
  EOk W0 P e m w (zdm P TT m T T2 s x) (Builtin.append_ #[T,T2] ty #[S,X]):=by
 unfold zdm;split
 ·trivial
 rename_i hT;obtain rfl:=yb0 hT;split
 ·rename_i elem hu;split
  ·rename_i inf z hi hz;obtain⟨iz,zv,hiz,hzz,hzd⟩:=zcq hz;obtain rfl:inf=iz:=by rw[hi]at hiz;cases hiz;rfl
   split
   ·rename_i hc;simp only[ya2]at hc;have g1:0<inf.size:=by simpa[Nat.blt_eq]using hc.1
    have g4:zv.cells.size=inf.size:=by rw[<- yb0 hc.2,<- zad (hzd e)];simp
    split
    ·rename_i nx new n old hnew hold;obtain⟨us,u1,u2,u3,u4⟩:=zdh h.ok hnew hx;obtain⟨vs,v1,v2,v3,v4⟩:=zdh h.ok hold hs;have an:=zhM (V:=X) h.ok hnew;have ao:=zhM (V:=S) h.ok hold;split
     ·rename_i hfit;simp only[zt5,ya2]at hfit;have f1:=ya9 hfit.1;have f2:=ya9 hfit.2;have f3:n+nx<=maxLen:=by simp only[maxLen];omega
      have f4:(n+nx)*inf.bytes<=140737488355328:=Nat.le_trans (Nat.mul_le_mul f1 f2) (by omega);have zeroCase:nx=0->∀(b:Option Addr) (k c:Nat),k<=c->(Builtin.append_ #[T,T] ty #[.slice b k c,X]).run P w=.ok (.slice b k c) w:=fun h0 b k c hkc=>by
       subst h0;rcases u4 with⟨_,rfl,_⟩ |⟨ad,cx,rfl,hcell⟩
       ·cases b<;>simp[Builtin.append_,zaa hu,zag hi,Builtin.lenOf,hkc,Builtin.firstCells,storeCells]
       ·have hus:us=[]:=List.eq_nil_of_length_eq_zero (by simpa using u2);have hf:=zfa (P:=P) (w:=w) inf.size 0 ad 0 cx [] (by simp) (by simp);cases b<;>simp[Builtin.append_,zaa hu,zag hi,Builtin.lenOf,hkc,hf,storeCells]
      split
      ·
       unfold ap0;split
       ·rename_i t off k c;split
        ·rename_i hkc;have hkc:=ya9 hkc;simp only[den,ya3]at hs;obtain⟨b,hb,rfl⟩:=hs;exact⟨_,by simp only[den,hb,yc5],zeroCase rfl _ _ _ hkc⟩
        ·trivial
       ·rename_i hns;rcases v4 with⟨rfl,rfl,_⟩ |⟨ad,c,rfl,_⟩
        ·exact⟨_,rfl,zeroCase rfl _ _ _ (Nat.le_refl _)⟩
        ·refine⟨_,hs,zeroCase rfl _ _ _ ?_⟩;unfold elems at hold;split at hold
         ·simp[den]at hs
         ·exact absurd rfl (hns _ _ _ _)
         ·rename_i t k n';split at hold
          ·rename_i ty' sz' cs' ho;split at hold
           ·split at hold
            ·rename_i l' ht;simp only[ya0,yc4]at hold;obtain⟨rfl,rfl⟩:=hold;rename_i hszz _;have hszz:=yb0 hszz;obtain⟨b,lv,pre,suf,h1,h2,h3,h4,h5,h6,h7,h8,h9⟩:=h.ok _ _ ho;simp only[den,ya3]at hs;obtain⟨b',hb',hq⟩:=hs;obtain rfl:b=b':=by rw[h1]at hb';cases hb';rfl
             cases hq;obtain⟨q1,_⟩:=zbl ht;have q2:cs'.length<=b.cap*sz':=by rw[<- h8,<- zad h5];simp
             have q3:(k+n')*sz'<=b.cap*sz':=by rw[hszz,Nat.add_mul];rw[hszz]at q2;omega
             have:=Nat.le_of_mul_le_mul_right q3 h3;omega
            ·cases hold
           ·cases hold
          ·cases hold
         ·simp only[ya0,yc4]at hold;obtain⟨rfl,_⟩:=hold;omega
         ·simp only[ya0,yc4]at hold;obtain⟨rfl,_⟩:=hold;omega
         ·cases hold
      ·
       rename_i k;simp only[Nat.succ_eq_add_one]at hnew u2 f1 f3 f4 zeroCase;have hX:∃ad cx,X=.slice (some ad) (k+1) cx/\∀j u,us[j]? = some u->w.cell? (ad.add j)=some u:=by
        rcases u4 with⟨_,_,h0⟩ |hq
        ·exact absurd h0 (by omega)
        ·exact hq
       obtain⟨ad,cx,rfl,hcell⟩:=hX;have hlen:(vs++us).length=(n+(k+1))*inf.size:=by rw[ya1,v2,u2];exact(Nat.add_mul ..).symm
       have hdd:=zaR v1 u1;unfold zwB;split
       ·
        have:n=0/\vs=[]/\old=[]:=by
         simp only[elems,ya0,yc4]at hold;obtain⟨rfl,rfl⟩:=hold;exact⟨rfl,List.eq_nil_of_length_eq_zero (by simpa using v2),rfl⟩
        obtain⟨rfl,rfl,rfl⟩:=this;simp only[den,ya0]at hs;subst hs;obtain⟨v',w',r1,r2,r3,r4⟩:=run_append_own (P:=P) w w.heap.size T ty elem inf zv inf.size inf.bytes hu hi hzz rfl rfl g4 g1 (.slice none 0 0) 0 [] (World.ownsRow_nil w _ elem inf.size) ad (k+1) cx us u2 hcell u3 f3 f4 (Nat.le_refl _);obtain⟨e',q1,q2,q3⟩:=zcL h hTT (fun _ _ h=>h) rfl g1 hdd (all_append ao an) (k:=k+1) (by omega) (by simpa using hlen) (by simpa using r2) (by simpa[Value.ownBlock]using r3);exact⟨e',v',w',q1,q2,by simpa using q3,r1⟩
       ·
        rename_i a0;have:n=0/\vs=[]/\old=[]:=by
         simp only[elems,ya0,yc4]at hold;obtain⟨rfl,rfl⟩:=hold;exact⟨rfl,List.eq_nil_of_length_eq_zero (by simpa using v2),rfl⟩
        obtain⟨rfl,rfl,rfl⟩:=this;simp only[den,ya0]at hs;subst hs;obtain⟨v',w',r1,r2,r3⟩:=run_append_arg_grows (P:=P) w T ty elem inf zv inf.size inf.bytes hu hi hzz rfl rfl g4 g1 a0 0 0 [] (by simp) (fun j u hj=>by simp at hj) ad (k+1) cx us u2 hcell (by omega) f3 f4;obtain⟨e',q1,q2,q3⟩:=zcL h hTT (fun _ _ h=>h) rfl g1 hdd (all_append ao an) (k:=k+1) (by omega) (by simpa using hlen) (by simpa using r2) r3;exact⟨e',v',w',q1,q2,by simpa using q3,r1⟩
       ·
        rename_i t off n' c;unfold zit;have hn:n'=n:=by
         unfold elems at hold;simp only at hold;split at hold
         ·split at hold
          ·simp only[ya0,yc4]at hold;exact hold.1
          ·cases hold
         ·split at hold
          ·simp only[ya0,yc4]at hold;exact hold.1
          ·cases hold
         ·split at hold
          ·simp only[ya0,yc4]at hold;exact hold.1
          ·cases hold
         ·cases hold
        subst hn;simp only[den,ya3]at hs;obtain⟨b,hb,rfl⟩:=hs;have v5:∀j u,vs[j]? = some u->w.cell? ((⟨b.blk,b.off+off,none⟩:Addr).add j)=some u:=by
         rcases v4 with⟨hq,_⟩ |⟨ad',c',hq,hv⟩
         ·cases hq
         ·cases hq;exact hv
        split
        ·rename_i hroom;have hroom:=ya9 hroom;split
         ·rename_i m' hw;obtain⟨b',w',k1,k2,k3⟩:=zkn (P:=P) h hw u1;obtain rfl:b=b':=by rw[hb]at k1;cases k1;rfl
          refine⟨e,.slice (some ⟨b.blk,b.off+off,none⟩) (n'+(k+1)) c,w',Env.le.refl e,by simp[den,hb],k3,?_⟩;have hf:=zfa (P:=P) (w:=w) inf.size (k+1) ad (k+1) cx us u2 hcell;have ka:(⟨b.blk,b.off+off,none⟩:Addr).add (n'*inf.size)=⟨b.blk,b.off+(off+n'*inf.size),none⟩:=by rw[Addr.add_lit,Nat.add_assoc]
          simp[Builtin.append_,zaa hu,zag hi,Builtin.lenOf,hroom,hf,ka,k2]
         ·trivial
        ·rename_i hroom;have hroom:c<n'+(k+1):=by
          rcases Nat.lt_or_ge c (n'+(k+1))with h1 |h1
          ·exact h1
          ·rw[yb1 h1]at hroom;cases hroom
         obtain⟨v',w',r1,r2,r3⟩:=run_append_arg_grows (P:=P) w T ty elem inf zv inf.size inf.bytes hu hi hzz rfl rfl g4 g1 ⟨b.blk,b.off+off,none⟩ n' c vs v2 v5 ad (k+1) cx us u2 hcell hroom f3 f4;obtain⟨e',q1,q2,q3⟩:=zcL h hTT (fun _ _ h=>h) rfl g1 hdd (all_append ao an) (by omega) hlen r2 r3;exact⟨e',v',w',q1,q2,q3,r1⟩
       ·
        rename_i t k0 n';unfold zpR;split
        ·rename_i ty' sz' cs' ho;have hold2:=hold;unfold elems at hold2;simp only[ho]at hold2;split at hold2
         ·rename_i hszz;have hszz:=yb0 hszz;subst hszz;split at hold2
          ·rename_i l' ht;simp only[ya0,yc4]at hold2;obtain⟨rfl,rfl⟩:=hold2;have hs0:=hs;simp only[den,ya3]at hs;obtain⟨b,hb,rfl⟩:=hs;have v5:∀j u,vs[j]? = some u->w.cell? ((⟨b.blk,b.off+k0*b.sz,none⟩:Addr).add j)=some u:=by
            rcases v4 with⟨hq,_⟩ |⟨ad',c',hq,hv⟩
            ·cases hq
            ·cases hq;exact hv
           obtain⟨b',lv,pre,suf,o1,o2,o3,o4,o5,o6,⟨fr,o7,o7'⟩,o8,o9⟩:=h.ok _ _ ho;obtain rfl:b'=b:=by rw[o1]at hb;cases hb;rfl
           obtain⟨q1,q2⟩:=zbl ht;have hcl:cs'.length<=b'.cap*inf.size:=by rw[<- o8,<- zad o5];simp
           have hfr:=zfa (P:=P) (w:=w) inf.size (k+1) ad (k+1) cx us u2 hcell;have room:n'+(k+1)<=b'.cap - k0->k0<=b'.cap->∀w',(storeCells ⟨b'.blk,b'.off+(k0+n')*inf.size,none⟩ us).run P w=.ok () w' ->
             (Builtin.append_ #[T,T] ty #[.slice (some ⟨b'.blk,b'.off+k0*b'.sz,none⟩) n' (b'.cap - k0),.slice (some ad) (k+1) cx]).run P w=.ok (.slice (some ⟨b'.blk,b'.off+k0*b'.sz,none⟩) (n'+(k+1)) (b'.cap - k0)) w':=fun hroom _ w' hst=>by
            have ka:(⟨b'.blk,b'.off+k0*b'.sz,none⟩:Addr).add (n'*inf.size)=⟨b'.blk,b'.off+(k0+n')*inf.size,none⟩:=by rw[Addr.add_lit,o2,Nat.add_mul,Nat.add_assoc]
            simp[Builtin.append_,zaa hu,zag hi,Builtin.lenOf,hroom,hfr,ka,hst]
           split
           rotate_left
           ·trivial
           rename_i hty;have hty:=yb0 hty;subst hty;split
           ·rename_i hin;have hin:=ya9 hin;split
            ·rename_i m' hw;obtain⟨b2,w',k1,k2,k3⟩:=zkn (P:=P) h hw u1;obtain rfl:b'=b2:=by rw[o1]at k1;cases k1;rfl
             have hk:k0+n'+(k+1)<=b'.cap:=Nat.le_of_mul_le_mul_right (Nat.le_trans hin hcl) g1;refine⟨e,_,w',Env.le.refl e,by simp only[den,o1,yc5],k3,room (by omega) (by omega) w' k2⟩
            ·trivial
           ·have hold3:k0*inf.size+n'*inf.size<=cs'.length:=q1;have hkcap:k0+n'<=b'.cap:=Nat.le_of_mul_le_mul_right (by rw[Nat.add_mul];exact Nat.le_trans hold3 hcl) g1;have killed:∀t1 o1,(m.kill t).get t1=some o1->m.get t1=some o1/\t1≠t:=fun t1 o1 h1=>by
             rw[Mem.get_kill]at h1;by_cases hq:t1=t
             ·rw[if_pos hq]at h1;cases h1
             ·rw[if_neg hq]at h1;exact⟨h1,hq⟩
            by_cases hroom:n'+(k+1)<=b'.cap - k0
            ·
             have m1:(k0+n')*inf.size=k0*inf.size+n'*inf.size:=Nat.add_mul ..;have m2:(n'+(k+1))*inf.size=n'*inf.size+(k+1)*inf.size:=Nat.add_mul ..;have m3:k0*inf.size+n'*inf.size+(k+1)*inf.size<=b'.cap*inf.size:=by
              rw[<- Nat.add_mul,<- Nat.add_mul];exact yd2 _ (by omega)
             have hL:b'.off+(k0+n')*inf.size+us.length<=(pre++lv++suf).length:=by
              have e1:(pre++lv++suf).length=b'.off+b'.cap*inf.size:=by rw[yc1,ya1,o8,o4]
              rw[e1,u2,m1];omega
             obtain⟨w',r,hh,hwr⟩:=zbs (P:=P) (off:=b'.off+(k0+n')*inf.size) us 0 (pre++lv++suf) w o7 o7' (by omega) u3;have hlv:vs=(lv.drop (k0*inf.size)).take (n'*inf.size):=by
              have:=(zbu o5 ht).2;rw[v1]at this;cases this;rfl
             have hlvl:k0*inf.size+n'*inf.size<=lv.length:=by rw[zad o5];exact hold3
             have hrow:zls (pre++lv++suf) (b'.off+(k0+n')*inf.size+0) us=(pre++lv.take (k0*inf.size))++(vs++us)++(pre++lv++suf).drop (b'.off+(k0+n')*inf.size+us.length):=by
              rw[Nat.add_zero,zmT _ _ _ hL];have e2:(pre++lv++suf).take (b'.off+(k0+n')*inf.size)=pre++lv.take (k0*inf.size)++vs:=by
               rw[<- o4,yc1,List.take_length_add_append,List.take_append_of_le_length (by rw[Nat.add_mul];omega),Nat.add_mul,List.take_add,<- hlv,yc1]
              rw[e2];simp
             obtain⟨f5,f6⟩:=h.fresh hTT (m1:=m.kill t) (fun t1 o1 h1=>(killed t1 o1 h1).1) rfl (b:=⟨b'.blk,b'.off+k0*inf.size,b'.cap - k0,inf.size⟩) (w':=w') (o:=.opn ty' inf.size (l'++new))
              (fun t1 o1' b2 h1 h2=>by
               obtain⟨h3,h4⟩:=killed t1 o1' h1;have:b2.blk≠b'.blk:=fun hq=>h4 (h.inj t1 t _ _ b2 b' h3 ho rfl h2 o1 hq)
               exact⟨this,hwr.block _ this⟩)
              (h.own t _ b' ho rfl o1)
              ⟨hwr.os,hwr.tape,hwr.output,Nat.le_of_eq hwr.size.symm,fun i hi2=>hwr.block i (fun hq=>h.own t _ b' ho rfl o1 (hq ▸ hi2))⟩
              ⟨_,vs++us,pre++lv.take (k0*inf.size),(pre++lv++suf).drop (b'.off+(k0+n')*inf.size+us.length),Env.ext_same ..,rfl,g1,by
               show(pre++lv.take (k0*inf.size)).length=b'.off+k0*inf.size;simp[o4];omega,denL_mono (Env.ext_le hTT.1 _) _ _ hdd,all_append ao an,⟨fr,by rw[<- hrow];exact hh,by rw[<- hrow,zbY];exact o7'⟩,by
               show(vs++us++(pre++lv++suf).drop (b'.off+(k0+n')*inf.size+us.length)).length=(b'.cap - k0)*inf.size;have e1:(pre++lv++suf).length=b'.off+b'.cap*inf.size:=by rw[yc1,ya1,o8,o4]
               rw[ya1,List.length_drop,e1,hlen,u2,Nat.sub_mul,m1,m2];omega,by show b'.cap - k0<=maxLen;omega⟩
             refine⟨_,.slice (some ⟨b'.blk,b'.off+k0*b'.sz,none⟩) (n'+(k+1)) (b'.cap - k0),w',f5,?_,f6,room hroom (by omega) w' (by simpa using r)⟩;show((e.ext TT _) TT).map _=_;rw[Env.ext_same];simp[o2]
            ·obtain⟨v',w',r1,r2,r3⟩:=run_append_arg_grows (P:=P) w T ty ty' inf zv inf.size inf.bytes hu hi hzz rfl rfl g4 g1 ⟨b'.blk,b'.off+k0*b'.sz,none⟩ n' (b'.cap - k0) vs v2 v5 ad (k+1) cx us u2 hcell (by omega) f3 f4;obtain⟨e',q3,q4,q5⟩:=zcL h hTT (m1:=m.kill t) (fun t1 o1 h1=>(killed t1 o1 h1).1) rfl g1 hdd (all_append ao an) (by omega) hlen r2 r3;exact⟨e',v',w',q3,q4,q5,r1⟩
          ·cases hold2
         ·cases hold2
        ·trivial
       ·trivial
     ·trivial
    ·trivial
   ·trivial
  ·trivial
 ·trivial
end Go.Cx
namespace Go.Cx
open Go Go.RowKit
variable{e:Env}{P:Program}{w:World}{m:Mem}{W0:Bas}
theorem zfl(e:Env):∀s:List Nat,denL e (s.map fun b=>CV.int .u8 (.ofNat (b%256)))=some ((s.map UInt8.ofNat).map fun b=>Value.int .u8 b.toNat)
 |[]=>rfl
 |b::s=>zar (by simp[den]) (zfl e s)
theorem zhR:∀s:List Nat,(s.map fun b=>CV.int .u8 (.ofNat (b%256))).all one=true
 |[]=>rfl
 |b::s=>by simp[one]
theorem zh0(t u ty el:TypeId)(i:TypeInfo)(z:Value)(ht:P.underlying t=some (.slice el))(hu:P.underlying u=some .string)(hi:P.info? el=some i)(hz:i.zero=some z)(hs1:i.size=1)(hzs:z.cells.size=1)
  (b:Addr) (n cap:Nat) (olds:List Value) (hlo:olds.length=n) (holds:∀j v,olds[j]? = some v->w.cell? (b.add j)=some v)
  (s:ByteArray) (hg:cap<n+s.size) (h63:n+s.size<=maxLen) (hbytes:(n+s.size)*i.bytes<=140737488355328):
  ∃v' w',(Builtin.append_ #[t,u] ty #[.slice (some b) n cap,.string s]).run P w=.ok v' w'/\w'.ownsRow w.heap.size el 1 v' (n+s.size) (olds++Lib.strCells s)/\w.grownBy w' none:=by
 have hsmall:n+s.size<=9223372036854775807:=by simp only[maxLen]at h63;omega
 have hlen:(olds++Lib.strCells s).length=(n+s.size)*1:=by rw[ya1,hlo,Lib.strCells_length,Nat.mul_one]
 have hge:=grownCap_ge w (n+s.size) cap el;have hcm:grownCap w (n+s.size) cap el<=maxLen:=grownCap_le_maxLen w (n+s.size) cap el h63;have hr:=Lib.run_append_grow_string (P:=P) w t u ty el i z ht hu hi hz b n cap olds (by rw[hs1];omega) holds s hg (by omega) (growslice_fits hg hbytes);refine⟨_,_,hr,⟨hlen,.inr ⟨w.heap.size,_,_,rfl,Nat.le_refl _,heap_alloc_new w.drew _,hge,hcm,?_,?_⟩⟩,⟨rfl,rfl,rfl,by simp,fun k hk _=>Go.heap_alloc_old w.drew _ hk⟩⟩
 ·simp only[Array.size_append,List.size_toArray,size_zeroCells,hzs,hlo,Lib.strCells_length];omega
 ·simp only[Array.toList_append,yc1];rw[<- yc1,<- hlen];exact List.take_left
theorem zku(t u ty el:TypeId)(i:TypeInfo)(z:Value)(ht:P.underlying t=some (.slice el))(hu:P.underlying u=some .string)(hi:P.info? el=some i)(hz:i.zero=some z)(hs1:i.size=1)(hzs:z.cells.size=1)
  (s:ByteArray) (hg:0<s.size) (h63:s.size<=maxLen) (hbytes:s.size*i.bytes<=140737488355328):
  ∃v' w',(Builtin.append_ #[t,u] ty #[.slice none 0 0,.string s]).run P w=.ok v' w'/\w'.ownsRow w.heap.size el 1 v' s.size (Lib.strCells s)/\w.grownBy w' none:=by
 have hsmall:s.size<=9223372036854775807:=by simp only[maxLen]at h63;omega
 have hlen:(Lib.strCells s).length=s.size*1:=by rw[Lib.strCells_length,Nat.mul_one]
 have hge:=grownCap_ge w s.size 0 el;have hcm:grownCap w s.size 0 el<=maxLen:=grownCap_le_maxLen w s.size 0 el h63;have hr:=run_append_nil_string (P:=P) w t u ty el i z ht hu hi hz s hg (by omega) (by omega);have e1:(s.data.map fun b=>Value.int .u8 b.toNat)=(Lib.strCells s).toArray:=by
  apply Array.ext';simp[Lib.strCells]
 rw[e1]at hr;refine⟨_,_,hr,⟨hlen,.inr ⟨w.heap.size,_,_,rfl,Nat.le_refl _,heap_alloc_new w.drew _,hge,hcm,?_,?_⟩⟩,⟨rfl,rfl,rfl,by simp,fun k hk _=>Go.heap_alloc_old w.drew _ hk⟩⟩
 ·simp only[Array.size_append,List.size_toArray,size_zeroCells,hzs,Lib.strCells_length];omega
 ·simp only[Array.toList_append];rw[<- hlen];exact List.take_left
theorem zmY(h:Rel W0 e m w){TT:Nat}(hTT:e TT=none/\¬W0.Z TT){s:CV}{bs:List Nat}{S:Value}(hs:den e s=some S)(T T2 ty:TypeId):
  EOk W0 P e m w (zdp P TT m T T2 s bs) (Builtin.append_ #[T,T2] ty #[S,.string ⟨(bs.map UInt8.ofNat).toArray⟩]):=by
 unfold zdp;split
 ·rename_i elem hu hu2;split
  ·rename_i inf z hi hz;obtain⟨iz,zv,hiz,hzz,hzd⟩:=zcq hz;obtain rfl:inf=iz:=by rw[hi]at hiz;cases hiz;rfl
   split
   ·rename_i hc;simp only[ya2]at hc;have i1:inf.size=1:=yb0 hc.1;have g4:zv.cells.size=1:=by rw[<- yb0 hc.2,<- zad (hzd e)];simp
    have g1:0<1:=by omega
    split
    ·rename_i n old hold;generalize hB:(⟨(bs.map UInt8.ofNat).toArray⟩:ByteArray)=B;have hsize:B.size=bs.length:=by rw[<- hB];exact zfr bs
     have hus:Lib.strCells B=(bs.map UInt8.ofNat).map fun b=>Value.int .u8 b.toNat:=by rw[<- hB];simp[Lib.strCells]
     have u1:denL e (bs.map fun b=>CV.int .u8 (.ofNat (b%256)))=some (Lib.strCells B):=by rw[hus];exact zfl e bs
     have an:=zhR bs;obtain⟨vs,v1,v2,v3,v4⟩:=zdh h.ok hold hs;have ao:=zhM (V:=S) h.ok hold;split
     ·rename_i hfit;simp only[zt5,ya2]at hfit;have f1:=ya9 hfit.1;have f2:=ya9 hfit.2;have f3:n+bs.length<=maxLen:=by simp only[maxLen];omega
      have f4:(n+bs.length)*inf.bytes<=140737488355328:=Nat.le_trans (Nat.mul_le_mul f1 f2) (by omega);have hfc:=Lib.run_firstCells_string (P:=P) w 1 B;have zeroCase:bs.length=0->∀(b:Option Addr) (k c:Nat),k<=c->(Builtin.append_ #[T,T2] ty #[.slice b k c,.string B]).run P w=.ok (.slice b k c) w:=fun h0 b k c hkc=>by
       have hz0:Lib.strCells B=[]:=List.eq_nil_of_length_eq_zero (by rw[Lib.strCells_length,hsize,h0]);have hb0:B.size=0:=by omega
       rw[hb0,hz0]at hfc;cases b<;>simp[Builtin.append_,zaa hu,zaa hu2,zag hi,i1,Builtin.lenOf,hb0,hkc,hfc,storeCells]
      split
      ·
       rename_i h0;have h0:bs.length=0:=h0;unfold ap0;split
       ·rename_i t off k c;split
        ·rename_i hkc;have hkc:=ya9 hkc;simp only[den,ya3]at hs;obtain⟨b,hb,rfl⟩:=hs;exact⟨_,by simp only[den,hb,yc5],zeroCase h0 _ _ _ hkc⟩
        ·trivial
       ·rename_i hns;rcases v4 with⟨rfl,rfl,_⟩ |⟨ad,c,rfl,_⟩
        ·exact⟨_,rfl,zeroCase h0 _ _ _ (Nat.le_refl _)⟩
        ·refine⟨_,hs,zeroCase h0 _ _ _ ?_⟩;unfold elems at hold;split at hold
         ·simp[den]at hs
         ·exact absurd rfl (hns _ _ _ _)
         ·rename_i t k n';split at hold
          ·rename_i ty' sz' cs' ho;split at hold
           ·split at hold
            ·rename_i l' ht;simp only[ya0,yc4]at hold;obtain⟨rfl,rfl⟩:=hold;rename_i hszz _;have hszz:=yb0 hszz;obtain⟨b,lv,pre,suf,h1,h2,h3,h4,h5,h6,h7,h8,h9⟩:=h.ok _ _ ho;simp only[den,ya3]at hs;obtain⟨b',hb',hq⟩:=hs;obtain rfl:b=b':=by rw[h1]at hb';cases hb';rfl
             cases hq;obtain⟨q1,_⟩:=zbl ht;have q2:cs'.length<=b.cap*sz':=by rw[<- h8,<- zad h5];simp
             have q3:(k+n')*sz'<=b.cap*sz':=by rw[hszz,Nat.add_mul];rw[hszz]at q2;omega
             have:=Nat.le_of_mul_le_mul_right q3 h3;omega
            ·cases hold
           ·cases hold
          ·cases hold
         ·simp only[ya0,yc4]at hold;obtain⟨rfl,_⟩:=hold;omega
         ·simp only[ya0,yc4]at hold;obtain⟨rfl,_⟩:=hold;omega
         ·cases hold
      ·
       rename_i k hkk;have hkk:bs.length=k+1:=hkk;have hBk:B.size=k+1:=by omega
       rw[hkk]at f1 f3 f4;generalize husd:Lib.strCells B=us at *;have u2:us.length=k+1:=by rw[<- husd,Lib.strCells_length,hBk]
       have u3:∀u∈us,u.oneCell'=true:=by rw[<- husd];exact Lib.strCells_oneCell B
       have hlen:(vs++us).length=(n+(k+1))*1:=by rw[ya1,v2,u2];omega
       rw[hBk]at hfc;have hdd:=zaR v1 u1;unfold zwB;split
       ·
        have:n=0/\vs=[]/\old=[]:=by
         simp only[elems,ya0,yc4]at hold;obtain⟨rfl,rfl⟩:=hold;exact⟨rfl,List.eq_nil_of_length_eq_zero (by simpa using v2),rfl⟩
        obtain⟨rfl,rfl,rfl⟩:=this;simp only[den,ya0]at hs;subst hs;obtain⟨v',w',r1,r2,r3⟩:=zku (P:=P) (w:=w) T T2 ty elem inf zv hu hu2 hi hzz i1 g4 B (by omega) (by omega) (by rw[hBk];simpa using f4);rw[hBk,husd]at r2;obtain⟨e',q1,q2,q3⟩:=zcL h hTT (fun _ _ h=>h) rfl g1 hdd (all_append ao an) (k:=k+1) (by omega) (by simpa using hlen) (by simpa using r2) r3;exact⟨e',v',w',q1,q2,by simpa using q3,r1⟩
       ·
        rename_i a0;have:n=0/\vs=[]/\old=[]:=by
         simp only[elems,ya0,yc4]at hold;obtain⟨rfl,rfl⟩:=hold;exact⟨rfl,List.eq_nil_of_length_eq_zero (by simpa using v2),rfl⟩
        obtain⟨rfl,rfl,rfl⟩:=this;simp only[den,ya0]at hs;subst hs;obtain⟨v',w',r1,r2,r3⟩:=zh0 (P:=P) (w:=w) T T2 ty elem inf zv hu hu2 hi hzz i1 g4 a0 0 0 [] rfl (fun j u hj=>by simp at hj) B (by omega) (by omega) (by rw[hBk];exact f4);rw[hBk,husd]at r2;obtain⟨e',q1,q2,q3⟩:=zcL h hTT (fun _ _ h=>h) rfl g1 hdd (all_append ao an) (k:=k+1) (by omega) (by simpa using hlen) (by simpa using r2) r3;exact⟨e',v',w',q1,q2,by simpa using q3,r1⟩
       ·
        rename_i t off n' c;unfold zit;have hn:n'=n:=by
         unfold elems at hold;simp only at hold;split at hold
         ·split at hold
          ·simp only[ya0,yc4]at hold;exact hold.1
          ·cases hold
         ·split at hold
          ·simp only[ya0,yc4]at hold;exact hold.1
          ·cases hold
         ·split at hold
          ·simp only[ya0,yc4]at hold;exact hold.1
          ·cases hold
         ·cases hold
        subst hn;simp only[den,ya3]at hs;obtain⟨b,hb,rfl⟩:=hs;have v5:∀j u,vs[j]? = some u->w.cell? ((⟨b.blk,b.off+off,none⟩:Addr).add j)=some u:=by
         rcases v4 with⟨hq,_⟩ |⟨ad',c',hq,hv⟩
         ·cases hq
         ·cases hq;exact hv
        split
        ·rename_i hroom;have hroom:=ya9 hroom;split
         ·rename_i m' hw;obtain⟨b',w',k1,k2,k3⟩:=zkn (P:=P) h hw u1;obtain rfl:b=b':=by rw[hb]at k1;cases k1;rfl
          refine⟨e,.slice (some ⟨b.blk,b.off+off,none⟩) (n'+(k+1)) c,w',Env.le.refl e,by simp[den,hb],k3,?_⟩;have ka:(⟨b.blk,b.off+off,none⟩:Addr).add n'=⟨b.blk,b.off+(off+n'),none⟩:=by rw[Addr.add_lit,Nat.add_assoc]
          rw[Nat.mul_one]at k2;simp[Builtin.append_,zaa hu,zaa hu2,zag hi,i1,Builtin.lenOf,hBk,hroom,hfc,ka,k2]
         ·trivial
        ·rename_i hroom;have hroom:c<n'+(k+1):=by
          rcases Nat.lt_or_ge c (n'+(k+1))with h1 |h1
          ·exact h1
          ·rw[yb1 h1]at hroom;cases hroom
         obtain⟨v',w',r1,r2,r3⟩:=zh0 (P:=P) (w:=w) T T2 ty elem inf zv hu hu2 hi hzz i1 g4 ⟨b.blk,b.off+off,none⟩ n' c vs (by simpa using v2) v5 B (by omega) (by omega) (by rw[hBk];exact f4);rw[hBk,husd]at r2;obtain⟨e',q1,q2,q3⟩:=zcL h hTT (fun _ _ h=>h) rfl g1 hdd (all_append ao an) (by omega) hlen r2 r3;exact⟨e',v',w',q1,q2,q3,r1⟩
       ·
        rename_i t k0 n';unfold zpR;split
        ·rename_i ty' sz' cs' ho;have hold2:=hold;unfold elems at hold2;simp only[ho]at hold2;split at hold2
         ·rename_i hszz;have hszz:=yb0 hszz;subst hszz;split at hold2
          ·rename_i l' ht;simp only[ya0,yc4]at hold2;obtain⟨rfl,rfl⟩:=hold2;have hs0:=hs;simp only[den,ya3]at hs;obtain⟨b,hb,rfl⟩:=hs;have v5:∀j u,vs[j]? = some u->w.cell? ((⟨b.blk,b.off+k0*b.sz,none⟩:Addr).add j)=some u:=by
            rcases v4 with⟨hq,_⟩ |⟨ad',c',hq,hv⟩
            ·cases hq
            ·cases hq;exact hv
           obtain⟨b',lv,pre,suf,o1,o2,o3,o4,o5,o6,⟨fr,o7,o7'⟩,o8,o9⟩:=h.ok _ _ ho;obtain rfl:b'=b:=by rw[o1]at hb;cases hb;rfl
           obtain⟨q1,q2⟩:=zbl ht;have hcl:cs'.length<=b'.cap*1:=by rw[<- o8,<- zad o5];simp
           have room:n'+(k+1)<=b'.cap - k0->k0<=b'.cap->∀w',(storeCells ⟨b'.blk,b'.off+(k0+n')*1,none⟩ us).run P w=.ok () w' ->
             (Builtin.append_ #[T,T2] ty #[.slice (some ⟨b'.blk,b'.off+k0*b'.sz,none⟩) n' (b'.cap - k0),.string B]).run P w=.ok (.slice (some ⟨b'.blk,b'.off+k0*b'.sz,none⟩) (n'+(k+1)) (b'.cap - k0)) w':=fun hroom _ w' hst=>by
            have ka:(⟨b'.blk,b'.off+k0*b'.sz,none⟩:Addr).add n'=⟨b'.blk,b'.off+(k0+n'),none⟩:=by rw[Addr.add_lit,o2,Nat.mul_one,Nat.add_assoc]
            rw[Nat.mul_one]at hst;simp[Builtin.append_,zaa hu,zaa hu2,zag hi,i1,Builtin.lenOf,hBk,hroom,hfc,ka,hst]
           split
           rotate_left
           ·trivial
           rename_i hty;have hty:=yb0 hty;subst hty;split
           ·rename_i hin;have hin:=ya9 hin;split
            ·rename_i m' hw;obtain⟨b2,w',k1,k2,k3⟩:=zkn (P:=P) h hw u1;obtain rfl:b'=b2:=by rw[o1]at k1;cases k1;rfl
             have hk:k0+n'+(k+1)<=b'.cap:=Nat.le_of_mul_le_mul_right (Nat.le_trans hin hcl) g1;refine⟨e,_,w',Env.le.refl e,by simp only[den,o1,yc5],k3,room (by omega) (by omega) w' k2⟩
            ·trivial
           ·have hold3:k0*1+n'*1<=cs'.length:=q1;have hkcap:k0+n'<=b'.cap:=Nat.le_of_mul_le_mul_right (by rw[Nat.add_mul];exact Nat.le_trans hold3 hcl) g1;have killed:∀t1 o1,(m.kill t).get t1=some o1->m.get t1=some o1/\t1≠t:=fun t1 o1 h1=>by
             rw[Mem.get_kill]at h1;by_cases hq:t1=t
             ·rw[if_pos hq]at h1;cases h1
             ·rw[if_neg hq]at h1;exact⟨h1,hq⟩
            by_cases hroom:n'+(k+1)<=b'.cap - k0
            ·
             have m1:(k0+n')*1=k0*1+n'*1:=Nat.add_mul ..;have m2:(n'+(k+1))*1=n'*1+(k+1)*1:=Nat.add_mul ..;have m3:k0*1+n'*1+(k+1)*1<=b'.cap*1:=by
              rw[<- Nat.add_mul,<- Nat.add_mul];exact yd2 _ (by omega)
             have hL:b'.off+(k0+n')*1+us.length<=(pre++lv++suf).length:=by
              have e1:(pre++lv++suf).length=b'.off+b'.cap*1:=by rw[yc1,ya1,o8,o4]
              rw[e1,u2,m1];omega
             obtain⟨w',r,hh,hwr⟩:=zbs (P:=P) (off:=b'.off+(k0+n')*1) us 0 (pre++lv++suf) w o7 o7' (by omega) u3;have hlv:vs=(lv.drop (k0*1)).take (n'*1):=by
              have:=(zbu o5 ht).2;rw[v1]at this;cases this;rfl
             have hlvl:k0*1+n'*1<=lv.length:=by rw[zad o5];exact hold3
             have hrow:zls (pre++lv++suf) (b'.off+(k0+n')*1+0) us=(pre++lv.take (k0*1))++(vs++us)++(pre++lv++suf).drop (b'.off+(k0+n')*1+us.length):=by
              rw[Nat.add_zero,zmT _ _ _ hL];have e2:(pre++lv++suf).take (b'.off+(k0+n')*1)=pre++lv.take (k0*1)++vs:=by
               rw[<- o4,yc1,List.take_length_add_append,List.take_append_of_le_length (by rw[Nat.add_mul];omega),Nat.add_mul,List.take_add,<- hlv,yc1]
              rw[e2];simp
             obtain⟨f5,f6⟩:=h.fresh hTT (m1:=m.kill t) (fun t1 o1 h1=>(killed t1 o1 h1).1) rfl (b:=⟨b'.blk,b'.off+k0*1,b'.cap - k0,1⟩) (w':=w') (o:=.opn ty' 1 (l'++bs.map fun b=>.int .u8 (.ofNat (b%256))))
              (fun t1 o1' b2 h1 h2=>by
               obtain⟨h3,h4⟩:=killed t1 o1' h1;have:b2.blk≠b'.blk:=fun hq=>h4 (h.inj t1 t _ _ b2 b' h3 ho rfl h2 o1 hq)
               exact⟨this,hwr.block _ this⟩)
              (h.own t _ b' ho rfl o1)
              ⟨hwr.os,hwr.tape,hwr.output,Nat.le_of_eq hwr.size.symm,fun i hi2=>hwr.block i (fun hq=>h.own t _ b' ho rfl o1 (hq ▸ hi2))⟩
              ⟨_,vs++us,pre++lv.take (k0*1),(pre++lv++suf).drop (b'.off+(k0+n')*1+us.length),Env.ext_same ..,rfl,g1,by
               show(pre++lv.take (k0*1)).length=b'.off+k0*1;simp[o4];omega,denL_mono (Env.ext_le hTT.1 _) _ _ hdd,all_append ao an,⟨fr,by rw[<- hrow];exact hh,by rw[<- hrow,zbY];exact o7'⟩,by
               show(vs++us++(pre++lv++suf).drop (b'.off+(k0+n')*1+us.length)).length=(b'.cap - k0)*1;have e1:(pre++lv++suf).length=b'.off+b'.cap*1:=by rw[yc1,ya1,o8,o4]
               rw[ya1,List.length_drop,e1,hlen,u2,Nat.sub_mul,m1,m2];omega,by show b'.cap - k0<=maxLen;omega⟩
             refine⟨_,.slice (some ⟨b'.blk,b'.off+k0*b'.sz,none⟩) (n'+(k+1)) (b'.cap - k0),w',f5,?_,f6,room hroom (by omega) w' (by simpa using r)⟩;show((e.ext TT _) TT).map _=_;rw[Env.ext_same];simp[o2]
            ·obtain⟨v',w',r1,r2,r3⟩:=zh0 (P:=P) (w:=w) T T2 ty ty' inf zv hu hu2 hi hzz i1 g4 ⟨b'.blk,b'.off+k0*b'.sz,none⟩ n' (b'.cap - k0) vs (by simpa using v2) v5 B (by omega) (by omega) (by rw[hBk];exact f4);rw[hBk,husd]at r2;obtain⟨e',q3,q4,q5⟩:=zcL h hTT (m1:=m.kill t) (fun t1 o1 h1=>(killed t1 o1 h1).1) rfl g1 hdd (all_append ao an) (by omega) hlen r2 r3;exact⟨e',v',w',q3,q4,q5,r1⟩
          ·cases hold2
         ·cases hold2
        ·trivial
       ·trivial
     ·trivial
    ·trivial
   ·trivial
  ·trivial
 ·trivial
theorem zhJ{el:TypeId}(hc:P.cellsOf el=1)(count off n:Nat)(hn:off+n<=count):liesAt P P.depth el count off el n=true:=by
 have hd:P.depth=(2*(P.types.size+Made.depth)+1)+1:=rfl;rw[hd];simp only[liesAt,Bool.or_eq_true];left;rw[hd];simp[rowAt,hc,hn,sameLayout,Nat.mod_one]
theorem zeN(pt it ty el:TypeId)(hp:P.underlying pt=some (.pointer el))(hc:P.cellsOf el=1)(g off cells:Nat)(hsh:w.shape? g=some (el,cells))(l:List UInt8)(h0:l≠[])(hn:off+l.length<=cells)(h63:l.length<=9223372036854775807)
  (hcell:∀j x,l[j]? = some x->w.cell? ((⟨g,off,none⟩:Addr).add j)=some (.int .u8 x.toNat)):
  (Builtin.unsafeString_ #[pt,it] ty #[.pointer (some ⟨g,off,none⟩),.int .i64 l.length]).run P w=.ok (.string ⟨l.toArray⟩) (w.freeze ⟨g,off,none⟩ l.length):=by
 have hl:l.length≠0:=by simpa using h0
 have hlb:=Lib.run_loadBytes (P:=P) w l ⟨g,off,none⟩ .empty hcell;have hlies:=zhJ (P:=P) hc (cells / P.cellsOf el) off l.length (by rw[hc];simpa using hn);have h63':¬(9223372036854775807:Int)<(l.length:Int):=by omega
 have hdef:Builtin.unsafeString_ #[pt,it] ty #[.pointer (some ⟨g,off,none⟩),.int .i64 l.length] =
   (do
    let n <- asInt (.int .i64 l.length)
    if n<0 then runtimePanic (.error "unsafe.String: len out of range")
    if n > IntKind.i64.max then unsupported (.unsafePointer "String: a length above the largest int")
    if n=0 then pure (.string .empty)
    else if <- variablesAt ⟨g,off,none⟩ (<- elemOf pt) n.toNat then do
     let s <- loadBytes ⟨g,off,none⟩ .empty n.toNat
     freeze ⟨g,off,none⟩ n.toNat
     pure (.string s)
    else unsupported (.unsafePointer "String: not so many bytes at ptr")):=rfl
 rw[hdef];have hmax:IntKind.i64.max=9223372036854775807:=rfl;have hneg:¬(l.length:Int)<0:=by omega
 simp[asInt,asIntOf,hmax,h63',hneg,hl,variablesAt,hsh,elemOf,zaa hp,hlies,hlb]
theorem zke(h:Rel W0 e m w){x:CV}{X:Value}(hx:den e x=some X)(ts:Array TypeId)(ty:TypeId):VOk P e w (zco m x) (Builtin.unsafeSliceData_ ts ty #[X]):=by
 unfold zco;split
 ·simp only[den,ya0]at hx;subst hx;exact⟨_,rfl,Lib.run_unsafeSliceData_nil (P:=P) w ts ty 0 0⟩
 ·rename_i t off n c;simp only[den,ya3]at hx;obtain⟨b,hb,rfl⟩:=hx;exact⟨.pointer (some ⟨b.blk,b.off+off,none⟩),by simp only[den,hb,yc5],Lib.run_unsafeSliceData_row (P:=P) w ts ty _ _ _ (by omega)⟩
 ·rename_i t n;split
  ·rename_i ty' sz c0 cs0 ho;obtain⟨b,l,pre,suf,h1,h2,h3,h4,h5,h6,h7,h8,h9⟩:=h.ok _ _ ho;simp only[den,h1,yc5,ya0]at hx;subst hx;refine⟨.pointer (some ⟨b.blk,b.off+0,none⟩),by simp only[den,h1,yc5],?_⟩;have hc:b.cap - 0≠0:=by
    intro h0;have hb0:b.cap=0:=by omega
    rw[hb0,Nat.zero_mul,ya1]at h8;have:=zad h5;simp at this;omega
   have:=Lib.run_unsafeSliceData_row (P:=P) w ts ty ⟨b.blk,b.off+0*b.sz,none⟩ (n+1) (b.cap - 0) hc;simpa using this
  ·trivial
 ·trivial
end Go.Cx
