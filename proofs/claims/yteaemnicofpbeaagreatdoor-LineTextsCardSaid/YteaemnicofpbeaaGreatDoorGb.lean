import Derived.Test.YteaemnicofpbeaaGreatDoorGa
import Derived.DeepKeys3
import Derived.Laws.BytesString
import Derived.Lib.UnsafeStr
import Derived.Laws.MakeOwn
import Derived.Lib.Builder
set_option linter.unusedSimpArgs false
set_option linter.unusedVariables false
namespace Go.Cx
open Go Go.RowKit
open Go.Lib (run_unsafeString_row)
variable{e:Env}{P:Program}{w:World}{m:Mem}{W0:Bas}
theorem zr5{z:List CV}(h:z.all one=true):∀n,(rep z n).all one=true
 |0=>rfl
 |n+1=>all_append h (zr5 h n)
theorem zkA(h:Rel W0 e m w){T:Nat}(hT:e T=none/\¬W0.Z T){l c:CV}{L C:Value}(hl:den e l=some L)(hc:den e c=some C)(t:TypeId):EOk W0 P e m w (zan P T m t l c) (Instr.makeSlice t L C):=by
 unfold zan;split
 ·rename_i elem l c hu;obtain rfl:=zaT hl;obtain rfl:=zaT hc;split
  ·rename_i i z hi hz;obtain⟨iz,zv,hiz,hzz,hzd⟩:=zcq hz;obtain rfl:i=iz:=by rw[hi]at hiz;cases hiz;rfl
   split
   ·rename_i hcond;simp only[ya2]at hcond;have g1:0<i.size:=by simpa[Nat.blt_eq]using hcond.1
    have g2:l<=c:=ya9 hcond.2.1;have g3:c<=100000:=ya9 hcond.2.2.1;have g5:c*i.bytes<=1000000000:=ya9 hcond.2.2.2.1;have g4:z.length=i.size:=yb0 hcond.2.2.2.2.1;have g6:z.all one=true:=hcond.2.2.2.2.2;have g7:zv.cells.size=i.size:=by rw[<- g4,<- zad (hzd e)];simp
    have hrow:=zjZ (hzd e) c;obtain⟨h1,h2⟩:=h.alloc hT (o:=.cells elem (rep z c)) (x:=.cells (zpQ zv.cells.toList c).toArray elem (0,0)) ⟨w.heap.size,0,0,0⟩ rfl
     ⟨_,_,Env.ext_same ..,rfl,denL_mono (Env.ext_le hT.1 _) _ _ hrow,zr5 g6 c,by rw[zbg,if_pos rfl]⟩
    refine⟨_,.slice (some ⟨w.heap.size,0,none⟩) l c,_,h1,?_,h2,?_⟩
    ·show((e.ext T _) T).map _=_;rw[Env.ext_same];rfl
    ·have hr:=zhH zv.cells c (by omega);have h3:i.bytes*c<=1000000000:=by rw[Nat.mul_comm];exact g5
     have h4:((i.bytes:Int)*(c:Int))<=1000000000:=by
      have h:=Int.ofNat_le.2 h3;rw[Int.natCast_mul]at h;exact h
     have hmk:=run_make (P:=P) w t elem i zv hu hi hzz .i64 .i64 (l:Int) (c:Int) (by omega) (by omega) (by omega) (by omega);have hm2:madeCells zv.cells (c*i.size)=(zpQ zv.cells.toList c).toArray:=by
      unfold madeCells;rw[<- g7];exact hr
     simp only[Int.toNat_natCast,hm2]at hmk;exact hmk
   ·trivial
  ·trivial
 ·trivial
theorem zv9(hm:Mok e m w){sz n:Nat}{x:CV}{l:List CV}{V:Value}(h:zxs m sz x=some (n,l))(hx:den e x=some V):
  ∃us,denL e l=some us/\us.length=n*sz/\(Builtin.lenOf V).run P w=.ok n w/\∀k,k<=n->(Builtin.firstCells sz k V).run P w=.ok (us.take (k*sz)).toArray w:=by
 unfold zxs at h;split at h
 ·rename_i s;split at h
  ·rename_i hs1;have hs1:=yb0 hs1;subst hs1;simp only[ya0,yc4]at h;obtain⟨rfl,rfl⟩:=h;obtain rfl:=zbP hx;refine⟨_,zfl e s,by simp,?_,fun k hk=>?_⟩
   ·have:=zfr s;simp[Builtin.lenOf,this]
   ·simp[Builtin.firstCells,List.map_take]
  ·cases h
 ·obtain⟨us,u1,u2,u3,u4⟩:=zdh hm h hx;refine⟨us,u1,u2,?_,fun k hk=>?_⟩
  ·rcases u4 with⟨_,rfl,rfl⟩ |⟨ad,c,rfl,_⟩<;>simp[Builtin.lenOf]
  ·rcases u4 with⟨_,rfl,h0⟩ |⟨ad,c,rfl,hc⟩
   ·have:us=[]:=List.eq_nil_of_length_eq_zero (by rw[u2,h0];simp);simp[Builtin.firstCells,this]
   ·have hl:(us.take (k*sz)).length=k*sz:=by
     rw[List.length_take,u2];exact Nat.min_eq_left (yd2 _ hk)
    exact zfa sz k ad n c _ hl (fun j u hj=>hc j u (by
     rw[List.getElem?_take]at hj;split at hj
     ·exact hj
     ·cases hj))
theorem ztD(h:Rel W0 e m w){d s:CV}{D S:Value}(hd:den e d=some D)(hs:den e s=some S)(T T2 ty:TypeId):
  EOk W0 P e m w (zro P m T T2 d s) (Builtin.copy_ #[T,T2] ty #[D,S]):=by
 unfold zro;split
 ·rename_i elem hu;split
  ·rename_i inf hi;split
   ·rename_i ns src nd dl hsrc hdst;obtain⟨us,u1,u2,hlen,hfirst⟩:=zv9 (P:=P) h.ok hsrc hs;have stored:∀(b:Blk) (off c:Nat) (m':Mem) (w':World),D=.slice (some ⟨b.blk,b.off+off,none⟩) nd c->(storeCells ⟨b.blk,b.off+off,none⟩ (us.take ((min ns nd)*inf.size))).run P w=.ok () w' ->
      (Builtin.copy_ #[T,T2] ty #[D,S]).run P w=.ok (.int .i64 ((min ns nd:Nat):Int)) w':=fun b off c m' w' hD hst=>by
     subst hD;have hf:=hfirst (min ns nd) (Nat.min_le_left ..);have hf':(Builtin.firstCells inf.size (Nat.min ns nd) S).run P w=.ok (us.take ((Nat.min ns nd)*inf.size)).toArray w:=hf;have hst':(storeCells ⟨b.blk,b.off+off,none⟩ (us.take ((Nat.min ns nd)*inf.size))).run P w=.ok () w':=hst;simp[Builtin.copy_,zaa hu,zag hi,hlen,hf',hst',goInt]
    split
    ·simp only[den,ya0]at hd;subst hd;have hf':=hfirst 0 (Nat.zero_le _);exact⟨_,rfl,by simp[Builtin.copy_,zaa hu,zag hi,hlen,hf',goInt]⟩
    ·rename_i t off n c;split
     ·rename_i m' hw;obtain⟨b,w',k1,k2,k3⟩:=zkn (P:=P) h hw (zfe _ u1);have hn:n=nd:=by
       unfold elems at hdst;simp only at hdst;split at hdst
       ·split at hdst
        ·simp only[ya0,yc4]at hdst;exact hdst.1
        ·cases hdst
       ·split at hdst
        ·simp only[ya0,yc4]at hdst;exact hdst.1
        ·cases hdst
       ·split at hdst
        ·simp only[ya0,yc4]at hdst;exact hdst.1
        ·cases hdst
       ·cases hdst
      simp only[den,k1,yc5,ya0]at hd;exact⟨e,_,w',Env.le.refl e,rfl,k3,stored b off c m' w' (by rw[<- hd,hn]) k2⟩
     ·trivial
    ·rename_i t k n;split
     ·rename_i m' hw;obtain⟨b,w',k1,k2,k3⟩:=zkn (P:=P) h hw (zfe _ u1);have hn:n=nd/\b.sz=inf.size:=by
       unfold elems at hdst;simp only at hdst;split at hdst
       ·rename_i ty' sz' cs' ho;split at hdst
        ·rename_i hq;split at hdst
         ·simp only[ya0,yc4]at hdst;obtain⟨b',_,_,_,o1,o2,_⟩:=h.ok _ _ ho;obtain rfl:b=b':=by rw[k1]at o1;cases o1;rfl
          exact⟨hdst.1,by rw[o2,yb0 hq]⟩
         ·cases hdst
        ·cases hdst
       ·cases hdst
      simp only[den,k1,yc5,ya0]at hd;exact⟨e,_,w',Env.le.refl e,rfl,k3,stored b (k*inf.size) (b.cap - k) m' w' (by rw[<- hd,hn.1,hn.2]) k2⟩
     ·trivial
    ·trivial
   ·trivial
  ·trivial
 ·trivial
theorem zqV{m:Mem}{sz n:Nat}{x:CV}{l:List CV}(h:elems m sz x=some (n,l)):(∀t off k c,x=.slc t off k c->k=n)/\(∀t j k,x=.opn t j k->k=n/\∃ty cs,m.get t=some (.opn ty sz cs)):=by
 unfold elems at h;split at h
 ·exact⟨fun _ _ _ _ e=>(by cases e),fun _ _ _ e=>(by cases e)⟩
 ·refine⟨fun t off k c e=>?_,fun _ _ _ e=>(by cases e)⟩;cases e;split at h<;>first |(split at h<;>first |(simp only[ya0,yc4]at h;exact h.1) |cases h) |cases h
 ·refine⟨fun _ _ _ _ e=>(by cases e),fun t j k e=>?_⟩;cases e;split at h
  ·rename_i ty sz' cs ho;split at h
   ·rename_i hq;obtain rfl:=yb0 hq;split at h
    ·simp only[ya0,yc4]at h;exact⟨h.1,_,_,ho⟩
    ·cases h
   ·cases h
  ·cases h
 ·exact⟨fun _ _ _ _ e=>(by cases e),fun _ _ _ e=>(by cases e)⟩
 ·exact⟨fun _ _ _ _ e=>(by cases e),fun _ _ _ e=>(by cases e)⟩
 ·cases h
theorem zsa(h:Rel W0 e m w){x:CV}{X:Value}(hx:den e x=some X)(T ty:TypeId):EOk W0 P e m w (zqm P m T x) (Builtin.clear_ #[T] ty #[X]):=by
 unfold zqm;split
 ·rename_i elem hu;split
  ·rename_i inf z hi hz;obtain⟨iz,zv,hiz,hzz,hzd⟩:=zcq hz;obtain rfl:inf=iz:=by rw[hi]at hiz;cases hiz;rfl
   split
   ·rename_i hcond;simp only[ya2]at hcond;have g1:0<inf.size:=by simpa[Nat.blt_eq]using hcond.1
    have g4:z.length=inf.size:=yb0 hcond.2;have g7:zv.cells.size=inf.size:=by rw[<- g4,<- zad (hzd e)];simp
    split
    ·rename_i n l hel;have hl:=zqV hel;split
     ·
      obtain⟨us,k1,k2,k3,k4⟩:=zdh h.ok hel hx;rcases k4 with⟨rfl,rfl,_⟩ |⟨ad,c,rfl,_⟩
      ·exact⟨_,rfl,by simp[Builtin.clear_,zaa hu]⟩
      ·exact⟨_,rfl,by simp[Builtin.clear_,zaa hu]⟩
     ·rename_i n;have hz2:Builtin.zeroCells zv.cells (n+1)=(zpQ zv.cells.toList (n+1)).toArray:=by
       unfold Builtin.zeroCells;exact zhH zv.cells (n+1) (by omega)
      have hrow:=zjZ (hzd e) (n+1);have fin:∀(b:Blk) (off c:Nat) (w':World),X=.slice (some ⟨b.blk,b.off+off,none⟩) (n+1) c->(storeCells ⟨b.blk,b.off+off,none⟩ (zpQ zv.cells.toList (n+1))).run P w=.ok () w' ->
        (Builtin.clear_ #[T] ty #[X]).run P w=.ok (.tuple #[]) w':=by
       intro b off c w' hX hst;subst hX;simp[Builtin.clear_,zaa hu,zcO hi hzz w,hz2,hst]
      split
      ·rename_i t off k c;obtain rfl:=hl.1 t off k c rfl;split
       ·rename_i m' hw;obtain⟨b,w',k1,k2,k3⟩:=zkn (P:=P) h hw hrow;simp only[den,k1,yc5,ya0]at hx;exact⟨e,_,w',Env.le.refl e,rfl,k3,fin b off c w' hx.symm k2⟩
       ·trivial
      ·rename_i t j k;obtain⟨rfl,ty',cs',ho⟩:=hl.2 t j k rfl;split
       ·rename_i m' hw;obtain⟨b,w',k1,k2,k3⟩:=zkn (P:=P) h hw hrow;obtain⟨b',_,_,_,o1,o2,_⟩:=h.ok _ _ ho;obtain rfl:b=b':=by rw[k1]at o1;cases o1;rfl
        simp only[den,k1,yc5,ya0]at hx;exact⟨e,_,w',Env.le.refl e,rfl,k3,fin b (j*inf.size) (b.cap - j) w' (by rw[<- hx,o2]) k2⟩
       ·trivial
      ·trivial
    ·trivial
   ·trivial
  ·trivial
 ·trivial
theorem zc6{b:Nat}{es:Array MapEntry}{c:Nat}(h:w.heap[b]? = some (.map es c))(o:Obj):(setObj b o).run P w=.ok () { w with heap:=w.heap.setIfInBounds b o }:=by simp[setObj,Sem.run,h]
theorem zfH{t:TypeId}(h:zvS P t=true):(∃k,P.underlying t=some (.int k))\/P.underlying t=some .string\/P.underlying t=some .bool:=by
 unfold zvS at h;split at h
 ·exact .inl ⟨_,by assumption⟩
 ·exact .inr (.inl (by assumption))
 ·exact .inr (.inr (by assumption))
 ·cases h
theorem zd3{t:TypeId}(h:zcz P t=true):P.keyTypeAt 6 t=true/\P.tiled 6 t=true/\(match P.underlying t with |some (.array _ _) |some (.struct _)=>true |_=>false)=true:=by
 unfold zcz at h;split at h
 ·rename_i hu;simp only[ya2]at h;exact⟨h.1,h.2,by rw[hu]⟩
 ·rename_i hu;simp only[ya2]at h;exact⟨h.1,h.2,by rw[hu]⟩
 ·cases h
theorem zgY{e:Env}:∀{cs:List CV} {vs:List Value},zin cs=some vs->denL e cs=some vs/\∀v∈vs,∀m,Instr.sameBits m v v=true
 |[],vs,h=>by simp only[zin,ya0]at h;subst h;exact⟨rfl,by simp⟩
 |.bool b::r,vs,h=>by
  simp only[zin]at h;split at h
  ·rename_i l hl;simp only[ya0]at h;subst h;obtain⟨h1,h3⟩:=zgY (e:=e) hl;refine⟨zar rfl h1,fun v hv m=>?_⟩;rcases List.mem_cons.1 hv with rfl |hv
   ·cases m<;>simp[Instr.sameBits]
   ·exact h3 v hv m
  ·cases h
 |.int k n::r,vs,h=>by
  simp only[zin]at h;split at h
  ·rename_i l hl;simp only[ya0]at h;subst h;obtain⟨h1,h3⟩:=zgY (e:=e) hl;refine⟨zar rfl h1,fun v hv m=>?_⟩;rcases List.mem_cons.1 hv with rfl |hv
   ·cases m<;>simp[Instr.sameBits]
   ·exact h3 v hv m
  ·cases h
theorem zfg{c:CV}{r:List CV}{vs:List Value}(h:zin (c::r)=some vs):∃v l,zin r=some l/\vs=v::l/\((∃b,c=.bool b/\v=.bool b)\/∃k n,c=.int k n/\v=.int k n):=by
 cases c<;>simp only[zin]at h<;>(try cases h;done)
 ·split at h
  ·rename_i l hl;simp only[ya0]at h;subst h;exact⟨_,l,hl,rfl,.inl ⟨_,rfl,rfl⟩⟩
  ·cases h
 ·split at h
  ·rename_i l hl;simp only[ya0]at h;subst h;exact⟨_,l,hl,rfl,.inr ⟨_,_,rfl,rfl⟩⟩
  ·cases h
theorem zrJ(b:Bool):cvEq (.bool b) (.bool b)=true:=by cases b<;>rfl
theorem ztx(k:IntKind)(n:Int):cvEq (.int k n) (.int k n)=true:=by
 have hk:kEq k k=true:=by cases k<;>rfl
 have hn:ieq n n=true:=by rw[zb9];simp
 simp only[cvEq,hk,hn,Bool.and_self]
theorem zrn:∀{cs ds:List CV} {vs:List Value},zin cs=some vs->zin ds=some vs->cvEqL cs ds=true
 |[],[],vs,_,_=>rfl
 |[],d::ds,vs,h1,h2=>by
  simp only[zin,ya0]at h1;subst h1;obtain⟨v,l,_,h,_⟩:=zfg h2;cases h
 |c::r,[],vs,h1,h2=>by
  simp only[zin,ya0]at h2;subst h2;obtain⟨v,l,_,h,_⟩:=zfg h1;cases h
 |c::r,d::ds,vs,h1,h2=>by
  obtain⟨v,l,hl,rfl,hc⟩:=zfg h1;obtain⟨v',l',hl',hv,hd⟩:=zfg h2;obtain⟨rfl,rfl⟩:=List.cons.inj hv;have ih:=zrn hl hl';rcases hc with⟨b,rfl,rfl⟩ |⟨k,n,rfl,rfl⟩<;>rcases hd with⟨b',rfl,hd⟩ |⟨k',n',rfl,hd⟩
  ·cases hd;simp only[cvEqL,zrJ,ih,Bool.and_self]
  ·cases hd
  ·cases hd
  ·cases hd;simp only[cvEqL,ztx,ih,Bool.and_self]
theorem zld:∀{cs ds:List CV} {vs us:List Value},zin cs=some vs->zin ds=some us->cvEqL cs ds=true->vs=us:=by
 intro cs ds vs us h1 h2 h;have key:∀{a b:List CV},cvEqL a b=true->zin a=zin b:=by
  intro a
  induction a with
  |nil=>intro b h;cases b with |nil=>rfl |cons _ _=>simp[cvEqL]at h
  |cons x a ih=>
   intro b h;cases b with
   |nil=>simp[cvEqL]at h
   |cons y b=>
    simp only[cvEqL,ya2]at h;have ht:=ih h.2;cases x<;>cases y<;>first
     |(simp[cvEq]at h;done)
     |(simp only[zin];done)
     |skip
    ·rename_i p q;have:p=q:=by have:=h.1;cases p<;>cases q<;>simp_all [cvEq]
     subst this;simp only[zin,ht]
    ·rename_i k n k' n';have h1:=h.1;simp only[cvEq,ya2]at h1;obtain rfl:=za8 h1.1;have h2:=h1.2;rw[zb9]at h2;obtain rfl:=eq_of_beq h2;simp only[zin,ht]
 rw[key h,h2]at h1;exact(Option.some.inj h1).symm
theorem zhO{t:TypeId}{x:CV}{X:Value}(hw:zcz P t=true)(h:zsC P t x=true)(hx:den e x=some X):∃cs vs L,x=.agg cs/\zin cs=some vs/\X=.agg vs.toArray/\P.keyLits 8 t vs=some L/\X.formed P t=true:=by
 unfold zsC at h;split at h
 ·rename_i cs;split at h
  ·rename_i vs hv;obtain⟨L,hL⟩:=Option.isSome_iff_exists.1 h;obtain⟨l,hl,rfl⟩:=zdM hx;rw[(zgY hv).1]at hl;cases hl;refine⟨cs,vs,L,rfl,hv,rfl,hL,?_⟩;obtain⟨_,_,h3⟩:=zd3 hw;have hlen:vs.length=P.cellsOf t:=by
    unfold Program.keyLits at hL;cases hu:P.underlying t with
    |none=>rw[hu]at h3;cases h3
    |some d=>
     rw[hu]at h3;cases d<;>simp at h3
     ·simp only[hu]at hL;split at hL
      ·assumption
      ·cases hL
     ·simp only[hu]at hL;split at hL
      ·rename_i hq;exact hq.1
      ·cases hL
   cases hu:P.underlying t with
   |none=>rw[hu]at h3;cases h3
   |some d=>
    rw[hu]at h3;cases d<;>simp at h3<;>simp[Value.formed,hu,hlen]
  ·cases h
 ·cases h
theorem zet{t:TypeId}{k:CV}{K:Value}(h:zkL P t k=true)(hK:den e k=some K)(b:Bool)(w:World):(Instr.checkKey b 10000 t K).run P w=.ok () w:=by
 unfold zkL at h;cases hw:zcz P t with
 |true=>
  rw[hw]at h;obtain⟨cs,vs,L,rfl,hv,rfl,hL,hf⟩:=zhO hw h hK;obtain⟨h1,_,_⟩:=zd3 hw;exact run_checkKey_deep b 9994 6 t h1 w 8 _ L hf (by simpa[Value.cells]using hL)
 |false=>
  rw[hw]at h;rw[show(10000:Nat)=9999+1 from rfl,Instr.checkKey];rcases zfH h with⟨k,hu⟩ |hu |hu<;>simp[zaa hu]
theorem zoj{kt:TypeId}(h:zvS P kt=true){x y:CV}{X Y:Value}(hx:den e x=some X)(hy:den e y=some Y){b:Bool}(hc:ceq P 40 kt x y=some b):
  ∃d,P.underlying kt=some d/\Instr.sameNow d X Y=some b/\(b=true->Instr.sameBits 10000 Y X=true):=by
 have hc':(match P.underlying kt with
   |some (.int _)=>zl2
   |some .string=>zlv
   |some .bool=>zh8
   |some (.pointer el)=>zlC P el
   |some (.interface _)=>zrD P (ceq P 39)
   |some (.slice _)=>zr7
   |some (.func _ _ _)=>zwT
   |some (.map _ _)=>ztb
   |some (.struct fs)=>zfj P (ceq P 39) kt fs.toList
   |some (.array n el)=>ztM P (ceq P 39) el n
   |_=>fun _ _=>none) x y=some b:=hc
 rcases zfH h with⟨k,hu⟩ |hu |hu
 ·rw[hu]at hc';refine⟨_,hu,?_⟩
  change zl2 x y=some b at hc'
  unfold zl2 at hc';split at hc'
  ·split at hc'
   ·rename_i hk;obtain rfl:=za8 hk;obtain rfl:=zaT hx;obtain rfl:=zaT hy;simp only[ya0]at hc';subst hc';rw[zb9];refine⟨by simp[Instr.sameNow],fun hb=>?_⟩;simp at hb;simp[Instr.sameBits,hb]
   ·cases hc'
  ·cases hc'
 ·rw[hu]at hc';refine⟨_,hu,?_⟩
  change zlv x y=some b at hc'
  unfold zlv at hc';split at hc'
  ·rename_i sa sb;obtain rfl:=zbP hx;obtain rfl:=zbP hy;simp only[ya0]at hc';subst hc';rw[zhc];have hq:((⟨(sa.map UInt8.ofNat).toArray⟩:ByteArray) == ⟨(sb.map UInt8.ofNat).toArray⟩)=(sa.map UInt8.ofNat==sb.map UInt8.ofNat):=by
    show((sa.map UInt8.ofNat).toArray==(sb.map UInt8.ofNat).toArray)=_;simp
   refine⟨by simp only[Instr.sameNow,hq],fun hb=>?_⟩;have hb':=eq_of_beq hb;rw[hb'];show((sb.map UInt8.ofNat).toArray==(sb.map UInt8.ofNat).toArray)=true;simp
  ·cases hc'
 ·rw[hu]at hc';refine⟨_,hu,?_⟩
  change zh8 x y=some b at hc'
  unfold zh8 at hc';split at hc'
  ·rename_i a c;obtain rfl:=zbv hx;obtain rfl:=zbv hy;simp only[ya0]at hc';subst hc';refine⟨by cases a<;>cases c<;>rfl,fun hb=>?_⟩;cases a<;>cases c<;>simp_all [Instr.sameBits]
  ·cases hc'
theorem zoF{kt:TypeId}(hk:zvS P kt=true)(hw:zcz P kt=false){k:CV}{K:Value}(hK:den e k=some K){d:TypeDesc}(hd:P.underlying kt=some d):∀{es:List (CV×CV×Nat)} {ms:List MapEntry},EntsOk e es ms->∀(i:Nat) (r:Option (Nat×CV×Nat)),zeY P kt k es i=some r ->
  match r with
  |none=>Instr.findNow d K ms i=some none
  |some (j,v,s)=>∃V K0 a,den e v=some V/\den e a=some K0/\i<=j/\Instr.findNow d K ms i=some (some (j,V))/\ms[j - i]? = some { key:=K0,val:=V,born:=s }/\es[j - i]? = some (a,v,s)/\Instr.sameBits 10000 K0 K=true
 |[],_,.nil,i,r,h=>by
  simp only[zeY,ya0]at h;subst h;rfl
 |(a,b,s)::es,_,.cons (k:=A) (v:=B) (ms:=ms) ha hb he,i,r,h=>by
  have hcK:zuA P kt k a=ceq P 40 kt k a:=by unfold zuA;rw[hw]
  unfold zeY at h;rw[hcK]at h;split at h
  ·rename_i hc;obtain⟨d',h1,h2,h3⟩:=zoj hk hK ha hc;obtain rfl:d=d':=by rw[hd]at h1;cases h1;rfl
   simp only[ya0]at h;subst h;exact⟨B,A,a,hb,ha,Nat.le_refl _,by simp[Instr.findNow,h2],by simp,by simp,h3 rfl⟩
  ·rename_i hc;obtain⟨d',h1,h2,h3⟩:=zoj hk hK ha hc;obtain rfl:d=d':=by rw[hd]at h1;cases h1;rfl
   have:=zoF hk hw hK hd he (i+1) r h;cases r with
   |none=>simpa[Instr.findNow,h2]using this
   |some q=>
    obtain⟨j,v,s'⟩:=q;obtain⟨V,K0,a0,q1,q2,q3,q4,q5,q6,q7⟩:=this;refine⟨V,K0,a0,q1,q2,by omega,by simpa[Instr.findNow,h2]using q4,?_,?_,q7⟩
    ·rw[show j - i=(j - (i+1))+1 by omega];simpa using q5
    ·rw[show j - i=(j - (i+1))+1 by omega];simpa using q6
  ·cases h
theorem zl5{kt:TypeId}(hw:zcz P kt=true){k:CV}{K:Value}(hk:zsC P kt k=true)(hK:den e k=some K)(w:World):∀{es:List (CV×CV×Nat)} {ms:List MapEntry},EntsOk e es ms->∀(i:Nat) (r:Option (Nat×CV×Nat)),zeY P kt k es i=some r ->
  match r with
  |none=>(Instr.findAsking kt K ms i).run P w=.ok none w
  |some (j,v,s)=>∃V K0 a,den e v=some V/\den e a=some K0/\i<=j/\(Instr.findAsking kt K ms i).run P w=.ok (some (j,V)) w/\ms[j - i]? = some { key:=K0,val:=V,born:=s }/\es[j - i]? = some (a,v,s)/\Instr.sameBits 10000 K0 K=true
 |[],_,.nil,i,r,h=>by
  simp only[zeY,ya0]at h;subst h;simp[Instr.findAsking]
 |(a,b,s)::es,_,.cons (k:=A) (v:=B) (ms:=ms) ha hb he,i,r,h=>by
  obtain⟨kt6,ktt,ktw⟩:=zd3 hw;have hcK:zuA P kt k a=(match zsC P kt a with |true=>some (cvEq k a) |false=>none):=by unfold zuA;simp only[hw];cases zsC P kt a<;>rfl
  unfold zeY at h;rw[hcK]at h;cases hla:zsC P kt a with
  |false=>rw[hla]at h;cases h
  |true=>
   rw[hla]at h;obtain⟨cs,vs,L,rfl,hv,rfl,hL,hf⟩:=zhO hw hk hK;obtain⟨cs2,vs2,L2,rfl,hv2,rfl,hL2,hf2⟩:=zhO hw hla ha;obtain⟨q,hq,hiff⟩:=run_equalIn_deep 9994 6 kt kt6 w 8 8 _ _ L L2 hf hf2 (by simpa[Value.cells]using hL) (by simpa[Value.cells]using hL2);have hq':(Op.equal kt (.agg vs.toArray) (.agg vs2.toArray)).run P w=.ok q w:=hq;have c1:=cells_of_lits 6 kt ktt _ _ _ hL;have c2:=cells_of_lits 6 kt ktt _ _ _ hL2;have heq:q=cvEq (.agg cs) (.agg cs2):=by
    rw[Bool.eq_iff_iff,hiff];constructor
    ·intro hLL;subst hLL;rw[c1]at hv;rw[c2]at hv2;exact zrn hv hv2
    ·intro hc;have hvv:=zld hv hv2 hc;subst hvv;rw[hL]at hL2;exact Option.some.inj hL2
   cases hcv:cvEq (.agg cs) (.agg cs2) with
   |true=>
    rw[hcv]at h heq;subst heq;simp only[ya0]at h;subst h;refine⟨B,_,.agg cs2,hb,ha,Nat.le_refl _,by simp[Instr.findAsking,hq'],by simp,by simp,?_⟩;have hvv:=zld hv hv2 hcv;subst hvv;have h3:=(zgY (e:=e) hv).2;simp only[Instr.sameBits,beq_self_eq_true,Bool.true_and,List.all_eq_true];intro p hp;obtain⟨i,hi,hp⟩:=List.mem_iff_getElem.1 hp;simp only[List.getElem_zip]at hp;subst hp;exact h3 _ (by simp) _
   |false=>
    rw[hcv]at h heq;subst heq;have:=zl5 hw hk hK w he (i+1) r h;cases r with
    |none=>simpa[Instr.findAsking,hq']using this
    |some q=>
     obtain⟨j,v,s'⟩:=q;obtain⟨V,K0,a0,q1,q2,q3,q4,q5,q6,q7⟩:=this;refine⟨V,K0,a0,q1,q2,by omega,by simpa[Instr.findAsking,hq']using q4,?_,?_,q7⟩
     ·rw[show j - i=(j - (i+1))+1 by omega];simpa using q5
     ·rw[show j - i=(j - (i+1))+1 by omega];simpa using q6
theorem zfO{kt:TypeId}{k:CV}(hk:zkL P kt k=true){K:Value}(hK:den e k=some K)(w:World){es:List (CV×CV×Nat)}{ms:List MapEntry}(he:EntsOk e es ms)(r:Option (Nat×CV×Nat))(h:zeY P kt k es 0=some r):
  match r with
  |none=>(Instr.findKey kt K ms).run P w=.ok none w
  |some (j,v,s)=>∃V K0 a,den e v=some V/\den e a=some K0/\(Instr.findKey kt K ms).run P w=.ok (some (j,V)) w/\ms[j]? = some { key:=K0,val:=V,born:=s }/\es[j]? = some (a,v,s)/\Instr.sameBits 10000 K0 K=true:=by
 unfold zkL at hk;cases hw:zcz P kt with
 |true=>
  rw[hw]at hk;obtain⟨_,_,h3⟩:=zd3 hw;obtain⟨d,hd⟩:∃d,P.underlying kt=some d:=by
   cases hu:P.underlying kt with
   |none=>rw[hu]at h3;cases h3
   |some d=>exact⟨d,rfl⟩
  have hrun:(Instr.findKey kt K ms).run P w=(Instr.findAsking kt K ms 0).run P w:=by
   cases he with
   |nil=>simp[Instr.findKey,zaa hd,Instr.findNow,Instr.findAsking]
   |cons ha hb he=>
    have hs:∀Y,Instr.sameNow d K Y=none:=fun Y=>by
     rw[hd]at h3;cases d<;>simp at h3<;>rfl
    simp[Instr.findKey,zaa hd,Instr.findNow,hs]
  have:=zl5 hw hk hK w he 0 r h;cases r with
  |none=>rw[hrun];exact this
  |some q=>
   obtain⟨j,v,s'⟩:=q;obtain⟨V,K0,a0,q1,q2,_,q4,q5,q6,q7⟩:=this;exact⟨V,K0,a0,q1,q2,by rw[hrun];exact q4,q5,q6,q7⟩
 |false=>
  rw[hw]at hk;obtain⟨d,hd⟩:∃d,P.underlying kt=some d:=by
   rcases zfH hk with⟨k,hu⟩ |hu |hu<;>exact⟨_,hu⟩
  have:=zoF hk hw hK hd he 0 r h;cases r with
  |none=>simp only at this;simp[Instr.findKey,zaa hd,this]
  |some q=>
   obtain⟨j,v,s'⟩:=q;obtain⟨V,K0,a0,q1,q2,_,q4,q5,q6,q7⟩:=this;exact⟨V,K0,a0,q1,q2,by simp[Instr.findKey,zaa hd,q4],q5,q6,q7⟩
theorem zpr(hm:Mok e m w){x k:CV}{X K:Value}(hx:den e x=some X)(hk:den e k=some K)(t:TypeId)(ok:Bool):VOk P e w (zbC P m t x k ok) (Instr.lookup t X K ok):=by
 unfold zbC;split
 ·rename_i kt et hu;split
  ·rename_i z hko hz;obtain⟨i,zv,hi,hzz,hzd⟩:=zd4 hz;split
   ·rename_i es hes;have hms:∃ms clock,EntsOk e es ms/\((X=.map none/\ms=[])\/∃b,X=.map (some b)/\w.heap[b]? = some (.map ms.toArray clock)):=by
     unfold zm0 at hes;split at hes
     ·simp only[ya0]at hes;subst hes;simp only[den,ya0]at hx;exact⟨[],0,.nil,.inl ⟨hx.symm,rfl⟩⟩
     ·split at hes
      ·rename_i ho;simp only[ya0]at hes;subst hes;obtain⟨b,ms,h1,h2,h3⟩:=hm _ _ ho;simp only[den,h1,yc5,ya0]at hx;exact⟨ms,_,h2,.inr ⟨b.blk,hx.symm,h3⟩⟩
      ·cases hes
     ·cases hes
    obtain⟨ms,clock,he,hX⟩:=hms;have hrun:∀(r:Option (Nat×Value)),(Instr.findKey kt K ms).run P w=.ok r w->(Instr.lookup t X K ok).run P w=.ok (match r with
      |some (_,v)=>if ok then .tuple #[v,.bool true]else v
      |none=>if ok then .tuple #[zv,.bool false]else zv) w:=fun r e1=>by
     have e2:=zcO hi hzz w;have e3:=fun b=>zet hko hk b w
     rcases hX with⟨rfl,rfl⟩ |⟨b,rfl,hh⟩
     ·cases r with
      |none=>simp[Instr.lookup,zaa hu,e3,e1,e2]
      |some q=>simp[Instr.lookup,zaa hu,e3,e1]
     ·cases r with
      |none=>simp[Instr.lookup,zaa hu,e3,e1,e2,zbH hh]
      |some q=>simp[Instr.lookup,zaa hu,e3,e1,zbH hh]
    split
    ·rename_i j v s hf;obtain⟨V,K0,a,h1,_,h4,_⟩:=zfO hko hk w he _ hf;refine⟨if ok then .tuple #[V,.bool true]else V,?_,hrun _ h4⟩;cases ok<;>simp[den,denL,h1]
    ·rename_i hf;refine⟨if ok then .tuple #[zv,.bool false]else zv,?_,hrun _ (zfO hko hk w he _ hf)⟩;cases ok<;>simp[den,denL,hzd e]
    ·trivial
   ·trivial
  ·trivial
 ·trivial
theorem EntsOk.set{es:List (CV×CV×Nat)}{ms:List MapEntry}(h:EntsOk e es ms):∀(i:Nat) {k v:CV} {s:Nat} {K V:Value},den e k=some K->den e v=some V->EntsOk e (es.set i (k,v,s)) (ms.set i { key:=K,val:=V,born:=s }):=by
 induction h with
 |nil=>intro i k v s K V _ _;exact .nil
 |cons h1 h2 h3 ih=>
  intro i k v s K V hk hv;cases i with
  |zero=>exact .cons hk hv h3
  |succ i=>exact .cons h1 h2 (ih i hk hv)
theorem EntsOk.snoc{es:List (CV×CV×Nat)}{ms:List MapEntry}(h:EntsOk e es ms){k v:CV}{s:Nat}{K V:Value}(hk:den e k=some K)(hv:den e v=some V):EntsOk e (es++[(k,v,s)]) (ms++[{ key:=K,val:=V,born:=s }]):=by
 induction h with
 |nil=>exact .cons hk hv .nil
 |cons h1 h2 _ ih=>exact .cons h1 h2 ih
theorem Rel.setMap(h:Rel W0 e m w){T:Nat}{es es':List (CV×CV×Nat)}{c c':Nat}(ho:m.get T=some (.map es c)){b:Blk}(hb:e T=some b){ms:List MapEntry}(he:EntsOk e es' ms):
  Rel W0 e (m.put T (.map es' c')) { w with heap:=w.heap.setIfInBounds b.blk (.map ms.toArray c') }:=by
 obtain⟨b',_,h1,_,h3⟩:=h.ok _ _ ho;obtain rfl:b=b':=by rw[hb]at h1;cases h1;rfl
 have hlt:=zcH h3;refine h.put ho rfl rfl hb (fun k hk=>?_) (by simp) rfl rfl rfl ⟨b,ms,hb,he,?_⟩
 ·show(w.heap.setIfInBounds b.blk _)[k]? = _;rw[Array.getElem?_setIfInBounds,if_neg (by omega)]
 ·show(w.heap.setIfInBounds b.blk _)[b.blk]? = _;rw[Array.getElem?_setIfInBounds,if_pos rfl,if_pos hlt]
theorem zeV(h:Rel W0 e m w){x k v:CV}{X K V:Value}(hx:den e x=some X)(hk:den e k=some K)(hv:den e v=some V)(t:TypeId):SOk W0 P e m w (zaM P m t x k v) (Instr.mapUpdate t X K V):=by
 unfold zaM;split
 ·rename_i kt et tag hu;split
  ·rename_i es clock hko ho;obtain⟨b,ms,h1,h2,h3⟩:=h.ok _ _ ho;simp only[den,h1,yc5,ya0]at hx;subst hx;have e3:=fun b=>zet hko hk b w
   split
   ·rename_i j v0 s hf;obtain⟨V0,K0,a,q1,q2,e1,q5,q6,q7⟩:=zfO hko hk w h2 _ hf;have hlt:j<ms.length:=(List.getElem?_eq_some_iff.1 q5).1;refine⟨rfl,_,h.setMap (c':=clock) ho h1 (h2.set j hk hv (s:=s)),?_⟩;have hkey:((ms.toArray[j]?).map (·.key)).getD K=K0:=by simp[q5]
    have hmod:ms.toArray.modify j (fun e=>{ e with key:=K,val:=V })=(ms.set j { key:=K,val:=V,born:=s }).toArray:=by
     apply Array.ext_getElem?;intro i;rw[Array.getElem?_modify];by_cases hij:j=i
     ·subst hij;simp only[if_true,List.getElem?_toArray,q5,yc5];simp[hlt]
     ·simp[hij,yc8]
    have hkeep:(Instr.keyThatStays K0 K).run P w=.ok K w:=by simp[Instr.keyThatStays,q7]
    simp only[Instr.mapUpdate,Sem.run_bind,zaa hu,Result.andThen_ok,zbH h3,e3,e1,hkey,hkeep,hmod,zc6 h3]
   ·rename_i hf;have e1:=zfO hko hk w h2 _ hf;refine⟨rfl,_,h.setMap (c':=clock+1) ho h1 (h2.snoc hk hv (s:=clock)),?_⟩;simp only[Instr.mapUpdate,Sem.run_bind,zaa hu,Result.andThen_ok,zbH h3,e3,e1,zc6 h3];simp
   ·trivial
  ·trivial
 ·trivial
theorem zlV(h:Rel W0 e m w){x k:CV}{X K:Value}(hx:den e x=some X)(hk:den e k=some K)(t:TypeId):EOk W0 P e m w (zb7 P m t x k) (Instr.mapEntry t X K):=by
 unfold zb7;split
 ·rename_i kt et tag hu;split
  ·rename_i es clock z hko ho hz;obtain⟨i0,zv,hi,hzz,hzd⟩:=zd4 hz;obtain⟨b,ms,h1,h2,h3⟩:=h.ok _ _ ho;simp only[den,h1,yc5,ya0]at hx;subst hx;have e3:=fun b=>zet hko hk b w
   split
   ·rename_i j v0 s hf;obtain⟨V0,K0,a,q1,q2,e1,q5,q6,q7⟩:=zfO hko hk w h2 _ hf;have hlt:j<ms.length:=(List.getElem?_eq_some_iff.1 q5).1;have hkey:((ms.toArray[j]?).map (·.key)).getD K=K0:=by simp[q5]
    have hborn:((ms.toArray[j]?).map (fun x=>(x.born:Int))).getD 0=(s:Int):=by simp[q5]
    have hmod:ms.toArray.modify j (fun e=>{ e with key:=K })=(ms.set j { key:=K,val:=V0,born:=s }).toArray:=by
     apply Array.ext_getElem?;intro i;rw[Array.getElem?_modify];by_cases hij:j=i
     ·subst hij;simp only[if_true,List.getElem?_toArray,q5,yc5];simp[hlt]
     ·simp[hij,yc8]
    have hkeep:(Instr.keyThatStays K0 K).run P w=.ok K w:=by simp[Instr.keyThatStays,q7]
    refine⟨e,.tuple #[V0,.int .i64 s],_,Env.le.refl e,by simp[den,denL,q1],h.setMap (c':=clock) ho h1 (h2.set j hk q1 (s:=s)),?_⟩;simp only[Instr.mapEntry,Sem.run_bind,zaa hu,Result.andThen_ok,zbH h3,e3,e1,hkey,hkeep,hmod,zc6 h3,hborn]
    first |rfl |(simp only[hborn];rfl)
   ·rename_i hf;have e1:=zfO hko hk w h2 _ hf;have e2:=zcO hi hzz w;refine⟨e,.tuple #[zv,.int .i64 clock],_,Env.le.refl e,by simp[den,denL,hzd e],h.setMap (c':=clock+1) ho h1 (h2.snoc hk (hzd e) (s:=clock)),?_⟩;simp only[Instr.mapEntry,Sem.run_bind,zaa hu,Result.andThen_ok,zbH h3,e3,e1,e2,zc6 h3];simp;rfl
   ·trivial
  ·trivial
 ·trivial
theorem zqs{s:Nat}:∀{es:List (CV×CV×Nat)} {ms:List MapEntry},EntsOk e es ms->∀{i j:Nat} {k:CV},zmt s es i=some (j,k)->∃K V v,i<=j/\den e k=some K/\es[j - i]? = some (k,v,s)/\ms[j - i]? = some { key:=K,val:=V,born:=s }/\(ms.findIdx? (fun e=>(e.born:Int)==(s:Int)))=some (j - i)
 |[],_,.nil,i,j,k,h=>by simp[zmt]at h
 |(a,b,s')::es,_,.cons (k:=A) (v:=B) (ms:=ms) ha hb he,i,j,k,h=>by
  simp only[zmt]at h;split at h
  ·rename_i hq;obtain rfl:=yb0 hq;simp only[ya0,yc4]at h;obtain⟨rfl,rfl⟩:=h;exact⟨A,B,b,Nat.le_refl _,ha,by simp,by simp,by simp[List.findIdx?_cons]⟩
  ·rename_i hq;have hne:¬s'=s:=fun e=>by rw[zlR e]at hq;cases hq
   obtain⟨K,V,v,h1,h2,h3,h4,h5⟩:=zqs he h;refine⟨K,V,v,by omega,h2,?_,?_,?_⟩
   ·rw[show j - i=(j - (i+1))+1 by omega];simpa using h3
   ·rw[show j - i=(j - (i+1))+1 by omega];simpa using h4
   ·rw[List.findIdx?_cons,if_neg (by simp;omega),h5,show j - i=(j - (i+1))+1 by omega];rfl
theorem ziA(h:Rel W0 e m w){x s v:CV}{X S V:Value}(hx:den e x=some X)(hs:den e s=some S)(hv:den e v=some V)(t:TypeId):SOk W0 P e m w (zbc m x s v) (Instr.entryStore t X S V):=by
 unfold zbc;split
 ·rename_i tag k0 n;split
  ·rename_i es clock ho;obtain⟨b,ms,h1,h2,h3⟩:=h.ok _ _ ho;simp only[den,h1,yc5,ya0]at hx;subst hx;obtain rfl:=zaT hs;split
   ·rename_i j key hf;obtain⟨K,V0,v0,_,q2,q3,q4,q5⟩:=zqs h2 hf;simp only[Nat.sub_zero]at q3 q4 q5;have hlt:j<ms.length:=(List.getElem?_eq_some_iff.1 q4).1;have hmod:ms.toArray.modify j (fun e=>{ e with val:=V })=(ms.set j { key:=K,val:=V,born:=n }).toArray:=by
     apply Array.ext_getElem?;intro i;rw[Array.getElem?_modify];by_cases hij:j=i
     ·subst hij;simp only[if_true,List.getElem?_toArray,q4,yc5];simp[hlt]
     ·simp[hij,yc8]
    refine⟨rfl,_,h.setMap (c':=clock) ho h1 (h2.set j q2 hv (s:=n)),?_⟩;have hfi:ms.toArray.findIdx? (fun e=>(e.born:Int)==Int.ofNat n)=some j:=by
     rw[List.findIdx?_toArray];exact q5
    simp only[Instr.entryStore,Sem.run_bind,Result.andThen_ok,zbH h3,asIntOf,asInt,Sem.run_pure,hfi,hmod,zc6 h3]
   ·trivial
  ·trivial
 ·trivial
theorem ziy{x:CV}{X:Value}(hx:den e x=some X)(xt a:TypeId)(ok:Bool):VOk P e w (zaE P x a ok) (Instr.typeAssert X xt a ok):=by
 unfold zaE;split
 ·trivial
 ·rename_i d hni hu;split
  ·rename_i t v z hz;obtain⟨i,zv,hi,hzz,hzd⟩:=zd4 hz;simp only[den,ya3]at hx;obtain⟨V,hV,rfl⟩:=hx;have hne:∀ms,d≠.interface ms:=fun ms h=>hni ms h
   split
   ·rename_i hta;have hta:=yb0 hta;refine⟨.tuple #[V,.bool true],by simp[den,denL,hV],?_⟩;cases d<;>first |exact absurd rfl (hne _) |simp[Instr.typeAssert,zaa hu,hta]
   ·rename_i hta;have hta:=yb0 hta;refine⟨V,hV,?_⟩;cases d<;>first |exact absurd rfl (hne _) |simp[Instr.typeAssert,zaa hu,hta]
   ·rename_i hta;have hta:¬t=a:=fun hq=>by rw[zlR hq]at hta;cases hta
    refine⟨.tuple #[zv,.bool false],by simp[den,denL,hzd e],?_⟩;have e2:=zcO hi hzz w;cases d<;>first |exact absurd rfl (hne _) |simp[Instr.typeAssert,zaa hu,hta,e2]
   ·trivial
  ·trivial
 ·trivial
theorem zd2{e:Env}:∀{l:List CV} {bs:List Nat} {vs:List Value},zeq l=some bs->denL e l=some vs->vs=(bs.map Int.ofNat).map (Value.int .u8)
 |[],bs,vs,h,hd=>by
  simp only[zeq,ya0]at h;subst h;simp only[denL,ya0]at hd;subst hd;rfl
 |.int .u8 (.ofNat b)::r,bs,vs,h,hd=>by
  unfold zeq at h;split at h
  ·rename_i l hl;simp only[ya0]at h;subst h;obtain⟨v,l2,h1,h2,rfl⟩:=zaj hd;rw[zd2 hl h2,zaT h1];rfl
  ·cases h
theorem Rel.kill(h:Rel W0 e m w){T:Nat}{o:CO}{b:Blk}(hg:m.get T=some o)(hro:zf2 o=false)(hb:e T=some b){w':World}(hw:∀k,k≠b.blk->w'.heap[k]? = w.heap[k]?)
  (hs:w'.heap.size=w.heap.size) (h1:w'.os=w.os) (h2:w'.tape=w.tape) (h3:w'.output=w.output):Rel W0 e (m.kill T) w':=by
 have hk:∀t o1,(m.kill T).get t=some o1->m.get t=some o1/\t≠T:=fun t o1 ht=>by
  rw[Mem.get_kill]at ht;by_cases hq:t=T
  ·rw[if_pos hq]at ht;cases ht
  ·rw[if_neg hq]at ht;exact⟨ht,hq⟩
 refine⟨fun t o1 ht=>?_,fun t t' o1 o2 b1 b2 ht ht'=>h.inj0 t t' o1 o2 b1 b2 (hk _ _ ht).1 (hk _ _ ht').1,fun t o1 b1 ht=>h.own t o1 b1 (hk _ _ ht).1,fun t o1 b1 ht=>h.rof t o1 b1 (hk _ _ ht).1,h.glb,h.dom,
  h.frm.trans ⟨h1,h2,h3,Nat.le_of_eq hs.symm,fun k hk2=>hw k (fun hq=>h.own T o b hg hro hb (hq ▸ hk2))⟩,h.zlt,h.bar⟩
 obtain⟨h4,h5⟩:=hk t o1 ht;exact zbZ (Env.le.refl e) (fun b1 hb1=>hw _ (fun hbb=>h5 (h.inj t T o1 o b1 b h4 hg hro hb1 hb hbb))) (h.ok t o1 h4)
theorem zmU(bs:List Nat):∀(acc:ByteArray),((bs.map Int.ofNat).foldl (fun r n=>r.push (UInt8.ofNat n.toNat)) acc)=⟨acc.data++(bs.map UInt8.ofNat).toArray⟩:=by
 induction bs with
 |nil=>intro acc;simp
 |cons b bs ih=>
  intro acc;simp only[List.map_cons,List.foldl_cons,ih];simp[ByteArray.push]
theorem ztc(h:Rel W0 e m w){x:CV}{V:Value}(hx:den e x=some V){s d el:TypeId}(h1:P.underlying s=some (.slice el))(h2:P.underlying d=some .string)(h3:P.underlying el=some (.int .u8)):VOk P e w (zj3 m x) (convert s d V):=by
 unfold zj3;split
 ·rename_i n l hl;split
  ·rename_i bs hbs;obtain⟨us,k1,k2,k3,k4⟩:=zdh h.ok hl hx;have hus:=zd2 hbs k1;refine⟨_,rfl,?_⟩;rcases k4 with⟨rfl,rfl,rfl⟩ |⟨ad,c,rfl,hc⟩
   ·have h0:us=[]:=by cases us with |nil=>rfl |cons a b=>simp at k2
    subst h0;have hb:bs=[]:=by cases bs with |nil=>rfl |cons a b=>simp at hus
    subst hb;simp[convert,zaa h1,zaa h2,zaa h3,Conv.bytesToString];rfl
   ·rw[run_convert_bytes_string w s d el _ _ _ h1 h3 h2];have hld:(loadCells ad n).run P w=.ok ((bs.map Int.ofNat).map (Value.int .u8)).toArray w:=by
     rw[<- hus];have:=run_loadCells_list (P:=P) w ad us hc
     rwa [show us.length=n by omega]at this
    rw[run_bytesToString w ad n c _ hld,zmU];simp
  ·trivial
 ·trivial
theorem zkl(h:Rel W0 e m w){x y:CV}{X Y:Value}(hx:den e x=some X)(hy:den e y=some Y)(pt it ty:TypeId):EOk W0 P e m w (zcp P m pt x y) (Builtin.unsafeString_ #[pt,it] ty #[X,Y]):=by
 unfold zcp;split
 ·rename_i t n;obtain⟨b,hb,rfl⟩:=zig hx;obtain rfl:=zaT hy;split
  ·rename_i el hp;split
   ·rename_i hc;simp only[ya2]at hc;have hc1:=yb0 hc.1;have hc2:=ya9 hc.2;unfold zpk;split
    ·rename_i ty' cs ho;split
     ·rename_i l hty ht;have hty:=yb0 hty;subst hty;split
      ·rename_i bs hbs;split
       ·rename_i h256;obtain⟨b',vs,h1,h2,h3,h4,h5⟩:=h.ok _ _ ho;obtain rfl:b=b':=by rw[hb]at h1;cases h1;rfl
        obtain⟨q1,q2⟩:=zbu h3 ht;rw[List.drop_zero]at q2;have hbytes:=zd2 hbs q2;have hbl:bs.length=n+1:=by
         have e1:=congrArg List.length hbytes;simp only[List.length_take,yb7]at e1;omega
        let l8:=bs.map UInt8.ofNat
        have hsh:w.shape? b.blk=some (ty',vs.length):=by simp[World.shape?,h5]
        have hb255:∀(j:Nat) (x:UInt8),l8[j]? = some x->vs[j]? = some (Value.int .u8 x.toNat):=fun j x hj=>by
         simp only[l8,yb9,ya3]at hj;obtain⟨b0,hb0,rfl⟩:=hj;have hlt0:j<n+1:=by rw[<- hbl];exact(List.getElem?_eq_some_iff.1 hb0).1
         have e3:=congrArg (·[j]?) hbytes;simp only[List.getElem?_take,if_pos hlt0,yb9,hb0,yc5]at e3;rw[e3];have h9:=List.all_eq_true.1 h256 b0 (List.mem_of_getElem? hb0);have h10:b0<256:=by simpa[Nat.blt_eq]using h9
         have h11:(UInt8.ofNat b0).toNat=b0:=by simp;omega
         rw[h11];rfl
        have hrun:=run_unsafeString_row (P:=P) w pt it ty ty' hp hc1 b.blk vs.length hsh l8 (by
         intro hq;have:=congrArg List.length hq;simp only[l8,yb7,yb2]at this;omega) (by simp only[l8,yb7];omega) (by simp only[l8,yb7];omega) (fun j x hj=>by
          have h6:=hb255 j x hj;have:(⟨b.blk,0,none⟩:Addr).add j=⟨b.blk,j,none⟩:=by unfold Addr.add;split<;>simp_all
          rw[this,zaW h5];simpa using h6)
        have hlt:=zcH h5;refine⟨e,.string ⟨l8.toArray⟩,w.freeze ⟨b.blk,0,none⟩ l8.length,Env.le.refl e,rfl,h.kill ho rfl hb (fun k hk=>?_) ?_ ?_ ?_ ?_,?_⟩
        ·have h0:¬(l8.length=0):=by simp only[l8,yb7];omega
         simp only[World.freeze,if_neg h0,Array.getElem?_modify];rw[if_neg (Ne.symm hk)]
        ·unfold World.freeze;split<;>simp
        ·unfold World.freeze;split<;>rfl
        ·unfold World.freeze;split<;>rfl
        ·unfold World.freeze;split<;>rfl
        ·have e1:(⟨b.blk,b.off+0,none⟩:Addr)=⟨b.blk,0,none⟩:=by rw[h2]
         have e2:(Value.int .i64 ((n+1:Nat):Int))=.int .i64 (l8.length:Int):=by
          simp only[l8,yb7,hbl]
         rw[e1];show(Builtin.unsafeString_ #[pt,it] ty #[.pointer (some ⟨b.blk,0,none⟩),.int .i64 ((n+1:Nat):Int)]).run P w=_;rw[e2];exact hrun
       ·trivial
      ·trivial
     ·trivial
    ·rename_i ty' sz' cs ho;split
     ·rename_i l hty ht;have hty:=yb0 hty;subst hty;split
      ·rename_i bs hbs;split
       ·rename_i h256;obtain⟨b',vs,pre,suf,h1,h2,h3,h4,h5,h6,⟨fr,h7,h7'⟩,h8,h9⟩:=h.ok _ _ ho;obtain rfl:b=b':=by rw[hb]at h1;cases h1;rfl
        obtain⟨q1,q2⟩:=zbu h5 ht;rw[List.drop_zero]at q2;have hbytes:=zd2 hbs q2;have hvl:cs.length=vs.length:=(zad h5).symm;have hq1:0+(n+1)<=cs.length:=(zbl ht).1;have hbl:bs.length=n+1:=by
         have e1:=congrArg List.length hbytes;simp only[List.length_take,yb7]at e1;omega
        let l8:=bs.map UInt8.ofNat
        have hl8:l8.length=n+1:=by simp only[l8,yb7];exact hbl
        have hsh:w.shape? b.blk=some (ty',(pre++vs++suf).length):=by simp[World.shape?,h7]
        have hb255:∀(j:Nat) (x:UInt8),l8[j]? = some x->vs[j]? = some (Value.int .u8 x.toNat):=fun j x hj=>by
         simp only[l8,yb9,ya3]at hj;obtain⟨b0,hb0,rfl⟩:=hj;have hlt0:j<n+1:=by rw[<- hbl];exact(List.getElem?_eq_some_iff.1 hb0).1
         have e3:=congrArg (·[j]?) hbytes;simp only[List.getElem?_take,if_pos hlt0,yb9,hb0,yc5]at e3;rw[e3];have h9:=List.all_eq_true.1 h256 b0 (List.mem_of_getElem? hb0);have h10:b0<256:=by simpa[Nat.blt_eq]using h9
         have h11:(UInt8.ofNat b0).toNat=b0:=by simp;omega
         rw[h11];rfl
        have hrun:=zeN (P:=P) (w:=w) pt it ty ty' hp hc1 b.blk b.off (pre++vs++suf).length hsh l8 (by
         intro hq;rw[hq]at hl8;simp at hl8) (by
          simp only[ya1,h4];omega) (by omega) (fun j x hj=>by
          have h6:=hb255 j x hj;rw[Addr.add_lit,zaW h7];rw[List.getElem?_toArray,yc1,yd0 (by omega),h4,Nat.add_sub_cancel_left];rw[yb8 (List.getElem?_eq_some_iff.1 h6).1];exact h6)
        have hlt:=zcH h7;refine⟨e,.string ⟨l8.toArray⟩,w.freeze ⟨b.blk,b.off,none⟩ l8.length,Env.le.refl e,rfl,h.kill ho rfl hb (fun k hk=>?_) ?_ ?_ ?_ ?_,?_⟩
        ·have h0:¬(l8.length=0):=by omega
         simp only[World.freeze,if_neg h0,Array.getElem?_modify];rw[if_neg (Ne.symm hk)]
        ·unfold World.freeze;split<;>simp
        ·unfold World.freeze;split<;>rfl
        ·unfold World.freeze;split<;>rfl
        ·unfold World.freeze;split<;>rfl
        ·have e2:(Value.int .i64 ((n+1:Nat):Int))=.int .i64 (l8.length:Int):=by rw[hl8]
         show(Builtin.unsafeString_ #[pt,it] ty #[.pointer (some ⟨b.blk,b.off+0,none⟩),.int .i64 ((n+1:Nat):Int)]).run P w=_;rw[e2];exact hrun
       ·trivial
      ·trivial
     ·trivial
    ·trivial
   ·trivial
  ·trivial
 ·simp only[den,ya0]at hx;subst hx;obtain rfl:=zaT hy;exact⟨_,rfl,Lib.run_unsafeString_none (P:=P) w pt it ty none⟩
 ·trivial
theorem ztf(h:Rel W0 e m w){T:Nat}(hT:e T=none/\¬W0.Z T){x:CV}{V:Value}(hx:den e x=some V)(s d:TypeId):EOk W0 P e m w (za3 P T m s d x) (convert s d V):=by
 unfold za3;split
 ·rename_i h1 h2;obtain rfl:=zaT hx;exact⟨_,rfl,by simp[convert,zaa h1,zaa h2,Conv.intToInt,zbm]⟩
 ·rename_i h1 h2;obtain rfl:=zbP hx;exact⟨_,rfl,by simp[convert,zaa h1,zaa h2]⟩
 ·rename_i el str h1 h2;obtain rfl:=zbP hx;split
  ·rename_i h3 hlen;have hlen:=ya9 hlen;generalize hB:(⟨(str.map UInt8.ofNat).toArray⟩:ByteArray)=B;have hsize:B.size=str.length:=by rw[<- hB];exact zfr str
   have hdata:B.data=(str.map UInt8.ofNat).toArray:=by rw[<- hB]
   let q:Question:=.appendCap B.size 0 el
   let cap:=q.cut (w.tape w.drawn q)
   have hcap:str.length<=cap/\cap<2 ^ 63:=by
    show str.length<=B.size+w.tape w.drawn q%(2 ^ 63 - B.size)/\B.size+w.tape w.drawn q%(2 ^ 63 - B.size)<2 ^ 63;rw[hsize];have:=Nat.mod_lt (w.tape w.drawn q) (show 0<2 ^ 63 - str.length by omega);omega
   let row:List Value:=((str.map UInt8.ofNat).map fun b=>Value.int .u8 b.toNat)++List.replicate (cap - str.length) (.int .u8 0)
   have hrl:row.length=cap:=by simp[row];omega
   let w1:World:={ w with drawn:=w.drawn+1 }
   let w2:World:=w1.alloc (.cells row.toArray el (0,0))
   let w3:World:=w2.freeze { block:=w.heap.size,off:=cap } 1
   have hw3:∀k,w3.heap[k]? = if k=w.heap.size then some (.cells row.toArray el (cap,cap+1))else w.heap[k]? := fun k=>by
    show(w2.freeze _ 1).heap[k]? = _;have h0:¬(1=0):=by omega
    simp only[World.freeze,if_neg h0,Array.getElem?_modify];have h5:w2.heap[k]? = if k=w.heap.size then some (.cells row.toArray el (0,0))else w.heap[k]? := zbg w1 _ k
    by_cases hk:w.heap.size=k
    ·rw[if_pos hk,h5,if_pos hk.symm,if_pos hk.symm];simp
    ·rw[if_neg hk,h5,if_neg (Ne.symm hk),if_neg (Ne.symm hk)]
   have hsz3:w3.heap.size=w.heap.size+1:=by
    show(w2.freeze _ 1).heap.size=_;have h0:¬(1=0):=by omega
    simp only[World.freeze,if_neg h0,Array.size_modify];exact Array.size_push ..
   have hfs:=@Rel.frF _ _ _ _ h;obtain⟨f1,f2⟩:=h.fresh hT (m1:=m) (fun _ _ h=>h) rfl (b:=⟨w.heap.size,0,cap,1⟩) (w':=w3) (o:=.opn el 1 (str.map fun b=>.int .u8 (.ofNat (b%256))))
    (fun t o1 b' ht hb'=>by
     obtain⟨bb,x2,k1,k2⟩:=zc5 (h.ok t o1 ht);have hbe:bb=b':=by rw[k1]at hb';exact Option.some.inj hb'
     rw[hbe]at k2;have hlt:=zcH k2;have hne:b'.blk≠w.heap.size:=by omega
     exact⟨hne,by rw[hw3,if_neg hne]⟩)
    (h.nF (Nat.le_refl _))
    ⟨rfl,rfl,rfl,by rw[hsz3];omega,fun k hk=>by have:=h.frF hk;rw[hw3,if_neg (by omega)]⟩
    ⟨_,(str.map UInt8.ofNat).map fun b=>Value.int .u8 b.toNat,[],List.replicate (cap - str.length) (.int .u8 0),Env.ext_same ..,rfl,by omega,rfl,zfl _ str,zhR str,
     ⟨(cap,cap+1),by rw[hw3];simp[row],fun i hi hq=>by
       have h6:i<row.length:=by simpa[row]using hi
       rw[hrl]at h6;have:=hq.1;simp only at this;omega⟩,by
     show row.length=cap*1;rw[hrl];omega,by show cap<=maxLen;simp only[maxLen];omega⟩
   refine⟨_,.slice (some ⟨w.heap.size,0,none⟩) str.length cap,w3,f1,?_,f2,?_⟩
   ·show((e.ext T _) T).map _=_;rw[Env.ext_same];simp
   ·have hforced:q.forced=false:=rfl;have hshape:w2.shape? w.heap.size=some (el,cap):=by
     have h5:w2.heap[w.heap.size]? = some (.cells row.toArray el (0,0)):=by
      have:=zbg w1 (.cells row.toArray el (0,0)) w.heap.size;rw[this];exact if_pos rfl
     simp only[World.shape?,h5];simp[hrl]
    have hrow:((str.map UInt8.ofNat).toArray.map fun b=>Value.int .u8 b.toNat)++Array.replicate (cap - str.length) (.int .u8 0)=row.toArray:=by simp[row]
    have e1:(convert s d (.string B)).run P w=(Conv.stringToBytes el B).run P w:=by
     simp[convert,zaa h1,zaa h2,zaa h3]
    have hc:(choose q).run P w=.ok cap w1:=rfl;have hn:(newRow el row.toArray).run P w1=.ok ⟨w.heap.size,0,none⟩ w2:=by
     simp only[newRow,Sem.run_bind,run_newObj,Result.andThen_ok,Sem.run_pure];rfl
    have hmk:(markStringish ⟨w.heap.size,0,none⟩).run P w2=.ok () w3:=by
     have h7:(shape w.heap.size).run P w2=.ok (some (el,cap)) w2:=by
      show Result.ok (w2.shape? w.heap.size) w2=_;rw[hshape]
     simp only[markStringish,Sem.run_bind,h7,Result.andThen_ok];rfl
    rw[e1];unfold Conv.stringToBytes;simp only[Sem.run_bind];rw[show(choose (Question.appendCap B.size 0 el)).run P w=.ok cap w1 from hc];simp only[Result.andThen_ok,hdata,hsize,Sem.run_bind];rw[hrow,hn];simp only[Result.andThen_ok,hmk,Sem.run_bind,Sem.run_pure]
  ·trivial
 ·rename_i el h1 h2 _;split
  ·rename_i h3;exact VOk.E (ztc h hx h1 h2 h3)
  ·trivial
 ·rename_i n _ h1 h2;obtain rfl:=zaT hx;split
  ·rename_i hn;have hn:n<128:=ya9 hn;refine⟨_,rfl,?_⟩;rw[run_convert_int_string w s d _ _ (by rw[h1];rfl) h2];have hv:Utf8.valid (Int.ofNat n)=true:=by simp[Utf8.valid];omega
   have ht:(Int.ofNat n).toNat=n:=rfl;simp only[Utf8.encode,hv,if_true,ht,if_pos hn];rfl
  ·trivial
 ·rename_i el tag off h1 h2;unfold zg4;split
  ·rename_i i ty cs hi ho;split
   ·rename_i hc;simp only[ya2]at hc;have g1:0<i.size:=by simpa[Nat.blt_eq]using hc.1
    have g2:off<cs.length:=by simpa[Nat.blt_eq]using hc.2
    obtain⟨b,l,k1,k2,k3,k4,k5⟩:=h.ok _ _ ho;simp only[den,k1,yc5,ya0]at hx;subst hx;refine⟨.pointer (some ⟨b.blk,b.off+off,none⟩),by simp only[den,k1,yc5],?_⟩;exact Lib.run_to_unsafe (P:=P) w ⟨b.blk,b.off+off,none⟩ h1 h2 hi (by omega) (e:=ty) (cells:=l.length) (by simp[World.shape?,k5]) (by
     show b.off+off<l.length;rw[zad k3];omega)
   ·trivial
  ·trivial
 ·rename_i el tag off h1 h2;unfold zdY;split
  ·rename_i i ty cs hi ho;split
   ·rename_i hc;obtain⟨b,l,k1,k2,k3,k4,k5⟩:=h.ok _ _ ho;simp only[den,k1,yc5,ya0]at hx;subst hx;refine⟨.pointer (some ⟨b.blk,b.off+off,none⟩),by simp only[den,k1,yc5],?_⟩;exact Lib.run_from_unsafe (P:=P) w ⟨b.blk,b.off+off,none⟩ h1 h2 hi (e:=ty) (cells:=l.length) (by simp[World.shape?,k5]) (by
     show liesAt P P.depth ty (l.length / P.cellsOf ty) (b.off+off) el 1=true;rw[zad k3,k2,Nat.zero_add];exact hc)
   ·trivial
  ·trivial
 ·trivial
end Go.Cx
namespace Go.Cx
open Go Go.RowKit
variable{e:Env}{P:Program}{w:World}{m:Mem}{W0:Bas}{a:Act}{t:Tmps}
abbrev GOk(e:Env):Prop:=∀g,g<64->e g=some ⟨g,0,0,0⟩
theorem zcw(hG:GOk e)(hT:TOk e t a.tmps){x:Operand}{v:CV}(h:evO t x=some v):den e v=some (a.eval x):=by
 cases x with
 |tmp i=>
  obtain⟨V,h1,h2⟩:=hT.2 i v h;rw[h1];simp[Act.eval,Array.getD_eq_getD_getElem?,h2]
 |const c=>exact zsg h
 |global g=>
  change Bool.rec (motive:=fun _=>Option CV) none (some (.ptr g 0)) (Nat.blt g 64)=some v at h
  cases hb:Nat.blt g 64 with
  |false=>rw[hb]at h;cases h
  |true=>
   rw[hb]at h;cases h;have hb:g<64:=by simpa[Nat.blt_eq]using hb
   simp[den,hG g hb,Act.eval]
 |func f=>
  change some (CV.fn f [] [])=some v at h
  cases h;rfl
theorem zlu(hG:GOk e)(hT:TOk e t a.tmps):∀{l:List Operand} {vs:List CV},evL t l=some vs->denL e vs=some (l.map a.eval)
 |[],vs,h=>by simp only[evL,ya0]at h;subst h;rfl
 |x::l,vs,h=>by
  unfold evL at h;split at h
  ·rename_i v hv;split at h
   ·rename_i us hus;simp only[ya0]at h;subst h;exact zar (zcw hG hT hv) (zlu hG hT hus)
   ·cases h
  ·cases h
theorem zqn(hG:GOk e)(hT:TOk e t a.tmps):∀{l:List (Nat×Operand)} {vs:List (Nat×CV)},evP t l=some vs->PartsOk e vs (l.map fun p=>(p.1,a.eval p.2))
 |[],vs,h=>by simp only[evP,ya0]at h;subst h;exact .nil
 |(i,x)::l,vs,h=>by
  unfold evP at h;split at h
  ·rename_i v hv;split at h
   ·rename_i us hus;simp only[ya0]at h;subst h;exact .cons (zcw hG hT hv) (zqn hG hT hus)
   ·cases h
  ·cases h
theorem zkN(hG:GOk e)(hT:TOk e t a.tmps){x:Option Operand}{v:Option CV}(h:zef t x=some v):ztk e v (x.map a.eval):=by
 unfold zef at h;split at h
 ·cases h;trivial
 ·split at h
  ·rename_i u hu;cases h;exact zcw hG hT hu
  ·cases h
def zaS(W0:Bas)(P:Program)(e:Env)(w:World)(a:Act)(o:Oper)(out:COut):Prop:=
 match out with
 |.no _=>True
 |.recover=>True
 |.val v=>∃V,den e v=some V/\(execOp a.eval o).run P w=.ok (.value V) w
 |.mem v m'=>∃e' V w',Env.le e e'/\den e' v=some V/\Rel W0 e' m' w'/\((execOp a.eval o).run P w=.ok (.value V) w'\/((execOp a.eval o).run P w=.ok .skip w'/\V=undef))
 |.call f args=>∃as,denL e args=some as/\(execOp a.eval o).run P w=(callFunc f as.toArray).run P w
 |.yield l args=>∃as b,denL e args=some as/\e l=some b/\(execOp a.eval o).run P w=(Instr.yield b.blk as.toArray).run P w
 |.defer f args=>∃c x y,o.op=.defer c/\denL e args=some (x++y)/\∀w,(resolve a.eval c o.type).run P w=.ok { target:=.fn (.func f) y.toArray,args:=x.toArray } w
 |.panic v=>∃V,den e v=some V/\(execOp a.eval o).run P w=.halt (.panic V) w
theorem zgC{o:Oper}{out:COut}{s:Sem Value}(h:EOk W0 P e m w out s)(ho:(execOp a.eval o).run P w=(do pure (Next.value (<- s)):Sem Next).run P w):zaS W0 P e w a o out:=by
 cases out with
 |no=>trivial
 |val v=>
  obtain⟨V,h1,h2⟩:=h;exact⟨V,h1,by rw[ho];simp[h2]⟩
 |mem v m'=>
  obtain⟨e',V,w',h1,h2,h3,h4⟩:=h;exact⟨e',V,w',h1,h2,h3,.inl (by rw[ho];simp[h4])⟩
 |recover=>exact h.elim
 |call f args=>exact h.elim
 |yield f args=>exact h.elim
 |defer f args=>exact h.elim
 |panic v=>exact h.elim
theorem zeu{o:Oper}{out:COut}{s:Sem Value}(h:VOk P e w out s)(ho:(execOp a.eval o).run P w=(do pure (Next.value (<- s)):Sem Next).run P w):zaS W0 P e w a o out:=zgC (m:=⟨0,.nil⟩) (h.E) ho
theorem zsF{o:Oper}{out:COut}{s:Sem Unit}(h:SOk W0 P e m w out s)(ho:(execOp a.eval o).run P w=(do s;pure Next.skip:Sem Next).run P w):zaS W0 P e w a o out:=by
 cases out with
 |no=>trivial
 |val v=>exact h.elim
 |mem v m'=>
  obtain⟨rfl,w',h3,h4⟩:=h;exact⟨e,undef,w',Env.le.refl e,rfl,h3,.inr ⟨by rw[ho];simp[h4],rfl⟩⟩
 |recover=>exact h.elim
 |call f args=>exact h.elim
 |yield f args=>exact h.elim
 |defer f args=>exact h.elim
 |panic v=>exact h.elim
theorem zbF{o:Oper}{f:Mem->CV->COut}{x:Operand}(hG:GOk e)(hT:TOk e t a.tmps)(h:∀v,evO t x=some v->den e v=some (a.eval x)->zaS W0 P e w a o (f m v)):zaS W0 P e w a o (un1 f x m t):=by
 unfold un1;cases hv:evO t x with
 |none=>trivial
 |some v=>exact h v hv (zcw hG hT hv)
theorem zcW{o:Oper}{f:Mem->CV->CV->COut}{x y:Operand}(hG:GOk e)(hT:TOk e t a.tmps)(h:∀v u,den e v=some (a.eval x)->den e u=some (a.eval y)->zaS W0 P e w a o (f m v u)):zaS W0 P e w a o (zbL f x y m t):=by
 unfold zbL;cases hv:evO t x with
 |none=>trivial
 |some v=>
  cases hu:evO t y with
  |none=>trivial
  |some u=>exact h v u (zcw hG hT hv) (zcw hG hT hu)
theorem zjG{o:Oper}{f:Mem->CV->CV->CV->COut}{x y z:Operand}(hG:GOk e)(hT:TOk e t a.tmps)(h:∀v u s,den e v=some (a.eval x)->den e u=some (a.eval y)->den e s=some (a.eval z)->zaS W0 P e w a o (f m v u s)):zaS W0 P e w a o (zlm f x y z m t):=by
 unfold zlm;split
 ·rename_i v hv;exact zcW hG hT fun u s hu hs=>h v u s (zcw hG hT hv) hu hs
 ·trivial
theorem zr1{o:Oper}{f:Operand}{args:Array Operand}{ats:Array TypeId}(hG:GOk e)(hT:TOk e t a.tmps)(hp:o.op=.call { callee:=.value f,args,argTypes:=ats }){vs:List CV}(hvs:denL e vs=some (args.toList.map a.eval)):
  zaS W0 P e w a o (zeh f m t vs):=by
 unfold zeh;split
 ·rename_i fv hf;have hd:=zcw hG hT hf;unfold zpz;split
  ·rename_i g x y;simp only[den,yc9,ya3]at hd;obtain⟨lx,hx,ly,hy,hq⟩:=hd;refine⟨_,zaR (zaR hx hvs) hy,?_⟩;have he:(lx++args.toList.map a.eval++ly).toArray=(lx.toArray++args.map a.eval)++ly.toArray:=by obtain⟨l⟩:=args;simp
   rw[he];simp only[execOp,hp,resolve,<- hq,Deferred.ofValue,pure_bind,invoke]
  ·rename_i l;simp only[den,ya3]at hd;obtain⟨b,hb,hq⟩:=hd;refine⟨_,b,hvs,hb,?_⟩;have he:(args.toList.map a.eval).toArray=args.map a.eval:=by obtain⟨l⟩:=args;simp
   rw[he];simp only[execOp,hp,resolve,<- hq,Deferred.ofValue,pure_bind,invoke];simp
  ·trivial
 ·trivial
theorem znE{T:Nat}(hT0:e T=none/\¬W0.Z T){o:Oper}{b:Builtin}{args:Array Operand}{ats:Array TypeId}(hr:Rel W0 e m w)(hp:o.op=.call { callee:=.builtin b,args,argTypes:=ats }){vs:List CV}(hvs:denL e vs=some (args.toList.map a.eval)):
  zaS W0 P e w a o (zcP P T ats.toList b m vs):=by
 have hx:execOp a.eval o=builtin b ats o.type (args.map fun |.const _=>true |_=>false) (args.map a.eval):=by
  unfold execOp;rw[hp];rfl
 have harr:args.map a.eval=(args.toList.map a.eval).toArray:=by obtain⟨l⟩:=args;simp
 cases b<;>first
  |trivial
  |skip
 ·
  show zaS W0 P e w a o (zjI P T ats.toList m vs);unfold zjI;split
  ·rename_i x y;split
   ·rename_i ty ty2 hat;have e2:ats = #[ty,ty2]:=by rw[<- Array.toList_inj];exact hat
    obtain⟨X,l,h1,h2,h3⟩:=zaj hvs;obtain⟨Y,l2,h4,h5,rfl⟩:=zaj h2;simp only[denL,ya0]at h5;subst h5;unfold ap2;split
    ·obtain rfl:=zbP h4;refine zgC (zmY hr hT0 h1 ty ty2 o.type) ?_;rw[hx,harr,h3,e2];rfl
    ·refine zgC (zpw hr hT0 h1 h4 ty ty2 o.type) ?_;rw[hx,harr,h3,e2];rfl
   ·trivial
  ·trivial
 ·
  show zaS W0 P e w a o (zmD P ats.toList m vs);unfold zmD;split
  ·rename_i x;split
   ·rename_i ty hat;have e2:ats = #[ty]:=by rw[<- Array.toList_inj];exact hat
    obtain⟨X,l,h1,h2,h3⟩:=zaj hvs;simp only[denL,ya0]at h2;subst h2;refine zgC (zsa hr h1 ty o.type) ?_;rw[hx,harr,h3,e2];rfl
   ·trivial
  ·trivial
 ·
  show zaS W0 P e w a o (zqr P ats.toList m vs);unfold zqr;split
  ·rename_i x y;split
   ·rename_i ty ty2 hat;have e2:ats = #[ty,ty2]:=by rw[<- Array.toList_inj];exact hat
    obtain⟨X,l,h1,h2,h3⟩:=zaj hvs;obtain⟨Y,l2,h4,h5,rfl⟩:=zaj h2;simp only[denL,ya0]at h5;subst h5;refine zgC (ztD hr h1 h4 ty ty2 o.type) ?_;rw[hx,harr,h3,e2];rfl
   ·trivial
  ·trivial
 ·
  show zaS W0 P e w a o (zpu P ats.toList m vs);unfold zpu;split
  ·rename_i x;split
   ·rename_i ty hat;have e2:ats = #[ty]:=by rw[<- Array.toList_inj];exact hat
    obtain⟨X,l,h1,h2,h3⟩:=zaj hvs;simp only[denL,ya0]at h2;subst h2;refine zeu (zuO hr.ok h1 ty o.type) ?_;rw[hx,harr,h3,e2];rfl
   ·trivial
  ·trivial
 ·
  refine zeu (zjd true hvs ats o.type) ?_;rw[hx,harr];rfl
 ·
  refine zeu (zjd false hvs ats o.type) ?_;rw[hx,harr];rfl
 ·
  show zaS W0 P e w a o (zuZ m vs);unfold zuZ;split<;>trivial
 ·
  show zaS W0 P e w a o (zvT m vs);unfold zvT;split
  ·rename_i x;obtain⟨X,l,h1,h2,h3⟩:=zaj hvs;simp only[denL,ya0]at h2;subst h2;refine zeu (zke hr h1 ats o.type) ?_;rw[hx,harr,h3];rfl
  ·trivial
 ·
  show zaS W0 P e w a o (zxK P ats.toList m vs);unfold zxK;split
  ·rename_i x y;split
   ·rename_i ty ty2 hat;have e2:ats = #[ty,ty2]:=by rw[<- Array.toList_inj];exact hat
    obtain⟨X,l,h1,h2,h3⟩:=zaj hvs;obtain⟨Y,l2,h4,h5,rfl⟩:=zaj h2;simp only[denL,ya0]at h5;subst h5;refine zgC (zkl hr h1 h4 ty ty2 o.type) ?_;rw[hx,harr,h3,e2];rfl
   ·trivial
  ·trivial
theorem zq0{o:Oper}{T:Nat}(hT0:e T=none/\¬W0.Z T)(hr:Rel W0 e m w)(hT:TOk e t a.tmps):zaS W0 P e w a o (za4 P T o.op m t):=by
 have hG:GOk e:=hr.glb;obtain⟨dst,op,ty,pos,aft,guard⟩:=o;cases op with
 |move x=>refine zbF hG hT ?_;intro v _ h;exact⟨_,h,rfl⟩
 |assign x=>refine zbF hG hT ?_;intro v _ h;exact⟨_,h,rfl⟩
 |pick c x y=>
  show zaS W0 P e w a _ (zcE c x y m t);unfold zcE;split
  ·rename_i hc;have h1:=zbv (zcw hG hT hc);refine zbF hG hT ?_;intro v _ h;exact⟨_,h,by simp[execOp,h1,asBool]⟩
  ·rename_i hc;have h1:=zbv (zcw hG hT hc);refine zbF hG hT ?_;intro v _ h;exact⟨_,h,by simp[execOp,h1,asBool]⟩
  ·trivial
 |alloc el=>
  show zaS W0 P e w a _ (zbO P T el m t);unfold zbO;split
  ·rename_i z hz;obtain⟨i,zv,hi,hzz,hzd⟩:=zd4 hz;refine zgC (zqU hr hT0 (hzd e) el) ?_;simp[execOp,Instr.alloc,Instr.box,zcO hi hzz]
  ·trivial
 |box el x=>show zaS W0 P e w a _ (un1 (fun m v=>zim T m el v) x m t);refine zbF hG hT ?_;intro v _ h;refine zgC (zqU hr hT0 h el) ?_;rfl
 |build ty ps=>
  show zaS W0 P e w a _ (zcG P ty ps m t);unfold zcG;split
  ·rename_i vs hvs;refine zeu (zrR (zqn hG hT hvs) ty) ?_;have:(ps.toList.map fun p=>(p.1,a.eval p.2)).toArray=ps.map fun p=>(p.1,a.eval p.2):=by obtain⟨l⟩:=ps;simp
   rw[this];rfl
  ·trivial
 |buildSlice ty n ps=>
  show zaS W0 P e w a _ (zal P T ty n ps m t);unfold zal;split
  ·rename_i vs hvs;refine zgC (ziE hr hT0 (zqn hG hT hvs) ty n) ?_;have:(ps.toList.map fun p=>(p.1,a.eval p.2)).toArray=ps.map fun p=>(p.1,a.eval p.2):=by obtain⟨l⟩:=ps;simp
   rw[this];rfl
  ·trivial
 |load ty x=>show zaS W0 P e w a _ (un1 (fun m v=>zdC P m ty v) x m t);refine zbF hG hT ?_;intro v _ h;refine zeu (znP hr.ok h ty) ?_;rfl
 |store ty x y=>show zaS W0 P e w a _ (zbL (fun m a x=>zaL P m ty a x) x y m t);refine zcW hG hT ?_;intro v u h1 h2;refine zsF (zrt hr h1 h2 ty) ?_;rfl
 |nilCheck x=>
  refine zbF hG hT ?_;intro v _ h;unfold zvV;split
  ·have h0:=h;simp only[den,ya3]at h;obtain⟨b,hb,hq⟩:=h;exact⟨_,h0,by simp only[execOp,<- hq];rfl⟩
  ·have h0:=h;simp only[den,yc9,ya3]at h;obtain⟨x1,_,y1,_,hq⟩:=h;exact⟨_,h0,by simp only[execOp,<- hq];rfl⟩
  ·have h0:=h;simp only[den,ya3]at h;obtain⟨b,hb,hq⟩:=h;exact⟨_,h0,by simp only[execOp,<- hq];rfl⟩
  ·trivial
 |binOp op ty x y z=>show zaS W0 P e w a _ (zbL (fun _=>zpH P (zis x||zis y) op ty) x y m t);refine zcW hG hT ?_;intro v u h1 h2;refine zeu (zvQ h1 h2 x y) ?_;rfl
 |unOp op ty x=>show zaS W0 P e w a _ (un1 (fun _=>cUn op) x m t);refine zbF hG hT ?_;intro v _ h;refine zeu (zwi h) ?_;rfl
 |convert s d x=>show zaS W0 P e w a _ (un1 (fun m v=>za3 P T m s d v) x m t);refine zbF hG hT ?_;intro v _ h;refine zgC (ztf hr hT0 h s d) ?_;rfl
 |makeInterface ty x=>
  refine zbF hG hT ?_;intro v _ h;unfold zhh;split
  ·trivial
  ·rename_i d hni hu;refine⟨.iface ty (a.eval x),by simp[den,h],?_⟩;cases d<;>first |exact absurd rfl (hni _) |simp[execOp,Instr.makeInterface,zaa hu]
  ·trivial
 |makeFunc fn x y=>
  show zaS W0 P e w a _ (zdV fn x y m t);unfold zdV;split
  ·split
   ·rename_i vx hx;split
    ·rename_i vy hy;rename_i f _ _;refine⟨.func (.func f) (x.toList.map a.eval).toArray (y.toList.map a.eval).toArray,by simp[den,zlu hG hT hx,zlu hG hT hy],?_⟩;have e1:(x.toList.map a.eval).toArray=x.map a.eval:=by obtain⟨l⟩:=x;simp
     have e2:(y.toList.map a.eval).toArray=y.map a.eval:=by obtain⟨l⟩:=y;simp
     rw[e1,e2];simp[execOp,Instr.makeFunc]
    ·trivial
   ·trivial
  ·trivial
 |makeMap ty r=>
  show zaS W0 P e w a _ (zgy T r m t);unfold zgy;split
  ·obtain⟨h1,h2⟩:=hr.alloc hT0 (o:=.map [] 0) (x:=.map #[] 0) ⟨w.heap.size,0,0,0⟩ rfl ⟨_,[],Env.ext_same ..,.nil,by rw[zbg,if_pos rfl]⟩;refine⟨_,.map (some w.heap.size),_,h1,?_,h2,.inl ?_⟩
   ·show((e.ext T _) T).map _=_;rw[Env.ext_same];rfl
   ·simp[execOp,Instr.makeMap,run_newObj]
  ·trivial
 |makeSlice ty l c=>show zaS W0 P e w a _ (zbL (fun m l c=>zan P T m ty l c) l c m t);refine zcW hG hT ?_;intro v u h1 h2;refine zgC (zkA hr hT0 h1 h2 ty) ?_;rfl
 |slice ty x lo hi mx=>
  show zaS W0 P e w a _ (za7 P ty x lo hi mx m t);unfold za7;split
  ·rename_i v hv;split
   ·rename_i l hl;split
    ·rename_i h hh;split
     ·rename_i q hq;refine zeu (zr0 hr.ok (zcw hG hT hv) (zkN hG hT hl) (zkN hG hT hh) (zkN hG hT hq) ty) ?_;rfl
     ·trivial
    ·trivial
   ·trivial
  ·trivial
 |fieldAddr ty x f=>show zaS W0 P e w a _ (un1 (fun _ v=>za5 P ty v f) x m t);refine zbF hG hT ?_;intro v _ h;refine zeu (zjR h ty f) ?_;rfl
 |field ty x f=>show zaS W0 P e w a _ (un1 (fun _ v=>zfx P ty v f) x m t);refine zbF hG hT ?_;intro v _ h;refine zeu (zqw h ty f) ?_;rfl
 |indexAddr ty x i=>show zaS W0 P e w a _ (zbL (fun m x i=>zai P m ty x i) x i m t);refine zcW hG hT ?_;intro v u h1 h2;refine zeu (zkB hr.ok h1 h2 ty) ?_;rfl
 |index ty x i=>show zaS W0 P e w a _ (zbL (fun _ x i=>zdK P ty x i) x i m t);refine zcW hG hT ?_;intro v u h1 h2;refine zeu (zq5 h1 h2 ty) ?_;rfl
 |lookup ty x k ok=>show zaS W0 P e w a _ (zbL (fun m x k=>zbC P m ty x k ok) x k m t);refine zcW hG hT ?_;intro v u h1 h2;refine zeu (zpr hr.ok h1 h2 ty ok) ?_;rfl
 |mapUpdate ty x k v=>show zaS W0 P e w a _ (zlm (fun m x k v=>zaM P m ty x k v) x k v m t);refine zjG hG hT ?_;intro v u s h1 h2 h3;refine zsF (zeV hr h1 h2 h3 ty) ?_;rfl
 |mapEntry ty x k=>show zaS W0 P e w a _ (zbL (fun m x k=>zb7 P m ty x k) x k m t);refine zcW hG hT ?_;intro v u h1 h2;refine zgC (zlV hr h1 h2 ty) ?_;rfl
 |entryStore ty x s v=>show zaS W0 P e w a _ (zlm (fun m x s v=>zbc m x s v) x s v m t);refine zjG hG hT ?_;intro v u s h1 h2 h3;refine zsF (ziA hr h1 h2 h3 ty) ?_;rfl
 |insert ty x k v=>show zaS W0 P e w a _ (zlm (fun m x k v=>zaM P m ty x k v) x k v m t);refine zjG hG hT ?_;intro v u s h1 h2 h3;refine zsF (zeV hr h1 h2 h3 ty) ?_;rfl
 |typeAssert x xt as ok=>show zaS W0 P e w a _ (un1 (fun _ v=>zaE P v as ok) x m t);refine zbF hG hT ?_;intro v _ h;refine zeu (ziy h xt as ok) ?_;rfl
 |extract x i=>
  refine zbF hG hT ?_;intro v _ h;unfold zea;split
  ·split
   ·rename_i u hu;rw[zbG]at hu;simp only[den,ya3]at h;obtain⟨l,hl,hq⟩:=h;obtain⟨V,h1,h2⟩:=zjy hl hu;exact⟨V,h1,by simp[execOp,Instr.extract,<- hq,h2]⟩
   ·trivial
  ·trivial
 |panic x=>
  refine zbF hG hT ?_;intro v _ h;unfold zot;split
  ·have h0:=h;simp only[den,ya3]at h;obtain⟨V,hV,hq⟩:=h;exact⟨_,h0,by simp[execOp,Instr.panic,<- hq]⟩
  ·trivial
 |call c=>
  obtain⟨callee,args,ats⟩:=c;show zaS W0 P e w a _ (zbn P T _ m t);unfold zbn;split
  ·trivial
  ·rename_i vs hvs;have hv:=zlu hG hT hvs;cases callee with
   |value f=>exact zr1 (m:=m) hG hT rfl hv
   |invoke r n=>trivial
   |builtin b=>exact znE hT0 hr rfl hv
 |defer c=>
  obtain⟨callee,args,ats⟩:=c;show zaS W0 P e w a _ (zbR _ m t);unfold zbR;split
  ·rename_i vs hvs;have hv:=zlu hG hT hvs;split
   ·rename_i f hf;simp only at hf;split
    ·rename_i fv hfv;have hd:=zcw hG hT hfv;unfold zmf;split
     ·rename_i g x y;simp only[den,yc9,ya3]at hd;obtain⟨lx,hx,ly,hy,hq⟩:=hd;refine⟨_,lx++args.toList.map a.eval,ly,rfl,zaR (zaR hx hv) hy,fun w=>?_⟩;have he:(lx++args.toList.map a.eval).toArray=lx.toArray++args.map a.eval:=by obtain⟨l⟩:=args;simp
      rw[he];simp only[resolve,hf,<- hq,Deferred.ofValue,pure_bind];rfl
     ·trivial
    ·trivial
   ·trivial
  ·trivial
 |_=>trivial
theorem ziJ{o:Oper}(hr:Rel W0 e m w)(hT:TOk e t a.tmps):zaS W0 P e w a o (cop P o.op m t):=zq0 hr.nxtZ hr hT
end Go.Cx
namespace Go.Cx
open Go Go.RowKit
variable{P:Program}{W0:Bas}
def FW(r:Option Nat):Fence:={ Fence.wide with round:=r }
theorem zdb{r:Option Nat}{n:Nat}{f:FuncId}{args:Array Value}{w:World}{R:Ending->World->Prop}(h:Calls P f args w R):CallsIn (FW r) n P f args w R:=
 (callsIn_wide (n:=n)).2 h
def zyf(e:Env):CEx->Exit->Prop
 |.normal,x=>x=.normal
 |.exit i,x=>x=.exit i
 |.goto l,x=>x=.goto l
 |.ret,x=>x=.ret
 |.panic v,x=>∃V,den e v=some V/\x=.panic [{ v:=V,recovered:=false }]
def DOk(e:Env):List CDef->List Deferred->Prop
 |[],ds=>ds=[]
 |.mark l::cs,ds=>∃b r,e l=some b/\ds={ target:=.collected b.blk,args := #[] }::r/\DOk e cs r
 |.fn f args::cs,ds=>∃x y r,denL e args=some (x++y)/\ds={ target:=.fn (.func f) y.toArray,args:=x.toArray }::r/\DOk e cs r
theorem DOk.mono{e e':Env}(h:Env.le e e'):∀{cs:List CDef} {ds:List Deferred},DOk e cs ds->DOk e' cs ds
 |[],_,hd=>hd
 |.mark l::cs,_,⟨b,r,h1,h2,h3⟩=>⟨b,r,h _ _ h1,h2,DOk.mono h h3⟩
 |.fn f args::cs,_,⟨x,y,r,h1,h2,h3⟩=>⟨x,y,r,denL_mono h _ _ h1,h2,DOk.mono h h3⟩
structure St(W0:Bas)(e:Env)(t:Tmps)(ds:List CDef)(m:Mem)(a:Act)(w:World):Prop where
 rel:Rel W0 e m w
 tok:TOk e t a.tmps
 dok:DOk e ds a.defers
def Post(W0:Bas)(e:Env)(x:CEx)(t:Tmps)(ds:List CDef)(m:Mem):Exit->Act->World->Prop:=
 fun y a w=>∃e',Env.le e e'/\zyf e' x y/\St W0 e' t ds m a w
def Rnd(e:Env)(r:Option Nat)(rr:Option Nat):Prop:=(r=none/\rr=none)\/∃l b,r=some l/\e l=some b/\rr=some b.blk
theorem Rnd.mono{e e':Env}(h:Env.le e e'){r rr:Option Nat}(hr:Rnd e r rr):Rnd e' r rr:=hr.imp id fun⟨l,b,h1,h2,h3⟩=>⟨l,b,h1,h _ _ h2,h3⟩
def zst(W0:Bas)(e:Env)(v:CV)(m:Mem)(en:Ending)(w:World):Prop:=∃e' V,Env.le e e'/\den e' v=some V/\en=.returned V/\Rel W0 e' m w
def zxR(W0:Bas)(e:Env)(v:CV)(m:Mem)(en:Ending)(w:World):Prop:=∃e' V,Env.le e e'/\den e' v=some V/\en=.panicked [{ v:=V,recovered:=false }]/\Rel W0 e' m w
def zxH(P:Program)(f:FuncId)(args:List CV)(m:Mem)(v:CV)(m':Mem):Prop:=∃t off,args=[.ptr t off]/\v=.ptr t off/\m'=m/\∀V w,(callFunc f #[V]).run P w=.ok (.value V) w
def zju(P:Program)(W0:Bas)(f:FuncId)(args:List CV)(m:Mem):Res->Prop
 |.no _=>True
 |.ret v m'=>((∀as w,(callFunc f as).run P w=.ok (.enter f as) w)/\∀e as w,denL e args=some as->Rel W0 e m w->Calls P f as.toArray w (zst W0 e v m'))\/zxH P f args m v m'
 |.pan v m'=>(∀as w,(callFunc f as).run P w=.ok (.enter f as) w)/\∀e as w,denL e args=some as->Rel W0 e m w->Calls P f as.toArray w (zxR W0 e v m')
 |.ex _ _ _ _=>False
def zif(P:Program)(W0:Bas)(f:FuncId)(args:List CV)(m:Mem):Res->Prop
 |.no _=>True
 |.ret v m'=>(∀as w,(callFunc f as).run P w=.ok (.enter f as) w)/\∀e as w n,denL e args=some as->Rel W0 e m w->CallsDIn Fence.wide n P f as.toArray .returning w fun en u' w'=>u'=.returning/\zst W0 e v m' en w'
 |_=>False
def zsp(P:Program)(W0:Bas)(f:FuncId)(args:List CV)(v:CV)(m:Mem):Res->Prop
 |.no _=>True
 |.ret u m'=>(∀as w,(callFunc f as).run P w=.ok (.enter f as) w)/\∀e as w V n,denL e args=some as->den e v=some V->Rel W0 e m w->CallsDIn Fence.wide n P f as.toArray (.panicking [{ v:=V,recovered:=false }]) w fun en u' w'=>u'=.panicking [{ v:=V,recovered:=true }]/\zst W0 e u m' en w'
 |_=>False
def zcj(P:Program)(W0:Bas)(c:Code)(t:Tmps)(ds:List CDef)(r:Option Nat)(m:Mem):Res->Prop
 |.no _=>True
 |.ex x t' ds' m'=>∀e a w rr n,Rnd e r rr->St W0 e t ds m a w->c.wpIn (FW rr) n P (Post W0 e x t' ds' m') a w
 |_=>False
def zbh(P:Program)(W0:Bas):Task->Res->Prop
 |.call f args m=>zju P W0 f args m
 |.dcall f args m=>zif P W0 f args m
 |.rcall f args v m=>zsp P W0 f args v m
 |.code c t ds r m=>zcj P W0 c t ds r m
theorem Post.from{e e1:Env}(h:Env.le e e1){x:CEx}{t:Tmps}{ds:List CDef}{m:Mem}{y:Exit}{a:Act}{w:World}(hp:Post W0 e1 x t ds m y a w):Post W0 e x t ds m y a w:=
 let ⟨e',h1,h2,h3⟩:=hp;⟨e',h.trans h1,h2,h3⟩
theorem St.mono{e e':Env}{t:Tmps}{ds:List CDef}{m m':Mem}{a:Act}{w w':World}(h:St W0 e t ds m a w)(hle:Env.le e e')(hr:Rel W0 e' m' w'):St W0 e' t ds m' a w':=
 ⟨hr,h.tok.mono hle,h.dok.mono hle⟩
theorem zd5(a:Act)(dst:Option Tmp)(v:Value):(a.put dst v).defers=a.defers:=by cases dst<;>rfl
theorem TOk.put{e:Env}{t:Tmps}{vs:Array Value}(h:TOk e t vs){v:CV}{V:Value}(hv:den e v=some V){d:Nat}(hd:d<t.sz):TOk e (t.set d v) (vs.setIfInBounds d V):=by
 refine⟨by simp[h.1,Tmps.set_sz],fun i x hx=>?_⟩;rcases Tmps.get_set hx with⟨rfl,rfl,h1⟩ |⟨h1,h2⟩
 ·exact⟨V,hv,by rw[Array.getElem?_setIfInBounds,if_pos rfl,if_pos (by rw[h.1];exact hd)]⟩
 ·obtain⟨U,h3,h4⟩:=h.2 i x h2;exact⟨U,h3,by rw[Array.getElem?_setIfInBounds,if_neg (Ne.symm h1)];exact h4⟩
theorem zga{k:KK}{d:Option Tmp}{v:CV}{t:Tmps}{ds:List CDef}{m:Mem}{x:CEx}{t':Tmps}{ds':List CDef}{m':Mem}(h:zlS k d v t ds m=.ex x t' ds' m'):
  ∃t1,k t1 ds m=.ex x t' ds' m'/\∀{e:Env} {a:Act} {w:World} {V:Value},St W0 e t ds m a w->den e v=some V->St W0 e t1 ds m (a.put d V) w:=by
 cases d with
 |none=>exact⟨t,h,fun hs _=>hs⟩
 |some d=>
  change Bool.rec (motive:=fun _=>Res) (.no _) (k (t.set d v) ds m) (Nat.ble (Nat.succ d) t.sz)=_ at h
  cases hb:Nat.ble (Nat.succ d) t.sz with
  |false=>rw[hb]at h;cases h
  |true=>
   rw[hb]at h;exact⟨t.set d v,h,fun hs hv=>⟨hs.rel,hs.tok.put hv (ya9 hb),by rw[zd5];exact hs.dok⟩⟩
theorem zcF{e:Env}{a:Act}{t:Tmps}(hT:TOk e t a.tmps){ops:Array Oper}{o:Oper}{b:Bool}(h:zaC ops.toList t o.guard=some b):Region.wanted o (yielded ops a.tmps)=b:=by
 unfold Region.wanted;generalize o.guard=g at h;unfold zaC at h;split at h
 ·cases h;rfl
 ·rename_i j want;split at h
  ·rename_i q hq;rw[zbG]at hq;have hq':ops[j]? = some q:=by simpa using hq
   split at h
   ·rename_i d hd;unfold zxm at h;split at h
    ·rename_i c hc;obtain⟨V,h1,h2⟩:=hT.2 d _ hc;obtain rfl:=zbv h1;simp only[ya0]at h;have hy:yielded ops a.tmps j=some c:=by simp[yielded,hq',hd,h2]
     show(yielded ops a.tmps j==some want)=b;rw[hy];cases c<;>cases want<;>simp_all
    ·rename_i hc;obtain⟨V,h1,h2⟩:=hT.2 d _ hc;simp only[den,denL,yc5,ya0]at h1;subst h1;simp only[ya0]at h;subst h;have hy:yielded ops a.tmps j=none:=by simp[yielded,hq',hd,h2]
     show(yielded ops a.tmps j==some want)=false;rw[hy];rfl
    ·cases h
   ·cases h
  ·cases h
theorem zao{r:Option Nat}{n:Nat}{p:Oper}{a:Act}{w:World}{next:Act->World->Prop}{Q:Exit->Act->World->Prop}(hp:∀c,p.op≠.defer c){x:Result Next}(hx:(execOp a.eval p).run P w=x)(hu:p.uponIn (FW r) n P a next Q x):p.wpIn (FW r) n P a w next Q:=by
 refine⟨fun _ _=>trivial,?_⟩;rw[Oper.semAt_eq _ _ _ hp,hx];exact hu
theorem zl9{n:Nat}{p:Oper}{a:Act}{w:World}{next:Act->World->Prop}{Q:Exit->Act->World->Prop}{x:Result Next}(hx:(execOp a.eval p).run P w=x)(hu:p.uponIn (FW none) n P a next Q x):p.wpIn (FW none) n P a w next Q:=by
 refine⟨fun _ _=>trivial,?_⟩;show p.uponIn (FW none) n P a next Q ((Oper.semAt none a.eval p).run P w)
 rw[Oper.semAt_none,hx];exact hu
end Go.Cx
namespace Go.Cx
open Go Go.RowKit
variable{P:Program}{W0:Bas}
theorem zb1{b:Nat}{r:Loop}{w:World}(h:w.heap[b]? = some (.loop r)):(Instr.getLoop b).run P w=.ok r w:=by
 simp[Instr.getLoop,getObj,Sem.run,h]
theorem zdt{b:Nat}{r:Loop}{w:World}(h:w.heap[b]? = some (.loop r))(o:Obj):(setObj b o).run P w=.ok () { w with heap:=w.heap.setIfInBounds b o }:=by simp[setObj,Sem.run,h]
theorem Rel.setLoop{e:Env}{m:Mem}{w:World}(h:Rel W0 e m w){T:Nat}{st st':LoopState}{pe pe':Option Code}{tm:Tmps}{ps:List Tmp}{asg body:Code}{d:Nat}(ho:m.get T=some (.loop st pe tm ps asg body d)){b:Blk}(hb:e T=some b):
  ∃r,w.heap[b.blk]? = some (.loop r)/\r.state=st/\r.pending=pe/\Rel W0 e (m.put T (.loop st' pe' tm ps asg body d)) { w with heap:=w.heap.setIfInBounds b.blk (.loop { r with state:=st',pending:=pe' }) }:=by
 obtain⟨b',r,db,h1,h2,h3,h4,h5,h6,h7,h8,h9,h10⟩:=h.ok _ _ ho;obtain rfl:b=b':=by rw[hb]at h1;cases h1;rfl
 have hlt:=zcH h3;refine⟨r,h3,h4,h5,h.put ho rfl rfl hb (fun k hk=>?_) (by simp) rfl rfl rfl ⟨b,{ r with state:=st',pending:=pe' },db,hb,h2,?_,rfl,rfl,h6,h7,h8,h9,h10⟩⟩
 ·show(w.heap.setIfInBounds b.blk _)[k]? = _;rw[Array.getElem?_setIfInBounds,if_neg (by omega)]
 ·show(w.heap.setIfInBounds b.blk _)[b.blk]? = _;rw[Array.getElem?_setIfInBounds,if_pos rfl,if_pos hlt]
theorem zk5{e:Env}:∀{ps:List Tmp} {vs:List CV} {us:List Value} {t t1:Tmps} {tm:Array Value},ze3 ps vs t=some t1->denL e vs=some us->TOk e t tm ->
  ps.length=us.length/\TOk e t1 ((ps.zip us).foldl (fun tmps (p:Tmp×Value)=>tmps.setIfInBounds p.1 p.2) tm)
 |[],[],us,t,t1,tm,h,hd,hT=>by
  simp only[ze3,ya0]at h;subst h;simp only[denL,ya0]at hd;subst hd;exact⟨rfl,hT⟩
 |p::ps,v::vs,us,t,t1,tm,h,hd,hT=>by
  obtain⟨V,l,h1,h2,rfl⟩:=zaj hd;unfold ze3 at h;split at h
  ·rename_i hb;have hb:p<t.sz:=by simpa[Nat.blt_eq]using hb
   obtain⟨h3,h4⟩:=zk5 h h2 (hT.put h1 hb);exact⟨by simp[h3],h4⟩
  ·cases h
 |[],_::_,_,_,_,_,h,_,_=>by simp[ze3]at h
 |_::_,[],_,_,_,_,h,_,_=>by simp[ze3]at h
def YOk(P:Program)(W0:Bas)(l:Nat)(args:List CV)(m:Mem):Res->Prop
 |.no _=>True
 |.ret v m'=>∀e as b w rr n,e l=some b->denL e args=some as->Rel W0 e m w->∃f tmps asg body,(Instr.yield b.blk as.toArray).run P w=.ok (.round b.blk f tmps asg body) w/\RoundIn (FW rr) n P b.blk f tmps asg body w (zst W0 e v m')
 |_=>False
theorem zm6{e:Env}{m:Mem}{w:World}{l:Nat}{b:Blk}{j:Option Code}{v:CV}{m':Mem}(hr:Rel W0 e m w)(hb:e l=some b)(h:zbf l m j=.ret v m'):
  ∃V w',(Instr.endRound b.blk j).run P w=.ok V w'/\zst W0 e v m' (.returned V) w':=by
 unfold zbf at h;split at h
 ·rename_i st pe t ps asg body d ho;split at h
  ·injection h with h1 h2
   subst h1;subst h2;obtain⟨r,k1,k2,k3,k4⟩:=hr.setLoop (st':=.ready) (pe':=none) ho hb;exact⟨.bool true,_,by simp[Instr.endRound,zb1 k1,zdt k1],e,.bool true,Env.le.refl e,rfl,rfl,k4⟩
  ·rename_i c;injection h with h1 h2
   subst h1;subst h2;obtain⟨r,k1,k2,k3,k4⟩:=hr.setLoop (st':=.done) (pe':=some c) ho hb;exact⟨.bool false,_,by simp[Instr.endRound,zb1 k1,zdt k1],e,.bool false,Env.le.refl e,rfl,rfl,k4⟩
 ·cases h
theorem zmb{ih:Task->Res}(hih:∀k,zbh P W0 k (ih k))(l:Nat)(args:List CV)(m:Mem):YOk P W0 l args m (zbN ih l args m):=by
 generalize hres:zbN ih l args m=res;unfold zbN at hres;split at hres
 ·rename_i st pe t ps asg body d ho;split at hres
  ·rename_i t1 hz;have hasg:=hih (.code asg t1 [] (some l) m);generalize hq:ih (.code asg t1 [] (some l) m)=q at hres hasg;unfold zjU at hres;split at hres
   ·rename_i t2 m2;split at hres
    ·rename_i pe2 t0 ps2 asg2 body2 d2 ho2;have hbody:=hih (.code body t2 [] (some l) (m2.put l (.loop .busy pe2 t0 ps2 asg2 body2 d2)));generalize hq2:ih (.code body t2 [] (some l) (m2.put l (.loop .busy pe2 t0 ps2 asg2 body2 d2)))=q2 at hres hbody;unfold zg0 at hres;split at hres
     ·rename_i x t3 ds3 m4;split at hres
      ·rename_i j hj;cases res with
       |no=>trivial
       |pan=>unfold zbf at hres;split at hres<;>first |cases hres |(split at hres<;>cases hres)
       |ex=>unfold zbf at hres;split at hres<;>first |cases hres |(split at hres<;>cases hres)
       |ret v m'=>
        intro e as b w rr n hb hd hr;obtain⟨b',r,db,h1,h2,h3,h4,h5,h6,h7,h8,h9,h10⟩:=hr.ok _ _ ho;obtain rfl:b=b':=by rw[hb]at h1;cases h1;rfl
        obtain⟨z1,z2⟩:=zk5 hz hd h6;refine⟨r.fn,(ps.zip as).foldl (fun tmps (p:Tmp×Value)=>tmps.setIfInBounds p.1 p.2) r.tmps,asg,body,?_,?_⟩
        ·have hsz:¬as.toArray.size≠r.params.size:=by rw[h7];simp[z1]
         simp only[Instr.yield,Sem.run_bind,zb1 h3,Result.andThen_ok];rw[if_neg hsz,h8,h9,h7];have hz2:(ps.toArray.zip as.toArray)=(ps.zip as).toArray:=by simp
         rw[hz2,List.foldl_toArray];rfl
        ·refine roundIn_of_wpIn trivial ?_;show asg.wpIn (FW (some b.blk)) n P _ _ w;refine wpIn_mono (hasg e { tmps:=_,defers:=[] } w (some b.blk) n (.inr ⟨l,b,rfl,hb,rfl⟩) ⟨hr,z2,rfl⟩) ?_
         ·rintro y a1 w1 ⟨e1,le1,rfl,hs1⟩;have hb1:=le1 _ _ hb;obtain⟨r2,k1,k2,k3,k4⟩:=hs1.rel.setLoop (st':=.busy) (pe':=pe2) ho2 hb1;show ∃w₂,_/\_;refine⟨{ w1 with heap:=w1.heap.setIfInBounds b.blk (.loop { r2 with state:=.busy,pending:=pe2 }) },?_,?_⟩
          ·have hpe:({ r2 with state:=.busy,pending:=pe2 }:Loop)={ r2 with state:=.busy }:=by rw[<- k3]
           rw[hpe];simp[Instr.beginRound,zb1 k1,zdt k1,k2]
          ·show body.wpIn (FW (some b.blk)) n P _ a1 _;refine wpIn_mono (hbody e1 a1 _ (some b.blk) n (.inr ⟨l,b,rfl,hb1,rfl⟩) ⟨k4,hs1.tok,hs1.dok⟩) ?_;rintro y2 a2 w2 ⟨e2,le2,hx,hs2⟩;have hb2:=le2 _ _ hb1;obtain⟨V,w',g1,g2⟩:=zm6 (P:=P) hs2.rel hb2 hres;obtain⟨e3,V2,le3,dv,hV,hr3⟩:=g2;have hback:zst W0 e v m' (.returned V) w':=⟨e3,V2,(le1.trans le2).trans le3,dv,hV,hr3⟩
           cases x with
           |normal=>
            cases hj;obtain rfl:y2=.normal:=hx;exact⟨V,w',g1,hback⟩
           |ret=>
            cases hj;obtain rfl:y2=.ret:=hx;exact⟨V,w',g1,hback⟩
           |exit i=>
            cases hj;obtain rfl:y2=.exit i:=hx;exact⟨V,w',g1,hback⟩
           |goto i=>
            cases hj;obtain rfl:y2=.goto i:=hx;exact⟨V,w',g1,hback⟩
           |panic v=>cases hj
      ·subst hres;trivial
     ·subst hres;trivial
     ·rename_i hn1 hn2;subst hres;trivial
    ·subst hres;trivial
   ·subst hres;trivial
   ·subst hres;trivial
  ·subst hres;trivial
 ·subst hres;trivial
end Go.Cx
namespace Go.Cx
open Go Go.RowKit
variable{P:Program}{W0:Bas}
theorem zdP{m:Mem}{t:Tmps}{op:Op}{c:Call}(h:op=.defer c):(∃w,cop P op m t=.no w)\/∃f args,cop P op m t=.defer f args:=by
 subst h;show(∃w,zbR c m t=.no w)\/∃f args,zbR c m t=.defer f args;unfold zbR;split
 ·split
  ·split
   ·unfold zmf;split
    ·exact .inr ⟨_,_,rfl⟩
    ·exact .inl ⟨_,rfl⟩
   ·exact .inl ⟨_,rfl⟩
  ·exact .inl ⟨_,rfl⟩
 ·exact .inl ⟨_,rfl⟩
def zuF:Res->Prop
 |.no _=>True
 |.ex _ _ _ _=>True
 |_=>False
theorem zc4{k:KK}(hk:∀t ds m,zuF (k t ds m))(d:Option Tmp)(v:CV)(t:Tmps)(ds:List CDef)(m:Mem):zuF (zlS k d v t ds m):=by
 cases d with
 |none=>exact hk t ds m
 |some d=>
  change zuF (Bool.rec (motive:=fun _=>Res) (.no _) (k (t.set d v) ds m) (Nat.ble (Nat.succ d) t.sz))
  cases Nat.ble (Nat.succ d) t.sz with
  |false=>trivial
  |true=>exact hk _ _ _
theorem zpI{ih:Task->Res}{r:Option Nat}{k:KK}(hk:∀t ds m,zuF (k t ds m))(dst:Option Tmp)(t:Tmps)(ds:List CDef)(m:Mem)(out:COut):zuF (after ih r k dst t ds m out):=by
 unfold after;split
 ·exact zc4 hk _ _ _ _ _
 ·exact zc4 hk _ _ _ _ _
 ·unfold zjL;split
  ·exact zc4 hk _ _ _ _ _
  ·trivial
  ·trivial
  ·trivial
 ·unfold zsr;split
  ·exact zc4 hk _ _ _ _ _
  ·trivial
  ·trivial
 ·split
  ·exact zc4 hk _ _ _ _ _
  ·trivial
 ·trivial
 ·trivial
 ·trivial
theorem zez{ih:Task->Res}{ops:List Oper}{r:Option Nat}:∀(l:List Oper) (t:Tmps) (ds:List CDef) (m:Mem),zuF (zdg P ih ops r l t ds m)
 |[],_,_,_=>trivial
 |o::os,t,ds,m=>by
  show zuF (zcR P ih ops r o (zdg P ih ops r os) t ds m);unfold zcR;split
  ·exact zpI (fun t ds m=>zez os t ds m) _ _ _ _ _
  ·exact zc4 (fun t ds m=>zez os t ds m) _ _ _ _ _
  ·trivial
theorem zsP{ih:Task->Res}(hih:∀k,zbh P W0 k (ih k)){r:Option Nat}{k:KK}{o:Oper}{t:Tmps}{ds:List CDef}{m:Mem}{x:CEx}{t':Tmps}{ds':List CDef}{m':Mem}
  {e0:Env} {rr:Option Nat} {n:Nat} {K:Act->World->Prop} {e:Env} {a:Act} {w:World} (hle:Env.le e0 e) (hR:Rnd e r rr) (hs:St W0 e t ds m a w)
  (hk:∀(t1:Tmps) (ds1:List CDef) (m1:Mem) (e1:Env) (a1:Act) (w1:World),Env.le e0 e1->Rnd e1 r rr->k t1 ds1 m1=.ex x t' ds' m'->St W0 e1 t1 ds1 m1 a1 w1->K a1 w1)
  (h:after ih r k o.dst t ds m (cop P o.op m t)=.ex x t' ds' m'):o.wpIn (FW rr) n P a w K (Post W0 e0 x t' ds' m'):=by
 have hout:=ziJ (P:=P) (o:=o) hs.rel hs.tok;have hnd:(∀w,cop P o.op m t≠.no w)->(∀f args,cop P o.op m t≠.defer f args)->∀c,o.op≠.defer c:=fun h1 h2 c hc=>by
  rcases zdP (P:=P) (m:=m) (t:=t) hc with⟨w,hw⟩ |⟨f,args,hf⟩
  ·exact h1 w hw
  ·exact h2 f args hf
 generalize hq:cop P o.op m t=out at *;cases out with
 |no w=>cases h
 |recover=>cases h
 |val v=>
  obtain⟨V,hV,hrun⟩:=hout;obtain⟨t1,h1,h2⟩:=zga h;exact zao (hnd (by simp) (by simp)) hrun (hk t1 ds m e _ w hle hR h1 (h2 hs hV))
 |mem v m1=>
  obtain⟨e1,V,w1,le1,hV,hr1,hrun⟩:=hout;obtain⟨t1,h1,h2⟩:=zga h;have hst:=h2 (hs.mono le1 hr1) hV;rcases hrun with hrun |⟨hrun,rfl⟩
  ·exact zao (hnd (by simp) (by simp)) hrun (hk t1 ds m1 e1 _ w1 (hle.trans le1) (hR.mono le1) h1 hst)
  ·exact zao (hnd (by simp) (by simp)) hrun (hk t1 ds m1 e1 _ w1 (hle.trans le1) (hR.mono le1) h1 hst)
 |call f args=>
  obtain⟨as,has,hrun⟩:=hout;have hcall:=hih (.call f args m)
  change zjL k o.dst t ds (ih (.call f args m))=_ at h
  generalize ih (.call f args m)=res at h hcall;cases res with
  |no w=>cases h
  |ex=>cases h
  |ret v m1=>
   obtain⟨t1,h1,h2⟩:=zga h;rcases hcall with⟨henter,hc⟩ |⟨t0,off,rfl,rfl,rfl,hv⟩
   ·refine zao (hnd (by simp) (by simp)) (hrun.trans (henter _ _)) ?_;refine⟨fun hd=>by simp[FW,Fence.wide]at hd,zdb ((hc e as w has hs.rel).mono ?_)⟩;rintro en w1 ⟨e1,V,le1,hV,rfl,hr1⟩;exact hk t1 ds m1 e1 _ w1 (hle.trans le1) (hR.mono le1) h1 (h2 (hs.mono le1 hr1) hV)
   ·obtain⟨V,l,hV,h5,rfl⟩:=zaj has;simp only[denL,ya0]at h5;subst h5;exact zao (hnd (by simp) (by simp)) (hrun.trans (hv V w)) (hk t1 ds m1 e _ w hle hR h1 (h2 hs hV))
  |pan v m1=>
   obtain⟨henter,hc⟩:=hcall;cases h;refine zao (hnd (by simp) (by simp)) (hrun.trans (henter _ _)) ?_;refine⟨fun hd=>by simp[FW,Fence.wide]at hd,zdb ((hc e as w has hs.rel).mono ?_)⟩;rintro en w1 ⟨e1,V,le1,hV,rfl,hr1⟩;exact⟨e1,hle.trans le1,⟨V,hV,rfl⟩,hs.mono le1 hr1⟩
 |yield l args=>
  obtain⟨as,b,has,hb,hrun⟩:=hout;have hy:=zmb hih l args m
  change zsr k o.dst t ds (zbN ih l args m)=_ at h
  generalize zbN ih l args m=res at h hy;cases res with
  |no w=>cases h
  |ex=>cases h
  |pan=>cases h
  |ret v m1=>
   obtain⟨t1,h1,h2⟩:=zga h;obtain⟨f,tmps,asg,body,k1,k2⟩:=hy e as b w rr (n - 1) hb has hs.rel;refine zao (hnd (by simp) (by simp)) (hrun.trans k1) ?_;refine⟨fun hd=>by simp[FW,Fence.wide]at hd,k2.mono ?_⟩;rintro en w1 ⟨e1,V,le1,hV,rfl,hr1⟩;exact hk t1 ds m1 e1 _ w1 (hle.trans le1) (hR.mono le1) h1 (h2 (hs.mono le1 hr1) hV)
 |defer f args=>
  obtain⟨c,y,z,hop,hd,hres⟩:=hout
  change (match r with |none=>zlS k o.dst zam t (.fn f args::ds) m |some _=>Res.no _)=_ at h
  cases r with
  |some l=>cases h
  |none=>
   obtain⟨t1,h1,h2⟩:=zga h;rcases hR with⟨_,rfl⟩ |⟨l,b,hq,_⟩
   ·have hrun:(execOp a.eval o).run P w=.ok (.defer { target:=.fn (.func f) z.toArray,args:=y.toArray }) w:=by
     simp only[execOp,hop,Sem.run_bind,hres,Result.andThen_ok];rfl
    refine zl9 hrun ?_;have hst:St W0 e t (.fn f args::ds) m { a with defers:={ target:=.fn (.func f) z.toArray,args:=y.toArray }::a.defers } w:=⟨hs.rel,hs.tok,⟨y,z,a.defers,hd,rfl,hs.dok⟩⟩
    exact hk t1 _ m e _ w hle (.inl ⟨rfl,rfl⟩) h1 (h2 hst rfl)
   ·cases hq
 |panic v=>
  obtain⟨V,hV,hrun⟩:=hout;cases h;refine zao (hnd (by simp) (by simp)) hrun ?_;exact⟨e,hle,⟨V,hV,rfl⟩,hs⟩
theorem zhn{ih:Task->Res}(hih:∀k,zbh P W0 k (ih k))(ops:Array Oper)(r:Option Nat){x:CEx}{t':Tmps}{ds':List CDef}{m':Mem}{e0:Env}{rr:Option Nat}{n:Nat}:
  ∀(l:List Oper) (t:Tmps) (ds:List CDef) (m:Mem) (e:Env) (a:Act) (w:World),Env.le e0 e->Rnd e r rr->St W0 e t ds m a w->zdg P ih ops.toList r l t ds m=.ex x t' ds' m'->wpListIn (FW rr) n P ops (Post W0 e0 x t' ds' m') l a w
 |[],t,ds,m,e,a,w,hle,hR,hs,h=>by
  change Res.ex .normal t ds m=.ex x t' ds' m' at h
  cases h;exact⟨e,hle,rfl,hs⟩
 |o::os,t,ds,m,e,a,w,hle,hR,hs,h=>by
  change zcR P ih ops.toList r o (zdg P ih ops.toList r os) t ds m=_ at h
  unfold zcR at h;unfold wpListIn;split at h
  ·rename_i hg;rw[if_pos (zcF hs.tok hg)];exact zsP hih hle hR hs (fun t1 ds1 m1 e1 a1 w1 le1 hR1 hk hs1=>zhn hih ops r os t1 ds1 m1 e1 a1 w1 le1 hR1 hs1 hk) h
  ·rename_i hg;rw[if_neg (by rw[zcF hs.tok hg];simp)];obtain⟨t1,h1,h2⟩:=zga h;exact⟨fun _ _=>trivial,zhn hih ops r os t1 ds m e _ w hle hR (h2 hs rfl) h1⟩
  ·cases h
end Go.Cx
namespace Go.Cx
open Go Go.RowKit
variable{P:Program}{W0:Bas}
def zr4(tmps:Array Value):ResultVar->Sem Value
 |.tmp d=>pure (tmps.getD d undef)
 |.cell x ty=>do loadVar ty (<- asAddr (tmps.getD x undef))
theorem zqI{vs:Array Value}{i:Nat}{V:Value}(h:vs[i]? = some V):vs.getD i undef=V:=by simp[Array.getD_eq_getD_getElem?,h]
theorem zmJ{e:Env}{t:Tmps}{tmps:Array Value}{m:Mem}{w:World}(hT:TOk e t tmps)(hr:Rel W0 e m w):∀{l:List ResultVar} {vs:List CV},zmq P t m l=some vs ->
  ∃us,denL e vs=some us/\(l.mapM (zr4 tmps)).run P w=.ok us w
 |[],vs,h=>by
  simp only[zmq,ya0]at h;subst h;exact⟨[],rfl,rfl⟩
 |.tmp i::rs,vs,h=>by
  unfold zmq at h;split at h
  ·rename_i v hv;split at h
   ·rename_i us hus;simp only[ya0]at h;subst h;obtain⟨V,h1,h2⟩:=hT.2 i v hv;obtain⟨l,h3,h4⟩:=zmJ hT hr hus;refine⟨V::l,zar h1 h3,?_⟩;simp only[List.mapM_cons,zr4,pure_bind,Sem.run_bind,h4,Result.andThen_ok,zqI h2];rfl
   ·cases h
  ·cases h
 |.cell x ty::rs,vs,h=>by
  unfold zmq at h;split at h
  ·rename_i p hp;split at h
   ·rename_i v hv;split at h
    ·rename_i us hus;simp only[ya0]at h;subst h;obtain⟨X,h1,h2⟩:=hT.2 x p hp;obtain⟨l,h3,h4⟩:=zmJ hT hr hus;have hld:=znP (P:=P) (w:=w) hr.ok h1 ty;rw[hv]at hld;obtain⟨V,h5,h6⟩:=hld;refine⟨V::l,zar h5 h3,?_⟩;have hX:∃ad,X=.pointer (some ad):=by
      unfold zdC at hv;split at hv
      ·obtain⟨b,hb,rfl⟩:=zig h1;exact⟨_,rfl⟩
      ·cases hv
     obtain⟨ad,rfl⟩:=hX;simp only[Instr.loadAt,Instr.sureAddr,Sem.run_bind,Sem.run_pure,Result.andThen_ok]at h6;simp only[List.mapM_cons,zr4,Sem.run_bind,zqI h2,asAddr,Sem.run_pure,Result.andThen_ok,h6,h4]
    ·cases h
   ·cases h
  ·cases h
theorem zfX{e:Env}{t:Tmps}{tmps:Array Value}{m:Mem}{w:World}(hT:TOk e t tmps)(hr:Rel W0 e m w){fn:Func}{vs:List CV}(h:zmq P t m fn.results.toList=some vs):
  ∃V,den e (zic vs)=some V/\(results fn tmps).run P w=.ok V w:=by
 obtain⟨us,h1,h2⟩:=zmJ hT hr h;have h3:(fn.results.mapM (zr4 tmps)).run P w=.ok us.toArray w:=by
  rw[Array.mapM_eq_mapM_toList,Sem.run_map,h2];rfl
 have h4:(results fn tmps).run P w=((fn.results.mapM (zr4 tmps)).run P w).andThen fun vs w'=>.ok (if h:vs.size=1 then vs[0]else .tuple vs) w':=by
  unfold results;rw[Sem.run_bind];rfl
 rw[h4,h3];simp only[Result.andThen_ok]
 match vs,us,h1 with
 |[],us,h1=>
  simp only[denL,ya0]at h1;subst h1;exact⟨.tuple #[],rfl,by simp⟩
 |[x],us,h1=>
  obtain⟨V,l,k1,k2,rfl⟩:=zaj h1;simp only[denL,ya0]at k2;subst k2;exact⟨V,k1,by simp⟩
 |x::y::r,us,h1=>
  have hl:=zad h1;refine⟨.tuple us.toArray,by simp[zic,den,h1],?_⟩;have:¬us.toArray.size=1:=by simp[hl]
  rw[dif_neg this]
theorem zaF{f:FuncId}{fn:Func}{c:Code}(hf:P.funcs[f]? = some fn)(hb:fn.body=some c)(hn:ze6 fn=true)(as:Array Value)(w:World):(callFunc f as).run P w=.ok (.enter f as) w:=by
 have hn':(fn.name == "runtime.NumGoroutine")=false:=by
  unfold ze6 at hn;split at hn
  ·cases hn
  ·assumption
 have hn2:¬fn.name = "runtime.NumGoroutine" := by simpa using hn'
 simp[callFunc,hf,hb,hn2]
theorem zln{e:Env}:∀{vs:List CV} {us:List Value} {i:Nat} {tr:Tr CV} {tmps:Array Value},denL e vs=some us ->
  (∀(j:Nat) (x:CV),tr.get j=some x->j<i/\∃v,den e x=some v/\tmps[j]? = some v)->(∀j,j<us.length->tmps[i+j]? = us[j]?)->∀(j:Nat) (x:CV),(zb6 i vs tr).get j=some x->∃v,den e x=some v/\tmps[j]? = some v
 |[],us,i,tr,tmps,hd,h1,h2,j,x,hx=>(h1 j x hx).2
 |v::vs,us,i,tr,tmps,hd,h1,h2,j,x,hx=>by
  obtain⟨V,l,k1,k2,rfl⟩:=zaj hd;refine zln (i:=i+1) (tr:=tr.set (i+1) i (some v)) (tmps:=tmps) k2 (fun j x hx=>?_) (fun j hj=>?_) j x hx
  ·rw[Tr.get_set _ _ _ _ _ (by omega)]at hx;by_cases hq:j=i
   ·rw[if_pos hq]at hx;cases hx;subst hq;refine⟨by omega,V,k1,?_⟩;have:=h2 0 (by simp);simpa using this
   ·rw[if_neg hq]at hx;obtain⟨q1,q2⟩:=h1 j x hx;exact⟨by omega,q2⟩
  ·have:=h2 (j+1) (by simp;omega);rw[show i+1+j=i+(j+1)by omega,this];simp
theorem zkD{e:Env}{args:List CV}{as:List Value}{n:Nat}(hd:denL e args=some as)(hl:args.length<=n):TOk e ⟨n,zb6 0 args .nil⟩ (as.toArray++Array.replicate (n - as.toArray.size) undef):=by
 have hlen:=zad hd;refine⟨by simp;omega,fun i x hx=>?_⟩;obtain⟨h1,h2⟩:=Tmps.get_some hx;refine zln hd (fun j x hx=>by simp[Tr.get_nil]at hx) (fun j hj=>?_) i x h2;rw[Nat.zero_add,Array.getElem?_append_left (by simpa using hj)];simp
theorem zvo{e:Env}{m:Mem}{w:World}(h:Rel W0 e m w){l:Nat}(ho:m.get l=some (.dfr true)){b:Blk}(hb:e l=some b):
  ∃w',(Instr.takeDeferred b.blk).run P w=.ok [] w'/\Rel W0 e (m.put l (.dfr false)) w':=by
 obtain⟨b',h1,h2⟩:=h.ok _ _ ho;obtain rfl:b=b':=by rw[hb]at h1;cases h1;rfl
 have hlt:=zcH h2;have h2':w.heap[b.blk]? = some (.deferred (some [])):=h2;refine⟨{ w with heap:=w.heap.setIfInBounds b.blk (.deferred none) },?_,h.put ho rfl rfl hb (fun k hk=>?_) (by simp) rfl rfl rfl ⟨b,hb,?_⟩⟩
 ·simp[Instr.takeDeferred,getObj,setObj,Sem.run,h2']
 ·show(w.heap.setIfInBounds b.blk _)[k]? = _;rw[Array.getElem?_setIfInBounds,if_neg (by omega)]
 ·show(w.heap.setIfInBounds b.blk _)[b.blk]? = _;rw[Array.getElem?_setIfInBounds,if_pos rfl,if_pos hlt]
theorem zeU{ih:Task->Res}(hih:∀k,zbh P W0 k (ih k)){fn:Func}{t:Tmps}{e0:Env}{v:CV}{m':Mem}{n:Nat}:∀{ds:List CDef} {m:Mem} {e:Env} {a:Act} {w:World},Env.le e0 e->St W0 e t ds m a w ->
  leave P ih fn.results.toList t ds m=.ret v m'->LeavesInM Fence.wide n P fn a.tmps (zst W0 e0 v m') a.defers .returning w
 |[],m,e,a,w,hle,hs,h=>by
  obtain⟨hr,hT,hd⟩:=hs;have hd:a.defers=[]:=hd;have h':(match zmq P t m fn.results.toList with |some vs=>Res.ret (zic vs) m |none=>.no _)=.ret v m':=h;split at h'
  ·rename_i vs hvs;injection h' with h1 h2
   subst h1;subst h2;obtain⟨V,k1,k2⟩:=zfX hT hr hvs;obtain⟨ts,dfs⟩:=a;simp only at hd;subst hd;exact⟨V,k2,e,V,hle,k1,rfl,hr⟩
  ·cases h'
 |.mark l::ds,m,e,a,w,hle,hs,h=>by
  obtain⟨hr,hT,b,r,hb,hda,hd⟩:=hs;have h':(match m.get l with |some (.dfr true)=>leave P ih fn.results.toList t ds (m.put l (.dfr false)) |_=>.no _)=.ret v m':=h;split at h'
  ·rename_i ho;obtain⟨w',k1,k2⟩:=zvo (P:=P) hr ho hb;rw[hda];refine⟨by simp,.inl ⟨b.blk,w',rfl,k1,?_⟩⟩;exact zeU (a:={ tmps:=a.tmps,defers:=r }) hih hle ⟨k2,hT,hd⟩ h'
  ·cases h'
 |.fn f args::ds,m,e,a,w,hle,hs,h=>by
  obtain⟨hr,hT,x,y,r,hx,hda,hd⟩:=hs;have h':zhq (leave P ih fn.results.toList t ds) (ih (.dcall f args m))=.ret v m':=h;have hc:=hih (.dcall f args m);generalize ih (.dcall f args m)=res at h' hc;cases res with
  |no=>cases h'
  |pan=>cases h'
  |ex=>cases h'
  |ret u m1=>
   obtain⟨henter,hc⟩:=hc;rw[hda];refine⟨by simp,.inr ⟨fun hd=>by simp[Fence.wide]at hd,.func f,y.toArray,f,(x++y).toArray,rfl,?_,fun _ _=>trivial,?_⟩⟩
   ·show(callFunc f (x.toArray++y.toArray)).run P w=_;rw[henter];simp
   ·have hcd:=hc e (x++y) w (n - 1) hx hr;refine⟨hcd.1,fun c cs hc1 hroom=>?_⟩;obtain⟨en,u',w',fr,⟨hu,e1,V,le1,hV,rfl,hr1⟩,hcomes⟩:=hcd.2 c cs hc1 hroom;refine⟨.returned V,u',w',fr,?_,hcomes⟩;subst hu;show LeavesInM Fence.wide n P fn a.tmps (zst W0 e0 v m') r (settle .returning) w';exact zeU (a:={ tmps:=a.tmps,defers:=r }) hih (hle.trans le1) ⟨hr1,hT.mono le1,hd.mono le1⟩ h'
theorem zb2{ih:Task->Res}{rs:List ResultVar}{t:Tmps}:∀(ds:List CDef) (m:Mem),(∃w,leave P ih rs t ds m=.no w)\/∃v m',leave P ih rs t ds m=.ret v m'
 |[],m=>by
  have key:leave P ih rs t [] m=(match zmq P t m rs with |some vs=>Res.ret (zic vs) m |none=>.no _):=rfl;rw[key];split
  ·exact .inr ⟨_,_,rfl⟩
  ·exact .inl ⟨_,rfl⟩
 |.mark l::ds,m=>by
  have key:leave P ih rs t (.mark l::ds) m=(match m.get l with |some (.dfr true)=>leave P ih rs t ds (m.put l (.dfr false)) |_=>.no _):=rfl;rw[key];split
  ·exact zb2 ds _
  ·exact .inl ⟨_,rfl⟩
 |.fn f args::ds,m=>by
  have key:leave P ih rs t (.fn f args::ds) m=zhq (leave P ih rs t ds) (ih (.dcall f args m)):=rfl;rw[key];unfold zhq;split
  ·exact zb2 ds _
  ·exact .inl ⟨_,rfl⟩
  ·exact .inl ⟨_,rfl⟩
theorem zdi{ih:Task->Res}{rs:List ResultVar}{t:Tmps}{ds:List CDef}{m m':Mem}{v:CV}(h:leave P ih rs t ds m=.pan v m'):False:=by
 rcases zb2 (P:=P) (ih:=ih) (rs:=rs) (t:=t) ds m with⟨w,hw⟩ |⟨v,m',hw⟩<;>rw[hw]at h<;>cases h
theorem zdJ{ih:Task->Res}{rs:List ResultVar}{t t':Tmps}{ds ds':List CDef}{m m':Mem}{x:CEx}(h:leave P ih rs t ds m=.ex x t' ds' m'):False:=by
 rcases zb2 (P:=P) (ih:=ih) (rs:=rs) (t:=t) ds m with⟨w,hw⟩ |⟨v,m',hw⟩<;>rw[hw]at h<;>cases h
theorem zvJ{fn:Func}(hn:fn.name = "internal/abi.NoEscape")(ho:fn.origin = ""):Extern.findNext fn=none:=by
 unfold Extern.findNext;rw[hn,ho];have h1:Extern.allNextRows.lookup "internal/abi.NoEscape" = none:=by kernel_rfl
 have h2:Extern.allNextRows.lookup "" = none:=by kernel_rfl
 simp only[h1,h2];rfl
theorem zvF{fn:Func}(hn:fn.name = "internal/abi.NoEscape"):Extern.find fn=some Extern.AbiNoEscape.same:=by
 unfold Extern.find;rw[hn];have h1:Extern.allGenericRows.lookup "internal/abi.NoEscape" = none:=by kernel_rfl
 have h2:Extern.allTypedRows.lookup "internal/abi.NoEscape" = none:=by kernel_rfl
 have h3:Extern.allRows.lookup "internal/abi.NoEscape" = some Extern.AbiNoEscape.same:=by kernel_rfl
 simp only[h1,h2,h3];rfl
theorem zsM{ih:Task->Res}(hih:∀k,zbh P W0 k (ih k))(f:FuncId)(args:List CV)(m:Mem):zju P W0 f args m (ztl P ih args m P.funcs[f]?):=by
 generalize hfn:P.funcs[f]? = q;cases q with
 |none=>trivial
 |some fn=>
  show zju P W0 f args m (match fn.body with
   |some c=>zb4 P ih fn args m (zdq P ih fn.results.toList) (some c)
   |none=>zwD fn m args)
  generalize hb:fn.body=bd;cases bd with
  |none=>
   show zju P W0 f args m (zwD fn m args);unfold zwD;split
   ·rename_i t off;split
    ·rename_i hn;simp only[ya2,beq_iff_eq]at hn;obtain⟨hn,ho⟩:=hn;refine .inr ⟨t,off,rfl,rfl,rfl,fun V w=>?_⟩;rw[run_callFunc_extern (e:=Extern.AbiNoEscape.same) hfn (by rw[hn];decide) (by rw[hb];rfl) (zvJ hn ho) (zvF hn)];rfl
    ·trivial
   ·trivial
  |some c=>
   unfold zb4;simp only;split
   ·rename_i hc;simp only[ya2]at hc;have hl:=ya9 hc.1;have henter:=zaF hfn hb hc.2;have hcode:=hih (.code c ⟨fn.ntmps,zb6 0 args .nil⟩ [] none m);generalize ih (.code c ⟨fn.ntmps,zb6 0 args .nil⟩ [] none m)=res at hcode;have body:∀{x:CEx} {t:Tmps} {ds:List CDef} {m1:Mem},zcj P W0 c ⟨fn.ntmps,zb6 0 args .nil⟩ [] none m (.ex x t ds m1)->∀e as w (R:Ending->World->Prop),denL e args=some as->Rel W0 e m w ->
      (∀y a w',Post W0 e x t ds m1 y a w'->bodyPostM Fence.wide 0 P fn R y a w')->Calls P f as.toArray w R:=fun hco e as w R has hr hpost=>by
     refine callsIn_wide.1 (callsIn_of_wp_marks (F:=Fence.wide) (n:=0) hfn hb trivial ?_);exact wpIn_mono (hco e { tmps:=_,defers:=[] } w none 0 (.inl ⟨rfl,rfl⟩) ⟨hr,zkD has hl,rfl⟩) hpost
    unfold zdq;split
    ·rename_i t ds m1;generalize hlv:leave P ih fn.results.toList t ds m1=lv;cases lv with
     |no=>trivial
     |pan=>exact(zdi hlv).elim
     |ex=>exact(zdJ hlv).elim
     |ret v m'=>
      refine .inl ⟨henter,fun e as w has hr=>body hcode e as w _ has hr ?_⟩;rintro y a w' ⟨e1,le1,rfl,hs⟩;exact zeU hih le1 hs hlv
    ·rename_i t ds m1;generalize hlv:leave P ih fn.results.toList t ds m1=lv;cases lv with
     |no=>trivial
     |pan=>exact(zdi hlv).elim
     |ex=>exact(zdJ hlv).elim
     |ret v m'=>
      refine .inl ⟨henter,fun e as w has hr=>body hcode e as w _ has hr ?_⟩;rintro y a w' ⟨e1,le1,rfl,hs⟩;exact zeU hih le1 hs hlv
    ·rename_i v t m1;refine⟨henter,fun e as w has hr=>body hcode e as w _ has hr ?_⟩;rintro y a w' ⟨e1,le1,⟨V,hV,rfl⟩,hs⟩;have hd:a.defers=[]:=hs.dok;show LeavesInM Fence.wide 0 P fn a.tmps _ a.defers (.panicking _) w';rw[hd];exact⟨e1,V,le1,hV,rfl,hs.rel⟩
    ·rename_i v t f2 args2 ds m1;have hrc:=hih (.rcall f2 args2 v m1);generalize ih (.rcall f2 args2 v m1)=rres at hrc;unfold zhq;cases rres with
     |no=>trivial
     |pan=>exact hrc.elim
     |ex=>exact hrc.elim
     |ret u m2=>
      simp only;generalize hlv:leave P ih fn.results.toList t ds m2=lv;cases lv with
      |no=>trivial
      |pan=>exact(zdi hlv).elim
      |ex=>exact(zdJ hlv).elim
      |ret v2 m3=>
       obtain⟨henter2,hc2⟩:=hrc;refine .inl ⟨henter,fun e as w has hr=>body hcode e as w _ has hr ?_⟩;rintro y a w' ⟨e1,le1,⟨V,hV,rfl⟩,hs⟩;obtain⟨hr1,hT,x,z,r,hx,hda,hd⟩:=hs;show LeavesInM Fence.wide 0 P fn a.tmps _ a.defers (.panicking _) w';rw[hda];refine⟨by simp,.inr ⟨fun hd=>by simp[Fence.wide]at hd,.func f2,z.toArray,f2,(x++z).toArray,rfl,?_,fun _ _=>trivial,?_⟩⟩
       ·show(callFunc f2 (x.toArray++z.toArray)).run P w'=_;rw[henter2];simp
       ·have hcd:=hc2 e1 (x++z) w' V (0 - 1) hx hV hr1;refine⟨hcd.1,fun c cs hc1 hroom=>?_⟩;obtain⟨en,u',w2,fr,⟨hu,e2,V2,le2,hV2,rfl,hr2⟩,hcomes⟩:=hcd.2 c cs hc1 hroom;refine⟨.returned V2,u',w2,fr,?_,hcomes⟩;subst hu;show LeavesInM Fence.wide 0 P fn a.tmps _ r (settle (.panicking [{ v:=V,recovered:=true }])) w2;exact zeU (a:={ tmps:=a.tmps,defers:=r }) hih (le1.trans le2) ⟨hr2,hT.mono le2,hd.mono le2⟩ hlv
    ·trivial
    ·trivial
   ·trivial
end Go.Cx
namespace Go.Cx
open Go Go.RowKit
variable{P:Program}{W0:Bas}
theorem zhf(m j:Nat):zak m j=m.testBit j:=by
 show Nat.beq ((m >>> j)&&&1) 1=m.testBit j;unfold Nat.testBit;rw[Nat.and_comm];have h:(1&&&m >>> j)=0\/(1&&&m >>> j)=1:=by
  rw[Nat.and_comm,Nat.and_one_is_mod];omega
 rcases h with h |h<;>rw[h]<;>rfl
theorem zb5(a b j:Nat):zak (Nat.lor a b) j=(zak a j||zak b j):=by
 rw[zhf,zhf,zhf];exact Nat.testBit_or a b j
theorem zj6(k j:Nat):zak (Nat.shiftLeft 1 k) j=decide (k=j):=by
 rw[zhf];show(1 <<< k).testBit j=_;rw[Nat.testBit_shiftLeft];by_cases h:k=j
 ·subst h;simp
 ·by_cases h1:k<=j
  ·have:(1:Nat).testBit (j - k)=false:=by
    have hp:j - k=(j - k - 1)+1:=by omega
    rw[hp,Nat.testBit_succ];simp
   simp[h,this]
  ·simp[h,h1]
theorem zdN(j:Nat):zak 0 j=false:=by rw[zhf];exact Nat.zero_testBit j
theorem zd0(e:Edge):zpN e.ground=Region.binds .any e:=by
 unfold Region.binds;cases e.ground<;>rfl
def zxj(ops:Array Oper)(L:Nat->Prop):Prop:=∀i o,ops[i]? = some o->L i->∀e∈o.after,Region.binds .any e=true->L e.on
theorem ze8{bs:List Nat}:∀{es:List Edge} {B:Nat},zcU bs es=some B->(∀e∈es,zpN e.ground=true->e.on<bs.length) /\
  (∀j,zak B j=true->∃e∈es,zpN e.ground=true/\(j=e.on\/∃b,bs[e.on]? = some b/\zak b j=true)) /\
  (∀e∈es,zpN e.ground=true->zak B e.on=true/\∀b,bs[e.on]? = some b->∀j,zak b j=true->zak B j=true)
 |[],B,h=>by
  simp only[zcU,ya0]at h;subst h;exact⟨by simp,(fun j hj=>by rw[zdN]at hj;cases hj),by simp⟩
 |e::es,B,h=>by
  unfold zcU at h;split at h
  ·cases h
  ·rename_i r hr;obtain⟨h1,h2,h3⟩:=ze8 hr;split at h
   ·rename_i hb;simp only[ya0]at h;subst h;refine⟨fun e' he hb'=>?_,fun j hj=>?_,fun e' he hb'=>?_⟩
    ·rcases List.mem_cons.1 he with rfl |he
     ·rw[hb]at hb';cases hb'
     ·exact h1 e' he hb'
    ·obtain⟨e',q1,q2⟩:=h2 j hj;exact⟨e',ya4 _ q1,q2⟩
    ·rcases List.mem_cons.1 he with rfl |he
     ·rw[hb]at hb';cases hb'
     ·exact h3 e' he hb'
   ·rename_i hb;split at h
    ·rename_i b hbb;rw[zbG]at hbb;simp only[ya0]at h;subst h;refine⟨fun e' he hb'=>?_,fun j hj=>?_,fun e' he hb'=>?_⟩
     ·rcases List.mem_cons.1 he with rfl |he
      ·exact(List.getElem?_eq_some_iff.1 hbb).1
      ·exact h1 e' he hb'
     ·rw[zb5,zb5,zj6,Bool.or_eq_true,Bool.or_eq_true,decide_eq_true_eq]at hj;rcases hj with(hj |hj) |hj
      ·exact⟨e,ya5 ..,hb,.inl hj.symm⟩
      ·exact⟨e,ya5 ..,hb,.inr ⟨b,hbb,hj⟩⟩
      ·obtain⟨e',q1,q2⟩:=h2 j hj;exact⟨e',ya4 _ q1,q2⟩
     ·rcases List.mem_cons.1 he with rfl |he
      ·refine⟨by rw[zb5,zb5,zj6];simp,fun b' hb' j hj=>?_⟩;rw[hbb]at hb';cases hb';rw[zb5,zb5,hj];simp
      ·obtain⟨q1,q2⟩:=h3 e' he hb';exact⟨by rw[zb5,q1];simp,fun b' hb' j hj=>by rw[zb5,q2 b' hb' j hj];simp⟩
    ·cases h
structure MaskOk(ops:Array Oper)(i B:Nat):Prop where
 low:∀o,ops[i]? = some o->∀e∈o.after,Region.binds .any e=true->e.on<i
 anc:∀L,zxj ops L->(∀o,ops[i]? = some o->∀e∈o.after,Region.binds .any e=true->L e.on)->∀j,zak B j=true->L j
 lt:∀j,zak B j=true->j<i
 own:∀o,ops[i]? = some o->∀e∈o.after,Region.binds .any e=true->zak B e.on=true
 clo:zxj ops (fun j=>zak B j=true)
theorem zjf{ops:Array Oper}:∀{l:List Oper} {bs all:List Nat} {pre:List Oper},ops.toList=pre++l->bs.length=pre.length->(∀i b,bs[i]? = some b->MaskOk ops i b)->zer l bs=some all ->
  all.length=ops.size/\∀i b,all[i]? = some b->MaskOk ops i b
 |[],bs,all,pre,ho,hl,hb,h=>by
  simp only[zer,ya0]at h;subst h;have:ops.size=pre.length:=by rw[<- Array.length_toList,ho];simp
  exact⟨by omega,hb⟩
 |o::l,bs,all,pre,ho,hl,hb,h=>by
  unfold zer at h;split at h
  ·rename_i B hB;obtain⟨h1,h2,h3⟩:=ze8 hB;refine zjf (pre:=pre++[o]) (by simp[ho]) (by simp[hl]) (fun i b hi=>?_) h;by_cases hlt:i<bs.length
   ·rw[yb8 hlt]at hi;exact hb i b hi
   ·rw[yd0 (by omega)]at hi;have hi0:i=bs.length:=by
     rcases Nat.eq_or_lt_of_le (Nat.le_of_not_lt hlt)with h |h
     ·exact h.symm
     ·rw[show i - bs.length=(i - bs.length - 1)+1 by omega]at hi;simp at hi
    rw[show i - bs.length=0 by omega]at hi;simp only[List.getElem?_cons_zero,ya0]at hi;subst hi;have hoi:ops[i]? = some o:=by
     rw[<- Array.getElem?_toList,ho,yd0 (by omega)];simp[show i - pre.length=0 by omega]
    have low:∀o',ops[i]? = some o'->∀e∈o'.after,Region.binds .any e=true->e.on<i:=fun o' ho' e he hbd=>by
     rw[hoi]at ho';cases ho';rw[<- zd0]at hbd;have:=h1 e (Array.mem_toList_iff.2 he) hbd;omega
    refine⟨low,fun L hL hi2 j hj=>?_,fun j hj=>?_,fun o' ho' e he hbd=>?_,fun x q hq hx e he hbd=>?_⟩
    ·obtain⟨e,he,hbd,rfl |⟨b,hbe,hbj⟩⟩:=h2 j hj
     ·exact hi2 o hoi e (Array.mem_toList_iff.1 he) (by rw[<- zd0];exact hbd)
     ·have hLe:=hi2 o hoi e (Array.mem_toList_iff.1 he) (by rw[<- zd0];exact hbd);exact(hb _ _ hbe).anc L hL (fun o2 ho2 e2 he2 hb2=>hL _ _ ho2 hLe e2 he2 hb2) j hbj
    ·obtain⟨e,he,hbd,rfl |⟨b,hbe,hbj⟩⟩:=h2 j hj
     ·exact low o hoi e (Array.mem_toList_iff.1 he) (by rw[<- zd0];exact hbd)
     ·have:=(hb _ _ hbe).lt j hbj;have:=low o hoi e (Array.mem_toList_iff.1 he) (by rw[<- zd0];exact hbd);omega
    ·rw[hoi]at ho';cases ho';rw[<- zd0]at hbd;exact(h3 e (Array.mem_toList_iff.2 he) hbd).1
    ·obtain⟨e',he',hbd',rfl |⟨b,hbe,hbj⟩⟩:=h2 x hx
     ·have hlt':=h1 e' he' hbd';obtain⟨b,hbe⟩:∃b,bs[e'.on]? = some b:=⟨_,yb5 hlt'⟩
      exact(h3 e' he' hbd').2 b hbe _ ((hb _ _ hbe).own q hq e he hbd)
     ·exact(h3 e' he' hbd').2 b hbe _ ((hb _ _ hbe).clo x q hq hbj e he hbd)
  ·cases h
theorem prod_mem:∀{l:List Oper} {k d j:Nat},(d,j)∈zgv l k↔k<=j/\∃o,l[j - k]? = some o/\o.dst=some d
 |[],k,d,j=>by simp[zgv]
 |o::l,k,d,j=>by
  have ih:=@prod_mem l (k+1) d j;unfold zgv;have step:(k<=j/\∃o',(o::l)[j - k]? = some o'/\o'.dst=some d)↔(j=k/\o.dst=some d)\/(k+1<=j/\∃o',l[j - (k+1)]? = some o'/\o'.dst=some d):=by
   constructor
   ·rintro⟨h1,o',h2,h3⟩;by_cases hjk:j=k
    ·subst hjk;simp at h2;subst h2;exact .inl ⟨rfl,h3⟩
    ·rw[show j - k=(j - (k+1))+1 by omega,yc6]at h2;exact .inr ⟨by omega,o',h2,h3⟩
   ·rintro(⟨rfl,h⟩ |⟨h1,o',h2,h3⟩)
    ·exact⟨Nat.le_refl _,o,by simp,h⟩
    ·exact⟨by omega,o',by rw[show j - k=(j - (k+1))+1 by omega,yc6];exact h2,h3⟩
  rw[step,<- ih];cases hd:o.dst with
  |none=>simp
  |some d'=>
   simp only[List.mem_cons,yc4,ya0];constructor
   ·rintro(⟨rfl,rfl⟩ |h)
    ·exact .inl ⟨rfl,rfl⟩
    ·exact .inr h
   ·rintro(⟨rfl,rfl⟩ |h)
    ·exact .inl ⟨rfl,rfl⟩
    ·exact .inr h
theorem zjs:∀{pr:List (Nat×Nat)},zn3 pr=true->∀(i j:Nat) p q,pr[i]? = some p->pr[j]? = some q->p.1=q.1->i=j
 |[],_,i,j,p,q,h1,_,_=>by simp at h1
 |x::xs,h,i,j,p,q,h1,h2,hpq=>by
  simp only[zn3,ya2,List.all_eq_true,Bool.not_eq_true']at h;obtain⟨ha,hb⟩:=h;cases i with
  |zero=>
   simp only[List.getElem?_cons_zero,ya0]at h1;subst h1;cases j with
   |zero=>rfl
   |succ j=>
    simp only[yc6]at h2;have:=ha q (List.mem_of_getElem? h2);rw[zlR hpq.symm]at this;cases this
  |succ i=>
   simp only[yc6]at h1;cases j with
   |zero=>
    simp only[List.getElem?_cons_zero,ya0]at h2;subst h2;have:=ha p (List.mem_of_getElem? h1);rw[zlR hpq]at this;cases this
   |succ j=>
    simp only[yc6]at h2;rw[zjs hb i j p q h1 h2 hpq]
theorem zn6{z:Nat×Nat}{i B:Nat}{pr:List (Nat×Nat)}:∀{xs:List Operand},zun z i B pr xs=true->∀u,.tmp u∈xs->∀j,(u,j)∈pr->zak B j=true\/(j=z.1/\zak z.2 i=true)
 |[],_,u,hu,_,_=>by cases hu
 |x::xs,h,u,hu,j,hj=>by
  have tl:zun z i B pr xs=true:=by
   cases x<;>first |exact h |(simp only[zun,ya2]at h;exact h.2)
  rcases List.mem_cons.1 hu with rfl |hu
  ·simp only[zun,ya2]at h;have h1:=h.1;unfold zxX at h1;rw[List.all_eq_true]at h1;have:=h1 (u,j) hj;simp only[zlR rfl,Bool.or_eq_true,ya2]at this;exact this.imp id fun h=>⟨yb0 h.1,h.2⟩
  ·exact zn6 tl u hu j hj
theorem zlH:∀{bs:List Nat} {i:Nat},bs≠[]->(zie bs i).1+1=i+bs.length/\bs[(zie bs i).1 - i]? = some (zie bs i).2
 |[],_,h=>absurd rfl h
 |[b],i,_=>⟨rfl,by simp[zie]⟩
 |b::c::bs,i,_=>by
  obtain⟨h1,h2⟩:=zlH (bs:=c::bs) (i:=i+1) (by simp);have e:zie (b::c::bs) i=zie (c::bs) (i+1):=rfl;rw[e];simp only[ya7]at h1 ⊢;refine⟨by omega,?_⟩;rw[show(zie (c::bs) (i+1)).1 - i=((zie (c::bs) (i+1)).1 - (i+1))+1 by omega,yc6];exact h2
structure PlanOk(ops:Array Oper)(l:List (Oper×Nat)):Prop where
 len:l.length=ops.size
 op:∀(i:Nat) o B,l[i]? = some (o,B)->ops[i]? = some o
 mask:∀(i:Nat) o B,l[i]? = some (o,B)->MaskOk ops i B
 uses:∀(i:Nat) o B,l[i]? = some (o,B)->∀u,.tmp u∈zaz o.op->∀j q,ops[j]? = some q->q.dst=some u->zak B j=true\/(j+1=ops.size/\∃q' B',l[j]? = some (q',B')/\zak B' i=true)
 grd:∀(i:Nat) o B,l[i]? = some (o,B)->∀j b,o.guard=some (j,b)->zak B j=true
 dst:∀(i j:Nat) o q d,ops[i]? = some o->ops[j]? = some q->o.dst=some d->q.dst=some d->i=j
theorem PlanOk.lt{ops:Array Oper}{l:List (Oper×Nat)}(h:PlanOk ops l){i:Nat}{o:Oper}{B:Nat}(hi:l[i]? = some (o,B)):i<ops.size:=by
 rw[<- h.len];exact(List.getElem?_eq_some_iff.1 hi).1
theorem zh9{z:Nat×Nat}{pr:List (Nat×Nat)}:∀{l:List (Oper×Nat)} {k:Nat},zpc z pr l k=true->∀(i:Nat) p,l[i]? = some p->zun z (k+i) p.2 pr (zaz p.1.op)=true/\zkc p.2 p.1.guard=true
 |[],_,_,i,p,hp=>by simp at hp
 |(o,B)::r,k,h,i,p,hp=>by
  simp only[zpc,ya2]at h;cases i with
  |zero=>simp at hp;subst hp;exact⟨h.1,h.2.1⟩
  |succ i=>
   have:=zh9 h.2.2 i p (by simpa using hp);rw[show k+(i+1)=k+1+i by omega];exact this
theorem zrh{ops:Array Oper}{l:List (Oper×Nat)}(h:zgJ ops.toList=some l):PlanOk ops l:=by
 unfold zgJ at h;split at h
 ·cases h
 ·rename_i bs hbs;split at h
  ·rename_i hc;simp only[ya2]at hc;simp only[ya0]at h;subst h;obtain⟨h1,h2⟩:=zjf (ops:=ops) (pre:=[]) (by simp) (by simp) (fun i b hi=>by simp at hi) hbs;have hg:∀(i:Nat) o B,(ops.toList.zip bs)[i]? = some (o,B)->ops[i]? = some o/\bs[i]? = some B:=fun i o B hi=>by
    rw[List.getElem?_zip_eq_some]at hi;exact⟨by simpa using hi.1,hi.2⟩
   have hall:=zh9 hc.2;have hmem:∀(j:Nat) q u,ops[j]? = some q->q.dst=some u->(u,j)∈zgv ops.toList 0:=fun j q u hj hq=>
    prod_mem.2 ⟨Nat.zero_le _,q,by simpa using hj,hq⟩
   refine⟨by simp[h1],fun i o B hi=>(hg i o B hi).1,fun i o B hi=>h2 i B (hg i o B hi).2,fun i o B hi u hu j q hj hq=>?_,fun i o B hi j b hb=>?_,fun i j o q d hi hj ho hq=>?_⟩
   ·have hui:=(hall i (o,B) hi).1;rw[Nat.zero_add]at hui;refine(zn6 hui u hu j (hmem j q u hj hq)).imp id fun hz=>?_
    have hne:bs≠[]:=by rintro rfl;simp at hi
    obtain⟨l1,l2⟩:=zlH (i:=0) hne;rw[Nat.sub_zero,<- hz.1]at l2;have hjs:j+1=ops.size:=by rw[<- h1,hz.1];omega
    refine⟨hjs,q,(zie bs 0).2,?_,hz.2⟩;rw[List.getElem?_zip_eq_some];exact⟨by simpa using hj,l2⟩
   ·have:=(hall i (o,B) hi).2;simp only[hb,zkc]at this;exact this
   ·obtain⟨a,ha⟩:=List.getElem?_of_mem (hmem i o d hi ho);obtain⟨b,hb⟩:=List.getElem?_of_mem (hmem j q d hj hq);have:=zjs hc.1 a b _ _ ha hb rfl;subst this;rw[ha]at hb;simp only[ya0,yc4]at hb;exact hb.2
  ·cases h
theorem zlh:∀{a b:List Nat},natsEq a b=true->a=b
 |[],[],_=>rfl
 |a::x,b::y,h=>by
  simp only[natsEq,ya2]at h;rw[yb0 h.1,zlh h.2]
 |[],_::_,h=>by simp[natsEq]at h
 |_::_,[],h=>by simp[natsEq]at h
mutual
theorem cvEq_eq:∀{a b:CV},cvEq a b=true->a=b:=by
 intro a b h;cases a<;>cases b<;>first
  |rfl
  |(simp[cvEq]at h;done)
  |skip
 case bool.bool x y=>cases x<;>cases y<;>simp_all [cvEq]
 case int.int k n k' n'=>
  simp only[cvEq,ya2]at h;rw[za8 h.1];have:=h.2;rw[zb9]at this;rw[eq_of_beq this]
 case str.str x y=>simp only[cvEq]at h;rw[zlh h]
 case agg.agg x y=>simp only[cvEq]at h;rw[cvEqL_eq h]
 case tup.tup x y=>simp only[cvEq]at h;rw[cvEqL_eq h]
 case ptr.ptr=>
  simp only[cvEq,ya2]at h;rw[yb0 h.1,yb0 h.2]
 case slc.slc=>
  simp only[cvEq,ya2]at h;rw[yb0 h.1,yb0 h.2.1,yb0 h.2.2.1,yb0 h.2.2.2]
 case opn.opn=>
  simp only[cvEq,ya2]at h;rw[yb0 h.1,yb0 h.2.1,yb0 h.2.2]
 case emp.emp=>
  simp only[cvEq,ya2]at h;rw[yb0 h.1,yb0 h.2.1,yb0 h.2.2]
 case fn.fn=>
  simp only[cvEq,ya2]at h;rw[yb0 h.1,cvEqL_eq h.2.1,cvEqL_eq h.2.2]
 case yld.yld=>simp only[cvEq]at h;rw[yb0 h]
 case map.map=>simp only[cvEq]at h;rw[yb0 h]
 case ifc.ifc=>
  simp only[cvEq,ya2]at h;rw[yb0 h.1,cvEq_eq h.2]
 case void.void=>simp only[cvEq,decide_eq_true_eq]at h;rw[h]
theorem cvEqL_eq:∀{a b:List CV},cvEqL a b=true->a=b
 |[],[],_=>rfl
 |a::x,b::y,h=>by
  simp only[cvEqL,ya2]at h;rw[cvEq_eq h.1,cvEqL_eq h.2]
 |[],_::_,h=>by simp[cvEqL]at h
 |_::_,[],h=>by simp[cvEqL]at h
end
section dep
variable{t t':Tmps}{m m':Mem}{T T':Nat}
theorem zaO{x:Operand}(h:∀u,x=.tmp u->t.get u=t'.get u):evO t x=evO t' x:=by
 cases x with
 |tmp u=>exact h u rfl
 |const=>rfl
 |global=>rfl
 |func=>rfl
theorem zbU:∀{l:List Operand},(∀u,.tmp u∈l->t.get u=t'.get u)->evL t l=evL t' l
 |[],_=>rfl
 |x::xs,h=>by
  unfold evL;rw[zaO (t':=t') fun u hu=>h u (by rw[<- hu];exact ya5 ..),zbU fun u hu=>h u (ya4 _ hu)]
theorem zhl:∀{l:List (Nat×Operand)},(∀u,.tmp u∈l.map (·.2)->t.get u=t'.get u)->evP t l=evP t' l
 |[],_=>rfl
 |(i,x)::xs,h=>by
  unfold evP;rw[zaO (t':=t') fun u hu=>h u (by rw[<- hu];exact ya5 ..),zhl fun u hu=>h u (ya4 _ hu)]
theorem zeF{x:Option Operand}(h:∀u,.tmp u∈znt x->t.get u=t'.get u):zef t x=zef t' x:=by
 cases x with
 |none=>rfl
 |some x=>
  unfold zef;simp only;rw[zaO (t':=t') fun u hu=>h u (by rw[<- hu];exact ya5 ..)]
theorem zaQ{f:Mem->CV->COut}{x:Operand}(h:∀u,x=.tmp u->t.get u=t'.get u):un1 f x m t=un1 f x m t':=by
 unfold un1;rw[zaO h]
theorem zbK{f:Mem->CV->CV->COut}{x y:Operand}(h:∀u,.tmp u∈[x,y]->t.get u=t'.get u):zbL f x y m t=zbL f x y m t':=by
 unfold zbL;rw[zaO (x:=x) (t':=t') fun u hu=>h u (by simp[hu]),zaO (x:=y) (t':=t') fun u hu=>h u (by simp[hu])]
theorem zge{f:Mem->CV->CV->CV->COut}{x y z:Operand}(h:∀u,.tmp u∈[x,y,z]->t.get u=t'.get u):zlm f x y z m t=zlm f x y z m t':=by
 unfold zlm;rw[zaO (x:=x) (t':=t') fun u hu=>h u (by simp[hu])];split
 ·exact zbK fun u hu=>h u (by simp at hu ⊢;exact .inr hu)
 ·rfl
theorem zbj{op:Op}(h:∀u,.tmp u∈zaz op->t.get u=t'.get u):za4 P T op m t=za4 P T op m t':=by
 cases op with
 |move x=>simp only[za4];exact zaQ fun u hu=>h u (by simp[zaz,hu])
 |assign x=>simp only[za4];exact zaQ fun u hu=>h u (by simp[zaz,hu])
 |pick c a b=>
  show zcE c a b m t=zcE c a b m t';unfold zcE;rw[zaO (x:=c) (t':=t') fun u hu=>h u (by simp[zaz,hu]),zaQ (x:=a) (t':=t') fun u hu=>h u (by simp[zaz,hu]),zaQ (x:=b) (t':=t') fun u hu=>h u (by simp[zaz,hu])]
 |alloc e=>rfl
 |box e x=>simp only[za4];exact zaQ fun u hu=>h u (by simp[zaz,hu])
 |build ty ps=>show zcG P ty ps m t=zcG P ty ps m t';unfold zcG;rw[zhl (t':=t') h]
 |buildSlice ty n ps=>show zal P T ty n ps m t=zal P T ty n ps m t';unfold zal;rw[zhl (t':=t') h]
 |load ty a=>simp only[za4];exact zaQ fun u hu=>h u (by simp[zaz,hu])
 |store ty a x=>simp only[za4];exact zbK h
 |nilCheck x=>simp only[za4];exact zaQ fun u hu=>h u (by simp[zaz,hu])
 |binOp op ty x y z=>simp only[za4];exact zbK h
 |unOp op ty x=>simp only[za4];exact zaQ fun u hu=>h u (by simp[zaz,hu])
 |convert s d x=>simp only[za4];exact zaQ fun u hu=>h u (by simp[zaz,hu])
 |makeInterface ty x=>simp only[za4];exact zaQ fun u hu=>h u (by simp[zaz,hu])
 |makeFunc fn a b=>
  show zdV fn a b m t=zdV fn a b m t';unfold zdV;rw[zbU (l:=a.toList) (t':=t') fun u hu=>h u (by simp only[zaz,List.mem_append];exact .inl hu),zbU (l:=b.toList) (t':=t') fun u hu=>h u (by simp only[zaz,List.mem_append];exact .inr hu)]
 |makeMap ty r=>rfl
 |makeSlice ty l c=>simp only[za4];exact zbK h
 |slice ty x lo hi mx=>
  show za7 P ty x lo hi mx m t=za7 P ty x lo hi mx m t';unfold za7;simp only[zaz,List.mem_cons,List.mem_append]at h;rw[zaO (x:=x) (t':=t') fun u hu=>h u (.inl hu.symm),zeF (x:=lo) (t':=t') fun u hu=>h u (.inr (.inl (.inl hu))),zeF (x:=hi) (t':=t') fun u hu=>h u (.inr (.inl (.inr hu))),zeF (x:=mx) (t':=t') fun u hu=>h u (.inr (.inr hu))]
 |fieldAddr ty x f=>simp only[za4];exact zaQ fun u hu=>h u (by simp[zaz,hu])
 |field ty x f=>simp only[za4];exact zaQ fun u hu=>h u (by simp[zaz,hu])
 |indexAddr ty x i=>simp only[za4];exact zbK h
 |index ty x i=>simp only[za4];exact zbK h
 |lookup ty x k ok=>simp only[za4];exact zbK h
 |mapUpdate ty x k v=>simp only[za4];exact zge h
 |insert ty x k v=>simp only[za4];exact zge h
 |mapEntry ty x k=>simp only[za4];exact zbK h
 |entryStore ty x s v=>simp only[za4];exact zge h
 |typeAssert x xt a ok=>simp only[za4];exact zaQ fun u hu=>h u (by simp[zaz,hu])
 |extract x i=>simp only[za4];exact zaQ fun u hu=>h u (by simp[zaz,hu])
 |panic x=>simp only[za4];exact zaQ fun u hu=>h u (by simp[zaz,hu])
 |call c=>
  obtain⟨callee,args,ats⟩:=c;show zbn P T _ m t=zbn P T _ m t';unfold zbn;cases callee with
  |value f=>
   simp only[zaz,List.mem_cons]at h;simp only;rw[zbU (l:=args.toList) (t':=t') fun u hu=>h u (.inr hu)];cases evL t' args.toList with
   |none=>rfl
   |some l=>
    show zeh f m t _=zeh f m t' _;unfold zeh;rw[zaO (x:=f) (t':=t') fun u hu=>h u (.inl hu.symm)]
  |invoke r n=>
   rw[zbU (l:=args.toList) (t':=t') h];rfl
  |builtin b=>
   rw[zbU (l:=args.toList) (t':=t') h];rfl
 |defer c=>
  obtain⟨callee,args,ats⟩:=c;show zbR _ m t=zbR _ m t';unfold zbR;cases callee with
  |value f=>
   simp only[zaz,List.mem_cons]at h;simp only;rw[zbU (l:=args.toList) (t':=t') fun u hu=>h u (.inr hu),zaO (x:=f) (t':=t') fun u hu=>h u (.inl hu.symm)]
  |invoke r n=>
   rw[zbU (l:=args.toList) (t':=t') h]
  |builtin b=>
   rw[zbU (l:=args.toList) (t':=t') h]
 |_=>rfl
theorem zda{op:Op}(h:zcQ op=true):za4 P T op m t=za4 P T' op m' t:=by
 cases op<;>first |rfl |(simp[zcQ]at h;done)
theorem zo3(ty:TypeId)(v:CV):(∀m,∃w,zim T m ty v=.no w)\/∃u ob,zf2 ob=false/\∀m,zim T m ty v=.mem u (m.newAt T ob):=by
 unfold zim;split
 ·split
  ·exact .inr ⟨_,_,rfl,fun m=>rfl⟩
  ·exact .inl fun m=>⟨_,rfl⟩
 ·exact .inl fun m=>⟨_,rfl⟩
theorem zoi{op:Op}(h:zb8 P op=true)(t:Tmps):(∀m,∃w,za4 P T op m t=.no w)\/∃u ob,zf2 ob=false/\∀m,za4 P T op m t=.mem u (m.newAt T ob):=by
 cases op<;>first |(simp[zb8]at h;done) |skip
 case alloc e=>
  show(∀m,∃w,zbO P T e m t=.no w)\/∃u ob,zf2 ob=false/\∀m,zbO P T e m t=.mem u (m.newAt T ob);unfold zbO;split
  ·exact zo3 _ _
  ·exact .inl fun m=>⟨_,rfl⟩
 case box e x=>
  show(∀m,∃w,un1 (fun m v=>zim T m e v) x m t=.no w)\/∃u ob,zf2 ob=false/\∀m,un1 (fun m v=>zim T m e v) x m t=.mem u (m.newAt T ob);unfold un1;cases evO t x with
  |none=>exact .inl fun m=>⟨_,rfl⟩
  |some v=>exact zo3 _ _
 case buildSlice ty n ps=>
  show(∀m,∃w,zal P T ty n ps m t=.no w)\/∃u ob,zf2 ob=false/\∀m,zal P T ty n ps m t=.mem u (m.newAt T ob);unfold zal;split
  ·unfold za0;split
   ·split
    ·split
     ·split
      ·split
       ·exact .inr ⟨_,_,rfl,fun m=>rfl⟩
       ·exact .inl fun m=>⟨_,rfl⟩
      ·exact .inl fun m=>⟨_,rfl⟩
     ·exact .inl fun m=>⟨_,rfl⟩
    ·exact .inl fun m=>⟨_,rfl⟩
   ·exact .inl fun m=>⟨_,rfl⟩
  ·exact .inl fun m=>⟨_,rfl⟩
 case makeSlice ty l c=>
  show(∀m,∃w,zbL (fun m l c=>zan P T m ty l c) l c m t=.no w)\/∃u ob,zf2 ob=false/\∀m,zbL (fun m l c=>zan P T m ty l c) l c m t=.mem u (m.newAt T ob);unfold zbL;cases evO t l with
  |none=>exact .inl fun m=>⟨_,rfl⟩
  |some v=>
   cases evO t c with
   |none=>exact .inl fun m=>⟨_,rfl⟩
   |some u=>
    show(∀m,∃w,zan P T m ty v u=.no w)\/∃z ob,zf2 ob=false/\∀m,zan P T m ty v u=.mem z (m.newAt T ob);unfold zan;split
    ·split
     ·split
      ·exact .inr ⟨_,_,rfl,fun m=>rfl⟩
      ·exact .inl fun m=>⟨_,rfl⟩
     ·exact .inl fun m=>⟨_,rfl⟩
    ·exact .inl fun m=>⟨_,rfl⟩
 case makeMap ty r=>
  show(∀m,∃w,zgy T r m t=.no w)\/∃u ob,zf2 ob=false/\∀m,zgy T r m t=.mem u (m.newAt T ob);unfold zgy;split
  ·exact .inr ⟨_,_,rfl,fun m=>rfl⟩
  ·exact .inl fun m=>⟨_,rfl⟩
 case convert s d x=>
  show(∀m,∃w,un1 (fun m v=>za3 P T m s d v) x m t=.no w)\/∃u ob,zf2 ob=false/\∀m,un1 (fun m v=>za3 P T m s d v) x m t=.mem u (m.newAt T ob);unfold zb8 at h;simp only at h;split at h
  ·rename_i hs hd;unfold un1;cases evO t x with
   |none=>exact .inl fun m=>⟨_,rfl⟩
   |some v=>
    show(∀m,∃w,za3 P T m s d v=.no w)\/∃z ob,zf2 ob=false/\∀m,za3 P T m s d v=.mem z (m.newAt T ob);unfold za3;rw[hs,hd];cases v<;>first |exact .inl fun m=>⟨_,rfl⟩ |skip
    simp only;split
    ·exact .inr ⟨_,_,rfl,fun m=>rfl⟩
    ·exact .inl fun m=>⟨_,rfl⟩
  ·cases h
end dep
end Go.Cx
namespace Go.Cx
open Go Go.RowKit
variable{P:Program}{W0:Bas}
structure AsOk(T0:Nat)(as:List (Nat×Nat×CO)):Prop where
 tag:∀j T o,(j,T,o)∈as->T=T0+j/\zf2 o=false
 one:∀j T o T' o',(j,T,o)∈as->(j,T',o')∈as->o=o'
structure Ovr(S:Nat->Prop)(as:List (Nat×Nat×CO))(M m:Mem):Prop where
 nxt:m.nxt=M.nxt
 get1:∀j T o,(j,T,o)∈as->S j->m.get T=some o
 get0:∀T,(∀j o,(j,T,o)∈as->¬S j)->m.get T=M.get T
theorem AsOk.tail{T0:Nat}{a:Nat×Nat×CO}{r:List (Nat×Nat×CO)}(h:AsOk T0 (a::r)):AsOk T0 r:=
 ⟨fun j T o hj=>h.tag j T o (ya4 _ hj),fun j T o T' o' h1 h2=>h.one j T o T' o' (ya4 _ h1) (ya4 _ h2)⟩
theorem zdu{T0:Nat}(S:Nat->Bool){M:Mem}:∀{as:List (Nat×Nat×CO)},AsOk T0 as->(∀j T o,(j,T,o)∈as->T<M.nxt)->Ovr (fun j=>S j=true) as M (zaV S as M)
 |[],_,_=>⟨rfl,(fun j T o h=>by cases h),(fun T _=>rfl)⟩
 |(j0,T',o')::r,hA,hlt=>by
  have ih:=zdu S hA.tail (fun j T o h=>hlt j T o (ya4 _ h));obtain⟨ht0,hr0⟩:=hA.tag j0 T' o' (ya5 ..);unfold zaV;cases hS:S j0 with
  |false=>
   simp only;refine⟨ih.nxt,fun j T o h hj=>?_,fun T h=>ih.get0 T fun j o hm=>h j o (ya4 _ hm)⟩;rcases List.mem_cons.1 h with h |h
   ·cases h;rw[hS]at hj;cases hj
   ·exact ih.get1 j T o h hj
  |true=>
   simp only;refine⟨?_,fun j T o h hj=>?_,fun T h=>?_⟩
   ·rw[Mem.nxtAt,ih.nxt,if_pos (hlt j0 T' o' (ya5 ..))]
   ·rw[Mem.get_newAt];obtain⟨ht,hr⟩:=hA.tag j T o h;by_cases hq:T=T'
    ·rw[if_pos hq];have hj0:j=j0:=by omega
     subst hj0;exact congrArg some (hA.one j T' o' T o (ya5 ..) h)
    ·rw[if_neg hq];rcases List.mem_cons.1 h with h |h
     ·cases h;exact absurd rfl hq
     ·exact ih.get1 j T o h hj
   ·rw[Mem.get_newAt];by_cases hq:T=T'
    ·subst hq;exact absurd hS (h j0 o' (ya5 ..))
    ·rw[if_neg hq];exact ih.get0 T fun j o hm=>h j o (ya4 _ hm)
structure CD where
 val:Nat->CV
 kn:Nat->Nat
 wi:Nat->Nat
 st:Nat->Mem×Nat
 K:Nat
def zcB(d:CD):Nat->List (Nat×Nat×Mem)
 |0=>[]
 |k+1=>(d.wi k,(d.st k).2,(d.st k).1)::zcB d k
theorem zbI{d d':CD}:∀{k:Nat},(∀i,i<k->d.wi i=d'.wi i/\d.st i=d'.st i)->zcB d k=zcB d' k
 |0,_=>rfl
 |k+1,h=>by
  unfold zcB;obtain⟨h1,h2⟩:=h k (by omega);rw[h1,h2,zbI fun i hi=>h i (by omega)]
noncomputable def zas(d:CD)(as:List (Nat×Nat×CO))(B c:Nat):Mem:=zaV (zaq B (d.st c).2) as (d.st c).1
section
variable(ops:Array Oper)(l:List (Oper×Nat))(t0:Tmps)
def zxQ(o:Oper)(u:Nat):Prop:=.tmp u∈zaz o.op\/∃(j:Nat) (b:Bool) (q:Oper),o.guard=some (j,b)/\ops[j]? = some q/\q.dst=some u
def Agr(val:Nat->CV)(B:Nat)(o:Oper)(t:Tmps):Prop:=∀u,zxQ ops o u->(∀(j:Nat) (q:Oper),ops[j]? = some q->q.dst=some u->zak B j=true->t.get u=some (val j))/\((∀(j:Nat) (q:Oper),ops[j]? = some q->q.dst=some u->zak B j=false)->t.get u=t0.get u)
end
theorem zcS{ops:Array Oper}{o:Oper}{t t':Tmps}(h:∀u,zxQ ops o u->t.get u=t'.get u):zaC ops.toList t o.guard=zaC ops.toList t' o.guard:=by
 unfold zaC;cases hg:o.guard with
 |none=>rfl
 |some p=>
  obtain⟨j,b⟩:=p;simp only;rw[zbG];cases hq:ops.toList[j]? with
  |none=>rfl
  |some q=>
   simp only;cases hd:q.dst with
   |none=>rfl
   |some d=>
    simp only;rw[h d (.inr ⟨j,b,q,hg,by simpa using hq,hd⟩)]
theorem Agr.eq{ops:Array Oper}{t0:Tmps}{val:Nat->CV}{B:Nat}{o:Oper}{t t':Tmps}(h:Agr ops t0 val B o t)(h':Agr ops t0 val B o t'):∀u,zxQ ops o u->t.get u=t'.get u:=fun u hu=>by
 by_cases hx:∃(j:Nat) (q:Oper),ops[j]? = some q/\q.dst=some u/\zak B j=true
 ·obtain⟨j,q,h1,h2,h3⟩:=hx;rw[(h u hu).1 j q h1 h2 h3,(h' u hu).1 j q h1 h2 h3]
 ·have hn:∀(j:Nat) (q:Oper),ops[j]? = some q->q.dst=some u->zak B j=false:=fun j q h1 h2=>by
   cases hb:zak B j with
   |false=>rfl
   |true=>exact absurd ⟨j,q,h1,h2,hb⟩ hx
  rw[(h u hu).2 hn,(h' u hu).2 hn]
structure Cert(P:Program)(ih:Task->Res)(ops:Array Oper)(l:List (Oper×Nat))(t0:Tmps)(M0:Mem)(T0:Nat)(d:CD)(p:Nat)(s:DS):Prop where
 cur:s.cur=(d.st d.K).1
 cl:s.cl=(d.st d.K).2
 hist:s.hist=zcB d d.K
 wlt:∀k,k<d.K->d.wi k<p/\d.kn (d.wi k)=2
 win:∀i,i<p->d.kn i=2->∃k,k<d.K/\d.wi k=i
 chain:∀k,k+1<d.K->∀o B,l[d.wi (k+1)]? = some (o,B)->zak B (d.wi k)=true
 st0:d.st 0=(M0,0)
 cls:∀k,k<d.K->∀o B,l[d.wi k]? = some (o,B)->(d.st (k+1)).2=B
 asok:AsOk T0 s.as
 asin:∀j T o,(j,T,o)∈s.as->j<p/\d.kn j=1
 tv1:∀(i:Nat) (o:Oper) (u:Nat),i<p->d.kn i≠3->ops[i]? = some o->o.dst=some u->s.t.get u=some (d.val i)/\u<t0.sz
 tv0:∀u,(∀(i:Nat) (o:Oper),i<p->d.kn i≠3->ops[i]? = some o->o.dst≠some u)->s.t.get u=t0.get u
 tsz:s.t.sz=t0.sz
 vA:∀i o B,i<p->l[i]? = some (o,B)->d.kn i=1->∀t,Agr ops t0 d.val B o t->zaC ops.toList t o.guard=some true/\∃ob,(i,T0+i,ob)∈s.as/\∀m,za4 P (T0+i) o.op m t=.mem (d.val i) (m.newAt (T0+i) ob)
 vN:∀i o B,i<p->l[i]? = some (o,B)->d.kn i=0->∀t,Agr ops t0 d.val B o t->(zaC ops.toList t o.guard=some false/\d.val i=zam) \/
  (zaC ops.toList t o.guard=some true/\∀c,c<=d.K->(∀k,k<d.K->zak B (d.wi k)=true->k<c)->(∀k o' B',k<c->l[d.wi k]? = some (o',B')->zak B' i=false)->cop P o.op (zas d s.as B c) t=.val (d.val i))
 vW:∀k o B,k<d.K->l[d.wi k]? = some (o,B)->∀t,Agr ops t0 d.val B o t->zaC ops.toList t o.guard=some true/\znr ih (zas d s.as B k) (cop P o.op (zas d s.as B k) t)=some (d.val (d.wi k),(d.st (k+1)).1)
 nall:∀i o B,i<p->l[i]? = some (o,B)->d.kn i=0->(∀t,Agr ops t0 d.val B o t->zaC ops.toList t o.guard=some false)\/zcQ o.op=true\/(i,o,B,d.val i)∈s.ns
 k012:∀i,i<p->d.kn i=0\/d.kn i=1\/d.kn i=2\/d.kn i=3
 cl3:∀i o B,i<p->l[i]? = some (o,B)->d.kn i≠3->∀j,zak B j=true->d.kn j≠3
theorem zqK{S:Nat->Bool}{p:Nat}{T:Nat}{o:CO}{as:List (Nat×Nat×CO)}{m:Mem}(h:S p=false):zaV S ((p,T,o)::as) m=zaV S as m:=by
 rw[zaV,h]
theorem zjo{op:Op}{t:Tmps}{v:CV}{m:Mem}(h:zjX P op t v m=true):cop P op m t=.val v:=by
 unfold zjX at h;show za4 P m.nxt op m t=_;generalize za4 P m.nxt op m t=out at h;cases out<;>first |(simp only[zmH]at h;rw[cvEq_eq h]) |(simp[zmH]at h)
theorem zgb{op:Op}{B:Nat}{t:Tmps}{v:CV}{as:List (Nat×Nat×CO)}{d:CD}:∀{k:Nat},zgE P op B t v as (zcB d k)=true->∀c,c<k->(∀k',c<=k'->k'<k->zak B (d.wi k')=false)->cop P op (zas d as B c) t=.val v
 |0,_,c,hc,_=>by omega
 |k+1,h,c,hc,hb=>by
  unfold zcB zgE at h;rw[hb k (by omega) (by omega)]at h;simp only at h;split at h
  ·rename_i hs;by_cases hck:c=k
   ·subst hck;exact zjo hs
   ·exact zgb h c (by omega) fun k' h1 h2=>hb k' h1 (by omega)
  ·cases h
theorem zeB{t:Tmps}{B cl:Nat}{m:Mem}{as:List (Nat×Nat×CO)}:∀{ns:List (Nat×Oper×Nat×CV)},zgk P t B cl m as ns=true->∀i o B' v,(i,o,B',v)∈ns->zak B i=false->cop P o.op (zaV (zaq B' cl) as m) t=.val v
 |[],_,i,o,B',v,h,_=>by cases h
 |(i0,o0,B0,v0)::r,h,i,o,B',v,hm,hb=>by
  unfold zgk at h;rcases List.mem_cons.1 hm with hm |hm
  ·cases hm;rw[hb]at h;simp only at h;split at h
   ·rename_i hs;exact zjo hs
   ·cases h
  ·split at h
   ·exact zeB h i o B' v hm hb
   ·split at h
    ·exact zeB h i o B' v hm hb
    ·cases h
def zxd:DRes->Prop
 |.no _=>True
 |_=>False
theorem zbi{d:Option Tmp}{v:CV}{t:Tmps}{k:Tmps->DRes}{f:DRes}(hno:¬zxd f)(h:zbT d v t k=f):∃t',k t'=f/\t'.sz=t.sz/\(∀u,d=some u->u<t.sz/\t'.get u=some v)/\(∀u,d≠some u->t'.get u=t.get u):=by
 unfold zbT at h;cases d with
 |none=>exact⟨t,h,rfl,fun u hu=>(by cases hu),fun u _=>rfl⟩
 |some d=>
  simp only at h;split at h
  ·rename_i hb;have hlt:d<t.sz:=ya9 hb;refine⟨t.set d v,h,Tmps.set_sz ..,fun u hu=>?_,fun u hu=>?_⟩
   ·cases hu;refine⟨hlt,?_⟩;obtain⟨sz,tr⟩:=t;show Bool.rec (motive:=fun _=>Option CV) none ((Tr.set (Nat.succ d) tr d (some v)).get d) (Nat.ble (Nat.succ d) sz)=some v;rw[hb,Tr.get_set _ _ _ _ _ (by omega),if_pos rfl]
   ·obtain⟨sz,tr⟩:=t;show Bool.rec (motive:=fun _=>Option CV) none ((Tr.set (Nat.succ d) tr d (some v)).get u) (Nat.ble (Nat.succ u) sz)=Bool.rec (motive:=fun _=>Option CV) none (tr.get u) (Nat.ble (Nat.succ u) sz);rw[Tr.get_set _ _ _ _ _ (by omega),if_neg (fun hq=>hu (by rw[hq]))]
  ·subst h;exact absurd trivial hno
section step
variable{ih:Task->Res}{ops:Array Oper}{l:List (Oper×Nat)}{t0:Tmps}{M0:Mem}{T0:Nat}
theorem Cert.agr(hp:PlanOk ops l){d:CD}{p:Nat}{s:DS}(h:Cert P ih ops l t0 M0 T0 d p s)(hps:p<ops.size){i:Nat}{o:Oper}{B:Nat}(hi:i<=p)(hl:l[i]? = some (o,B))(h3:∀j,zak B j=true->d.kn j≠3):Agr ops t0 d.val B o s.t:=fun u hu=>by
 refine⟨fun j q hj hq hb=>(h.tv1 j q u (by have:=(hp.mask i o B hl).lt j hb;omega) (h3 j hb) hj hq).1,fun hn=>h.tv0 u fun j q hjp _ hj hq=>?_⟩;have hf:=hn j q hj hq;rcases hu with hu |⟨j',b,q',h1,h2,h3⟩
 ·rcases hp.uses i o B hl u hu j q hj hq with hb |⟨hb,_⟩
  ·rw[hf]at hb;cases hb
  ·omega
 ·have:j=j':=hp.dst j j' q q' u hj h2 hq h3;subst this;have hb:=hp.grd i o B hl j b h1;rw[hf]at hb;cases hb
def CD.ext(d:CD)(p kn:Nat)(v:CV):CD:={ d with val:=fun i=>if i=p then v else d.val i,kn:=fun i=>if i=p then kn else d.kn i }
theorem Agr.ext(hp:PlanOk ops l){d:CD}{p kn:Nat}{v:CV}{i:Nat}{o:Oper}{B:Nat}(hi:i<=p)(hl:l[i]? = some (o,B)){t:Tmps}:Agr ops t0 (d.ext p kn v).val B o t↔Agr ops t0 d.val B o t:=by
 have hv:∀(j:Nat),zak B j=true->(d.ext p kn v).val j=d.val j:=fun j hb=>by
  have hlow:=(hp.mask i o B hl).lt j hb;show(if j=p then v else d.val j)=d.val j;rw[if_neg (by omega)]
 constructor
 ·intro h u hu;exact⟨fun j q hj hq hb=>by rw[(h u hu).1 j q hj hq hb,hv j hb],(h u hu).2⟩
 ·intro h u hu;exact⟨fun j q hj hq hb=>by rw[(h u hu).1 j q hj hq hb,hv j hb],(h u hu).2⟩
theorem zfQ(hp:PlanOk ops l){d:CD}{as:List (Nat×Nat×CO)}{i p:Nat}{o:Oper}{B c T:Nat}{ob:CO}(hi:i<=p)(hl:l[i]? = some (o,B)):zas d ((p,T,ob)::as) B c=zas d as B c:=by
 refine zqK ?_;unfold zaq;cases hb:zak B p with
 |false=>rfl
 |true=>have:=(hp.mask i o B hl).lt p hb;omega
structure TStep(t t':Tmps)(o:Oper)(v:CV):Prop where
 sz:t'.sz=t.sz
 new:∀u,o.dst=some u->u<t.sz/\t'.get u=some v
 old:∀u,o.dst≠some u->t'.get u=t.get u
theorem Cert.tmps(hp:PlanOk ops l){d:CD}{p kn:Nat}(hkn:kn≠3){s:DS}(h:Cert P ih ops l t0 M0 T0 d p s){o:Oper}{B:Nat}(hl:l[p]? = some (o,B)){v:CV}{t':Tmps}(ht:TStep s.t t' o v):
  (∀(i:Nat) (q:Oper) (u:Nat),i<p+1->(d.ext p kn v).kn i≠3->ops[i]? = some q->q.dst=some u->t'.get u=some ((d.ext p kn v).val i)/\u<t0.sz)/\(∀u,(∀(i:Nat) (q:Oper),i<p+1->(d.ext p kn v).kn i≠3->ops[i]? = some q->q.dst≠some u)->t'.get u=t0.get u)/\t'.sz=t0.sz:=by
 have hop:=hp.op p o B hl;refine⟨fun i q u hi h3 hq hd=>?_,fun u hu=>?_,ht.sz.trans h.tsz⟩
 ·by_cases hip:i=p
  ·subst hip;rw[hop]at hq;cases hq;obtain⟨h1,h2⟩:=ht.new u hd;exact⟨by rw[h2];show _=some (if i=i then v else d.val i);rw[if_pos rfl],by rw[<- h.tsz];exact h1⟩
  ·have h3':d.kn i≠3:=fun hq3=>h3 (by show(if i=p then kn else d.kn i)=3;rw[if_neg hip];exact hq3)
   obtain⟨h1,h2⟩:=h.tv1 i q u (by omega) h3' hq hd;have hne:o.dst≠some u:=fun hq2=>hip (hp.dst i p q o u hq hop hd hq2)
   exact⟨by rw[ht.old u hne,h1];show _=some (if i=p then v else d.val i);rw[if_neg hip],h2⟩
 ·rw[ht.old u (hu p o (by omega) (by show(if p=p then kn else d.kn p)≠3;rw[if_pos rfl];exact hkn) hop)];exact h.tv0 u fun i q hi h3 hq=>hu i q (by omega) (by show(if i=p then kn else d.kn i)≠3;rw[if_neg (by omega)];exact h3) hq
theorem Cert.cl3'(hp:PlanOk ops l){d:CD}{p kn:Nat}{v:CV}{s:DS}(h:Cert P ih ops l t0 M0 T0 d p s){o:Oper}{B:Nat}(hl:l[p]? = some (o,B))(h3:kn≠3->∀j,zak B j=true->d.kn j≠3):
  ∀i q B',i<p+1->l[i]? = some (q,B')->(d.ext p kn v).kn i≠3->∀j,zak B' j=true->(d.ext p kn v).kn j≠3:=fun i q B' hi hq hk j hj=>by
 have hlow:=(hp.mask i q B' hq).lt j hj;show(if j=p then kn else d.kn j)≠3;rw[if_neg (by omega)];by_cases hip:i=p
 ·subst hip;rw[hl]at hq;cases hq;exact h3 (fun hq3=>hk (by show(if i=i then kn else d.kn i)=3;rw[if_pos rfl];exact hq3)) j hj
 ·exact h.cl3 i q B' (by omega) hq (fun hq3=>hk (by show(if i=p then kn else d.kn i)=3;rw[if_neg hip];exact hq3)) j hj
theorem Cert.stepN(hp:PlanOk ops l){d:CD}{p:Nat}{s:DS}(h:Cert P ih ops l t0 M0 T0 d p s){o:Oper}{B:Nat}(hl:l[p]? = some (o,B))(h3p:∀j,zak B j=true->d.kn j≠3){v:CV}{t':Tmps}(ht:TStep s.t t' o v){ns:List (Nat×Oper×Nat×CV)}
  (hns:ns=s.ns\/ns=(p,o,B,v)::s.ns)
  (hall:(zaC ops.toList s.t o.guard=some false)\/zcQ o.op=true\/(p,o,B,v)∈ns)
  (hv:(zaC ops.toList s.t o.guard=some false/\v=zam)\/(zaC ops.toList s.t o.guard=some true/\∀c,c<=d.K->(∀k,k<d.K->zak B (d.wi k)=true->k<c)->cop P o.op (zas d s.as B c) s.t=.val v)):
  Cert P ih ops l t0 M0 T0 (d.ext p 0 v) (p+1) ⟨t',s.cur,s.cl,s.hist,s.as,ns⟩:=by
 obtain⟨h1,h2,h3⟩:=h.tmps (kn:=0) hp (by decide) hl ht;have kn0:∀i,i<p->(d.ext p 0 v).kn i=d.kn i:=fun i hi=>if_neg (by omega)
 have val0:∀i,i<p->(d.ext p 0 v).val i=d.val i:=fun i hi=>if_neg (by omega)
 have knp:(d.ext p 0 v).kn p=0:=if_pos rfl;have valp:(d.ext p 0 v).val p=v:=if_pos rfl;have hagr:=h.agr hp (hp.lt hl) (Nat.le_refl p) hl h3p;have gcong:∀t,Agr ops t0 d.val B o t->zaC ops.toList t o.guard=zaC ops.toList s.t o.guard:=fun t ha=>zcS (ha.eq hagr)
 have ccong:∀t m,Agr ops t0 d.val B o t->cop P o.op m t=cop P o.op m s.t:=fun t m ha=>zbj fun u hu=>ha.eq hagr u (.inl hu)
 refine⟨h.cur,h.cl,h.hist.trans (zbI fun i hi=>⟨rfl,rfl⟩),fun k hk=>?_,fun i hi hk=>?_,h.chain,h.st0,h.cls,h.asok,fun j T ob hj=>?_,h1,h2,h3,fun i q B' hi hq hk t ha=>?_,fun i q B' hi hq hk t ha=>?_,fun k q B' hk hq t ha=>?_,fun i q B' hi hq hk=>?_,fun i hi=>?_,h.cl3' hp hl (fun _=>h3p)⟩
 ·obtain⟨a1,a2⟩:=h.wlt k hk;exact⟨Nat.lt_succ_of_lt a1,by show(d.ext p 0 v).kn (d.wi k)=2;rw[kn0 _ a1];exact a2⟩
 ·by_cases hip:i=p
  ·subst hip;rw[knp]at hk;cases hk
  ·rw[kn0 i (by omega)]at hk;exact h.win i (by omega) hk
 ·obtain⟨a1,a2⟩:=h.asin j T ob hj;exact⟨by omega,by rw[kn0 j a1];exact a2⟩
 ·by_cases hip:i=p
  ·subst hip;rw[knp]at hk;cases hk
  ·rw[kn0 i (by omega)]at hk;rw[val0 i (by omega)];exact h.vA i q B' (by omega) hq hk t ((Agr.ext hp (by omega) hq).1 ha)
 ·by_cases hip:i=p
  ·subst hip;rw[hl]at hq;cases hq;have ha':=(Agr.ext hp (Nat.le_refl _) hl).1 ha;rw[valp,gcong t ha'];rcases hv with hv |⟨hv1,hv2⟩
   ·exact .inl hv
   ·refine .inr ⟨hv1,fun c hc h4 h5=>?_⟩;rw[ccong t _ ha'];exact hv2 c hc h4
  ·rw[kn0 i (by omega)]at hk;rw[val0 i (by omega)];exact h.vN i q B' (by omega) hq hk t ((Agr.ext hp (by omega) hq).1 ha)
 ·have hk':k<d.K:=hk;obtain⟨a1,a2⟩:=h.wlt k hk';show _/\znr ih (zas d s.as B' k) _=some ((d.ext p 0 v).val (d.wi k),_);rw[val0 _ a1];exact h.vW k q B' hk' hq t ((Agr.ext hp (Nat.le_of_lt a1) hq).1 ha)
 ·by_cases hip:i=p
  ·subst hip;rw[hl]at hq;cases hq;rw[valp];rcases hall with hall |hall |hall
   ·exact .inl fun t ha=>by rw[gcong t ((Agr.ext hp (Nat.le_refl _) hl).1 ha)];exact hall
   ·exact .inr (.inl hall)
   ·exact .inr (.inr hall)
  ·rw[kn0 i (by omega)]at hk;rw[val0 i (by omega)];rcases h.nall i q B' (by omega) hq hk with h4 |h4 |h4
   ·exact .inl fun t ha=>h4 t ((Agr.ext hp (by omega) hq).1 ha)
   ·exact .inr (.inl h4)
   ·exact .inr (.inr (by
    rcases hns with rfl |rfl
    ·exact h4
    ·exact ya4 _ h4))
 ·by_cases hip:i=p
  ·subst hip;exact .inl knp
  ·rw[kn0 i (by omega)];exact h.k012 i (by omega)
theorem Cert.stepA(hp:PlanOk ops l){d:CD}{p:Nat}{s:DS}(h:Cert P ih ops l t0 M0 T0 d p s){o:Oper}{B:Nat}(hl:l[p]? = some (o,B))(h3p:∀j,zak B j=true->d.kn j≠3){v:CV}{t':Tmps}(ht:TStep s.t t' o v){ob:CO}
  (hro:zf2 ob=false) (hg:zaC ops.toList s.t o.guard=some true) (hv:∀m,za4 P (T0+p) o.op m s.t=.mem v (m.newAt (T0+p) ob)):
  Cert P ih ops l t0 M0 T0 (d.ext p 1 v) (p+1) ⟨t',s.cur,s.cl,s.hist,(p,T0+p,ob)::s.as,s.ns⟩:=by
 obtain⟨h1,h2,h3⟩:=h.tmps (kn:=1) hp (by decide) hl ht;have kn0:∀i,i<p->(d.ext p 1 v).kn i=d.kn i:=fun i hi=>if_neg (by omega)
 have val0:∀i,i<p->(d.ext p 1 v).val i=d.val i:=fun i hi=>if_neg (by omega)
 have knp:(d.ext p 1 v).kn p=1:=if_pos rfl;have valp:(d.ext p 1 v).val p=v:=if_pos rfl;have hagr:=h.agr hp (hp.lt hl) (Nat.le_refl p) hl h3p;have gcong:∀t,Agr ops t0 d.val B o t->zaC ops.toList t o.guard=zaC ops.toList s.t o.guard:=fun t ha=>zcS (ha.eq hagr)
 have notin:∀T o',(p,T,o')∉s.as:=fun T o' hm=>Nat.lt_irrefl _ (h.asin p T o' hm).1
 refine⟨h.cur,h.cl,h.hist.trans (zbI fun i hi=>⟨rfl,rfl⟩),fun k hk=>?_,fun i hi hk=>?_,h.chain,h.st0,h.cls,⟨fun j T o' hj=>?_,fun j T o1 T' o2 hj1 hj2=>?_⟩,fun j T ob' hj=>?_,h1,h2,h3,fun i q B' hi hq hk t ha=>?_,fun i q B' hi hq hk t ha=>?_,fun k q B' hk hq t ha=>?_,fun i q B' hi hq hk=>?_,fun i hi=>?_,h.cl3' hp hl (fun _=>h3p)⟩
 ·obtain⟨a1,a2⟩:=h.wlt k hk;exact⟨Nat.lt_succ_of_lt a1,by show(d.ext p 1 v).kn (d.wi k)=2;rw[kn0 _ a1];exact a2⟩
 ·by_cases hip:i=p
  ·subst hip;rw[knp]at hk;cases hk
  ·rw[kn0 i (by omega)]at hk;exact h.win i (by omega) hk
 ·rcases List.mem_cons.1 hj with hj |hj
  ·cases hj;exact⟨rfl,hro⟩
  ·exact h.asok.tag j T o' hj
 ·rcases List.mem_cons.1 hj1 with hj1 |hj1<;>rcases List.mem_cons.1 hj2 with hj2 |hj2
  ·cases hj1;cases hj2;rfl
  ·cases hj1;exact absurd hj2 (notin _ _)
  ·cases hj2;exact absurd hj1 (notin _ _)
  ·exact h.asok.one j T o1 T' o2 hj1 hj2
 ·rcases List.mem_cons.1 hj with hj |hj
  ·cases hj;exact⟨by omega,knp⟩
  ·obtain⟨a1,a2⟩:=h.asin j T ob' hj;exact⟨by omega,by rw[kn0 j a1];exact a2⟩
 ·by_cases hip:i=p
  ·subst hip;rw[hl]at hq;cases hq;have ha':=(Agr.ext hp (Nat.le_refl _) hl).1 ha;rw[valp,gcong t ha'];refine⟨hg,ob,ya5 ..,fun m=>?_⟩;rw[zbj fun u hu=>ha'.eq hagr u (.inl hu)];exact hv m
  ·rw[kn0 i (by omega)]at hk;rw[val0 i (by omega)];obtain⟨b1,ob',b2,b3⟩:=h.vA i q B' (by omega) hq hk t ((Agr.ext hp (by omega) hq).1 ha);exact⟨b1,ob',ya4 _ b2,b3⟩
 ·by_cases hip:i=p
  ·subst hip;rw[knp]at hk;cases hk
  ·rw[kn0 i (by omega)]at hk;rw[val0 i (by omega)];rcases h.vN i q B' (by omega) hq hk t ((Agr.ext hp (by omega) hq).1 ha)with h4 |⟨h4,h5⟩
   ·exact .inl h4
   ·refine .inr ⟨h4,fun c hc h6 h7=>?_⟩;have:=h5 c hc h6 h7;show cop P q.op (zas d ((p,T0+p,ob)::s.as) B' c) t=_;rw[zfQ hp (by omega) hq];exact this
 ·have hk':k<d.K:=hk;obtain⟨a1,a2⟩:=h.wlt k hk';show _/\znr ih (zas d ((p,T0+p,ob)::s.as) B' k) (cop P q.op (zas d ((p,T0+p,ob)::s.as) B' k) t)=some ((d.ext p 1 v).val (d.wi k),_);rw[val0 _ a1,zfQ hp (Nat.le_of_lt a1) hq];exact h.vW k q B' hk' hq t ((Agr.ext hp (Nat.le_of_lt a1) hq).1 ha)
 ·by_cases hip:i=p
  ·subst hip;rw[knp]at hk;cases hk
  ·rw[kn0 i (by omega)]at hk;rw[val0 i (by omega)];rcases h.nall i q B' (by omega) hq hk with h4 |h4 |h4
   ·exact .inl fun t ha=>h4 t ((Agr.ext hp (by omega) hq).1 ha)
   ·exact .inr (.inl h4)
   ·exact .inr (.inr h4)
 ·by_cases hip:i=p
  ·subst hip;exact .inr (.inl knp)
  ·rw[kn0 i (by omega)];exact h.k012 i (by omega)
def CD.extW(d:CD)(p:Nat)(v:CV)(m':Mem)(B:Nat):CD:={ d.ext p 2 v with wi:=fun k=>if k=d.K then p else d.wi k,st:=fun k=>if k=d.K+1 then(m',B)else d.st k,K:=d.K+1 }
theorem Cert.stepW(hp:PlanOk ops l){d:CD}{p:Nat}{s:DS}(h:Cert P ih ops l t0 M0 T0 d p s){o:Oper}{B:Nat}(hl:l[p]? = some (o,B))(h3p:∀j,zak B j=true->d.kn j≠3){v:CV}{t':Tmps}(ht:TStep s.t t' o v){m':Mem}
  (hg:zaC ops.toList s.t o.guard=some true) (hv:znr ih (zas d s.as B d.K) (cop P o.op (zas d s.as B d.K) s.t)=some (v,m'))
  (hch:zhL B s.hist=true) (hag:zgk P s.t B B m' s.as s.ns=true):
  Cert P ih ops l t0 M0 T0 (d.extW p v m' B) (p+1) ⟨t',m',B,(p,s.cl,s.cur)::s.hist,s.as,s.ns⟩:=by
 obtain⟨h1,h2,h3⟩:=h.tmps (kn:=2) hp (by decide) hl ht;have kn0:∀i,i<p->(d.ext p 2 v).kn i=d.kn i:=fun i hi=>if_neg (by omega)
 have val0:∀i,i<p->(d.ext p 2 v).val i=d.val i:=fun i hi=>if_neg (by omega)
 have knp:(d.ext p 2 v).kn p=2:=if_pos rfl;have valp:(d.ext p 2 v).val p=v:=if_pos rfl;have wi0:∀k,k<d.K->(d.extW p v m' B).wi k=d.wi k:=fun k hk=>if_neg (by omega)
 have wiK:(d.extW p v m' B).wi d.K=p:=if_pos rfl;have stc:∀c,c<=d.K->(d.extW p v m' B).st c=d.st c:=fun c hc=>if_neg (by omega)
 have stK:(d.extW p v m' B).st (d.K+1)=(m',B):=if_pos rfl;have zf0:∀B' c,c<=d.K->zas (d.extW p v m' B) s.as B' c=zas d s.as B' c:=fun B' c hc=>by unfold zas;rw[stc c hc]
 have hagr:=h.agr hp (hp.lt hl) (Nat.le_refl p) hl h3p;have gcong:∀t,Agr ops t0 d.val B o t->zaC ops.toList t o.guard=zaC ops.toList s.t o.guard:=fun t ha=>zcS (ha.eq hagr)
 refine⟨by show m'=((d.extW p v m' B).st (d.K+1)).1;rw[stK],by show B=((d.extW p v m' B).st (d.K+1)).2;rw[stK],?_,fun k hk=>?_,fun i hi hk=>?_,fun k hk q B' hq=>?_,by rw[stc 0 (Nat.zero_le _)];exact h.st0,fun k hk q B' hq=>?_,h.asok,fun j T ob hj=>?_,h1,h2,h3,fun i q B' hi hq hk t ha=>?_,fun i q B' hi hq hk t ha=>?_,fun k q B' hk hq t ha=>?_,fun i q B' hi hq hk=>?_,fun i hi=>?_,h.cl3' (v:=v) hp hl (fun _=>h3p)⟩
 ·show(p,s.cl,s.cur)::s.hist=((d.extW p v m' B).wi d.K,((d.extW p v m' B).st d.K).2,((d.extW p v m' B).st d.K).1)::zcB (d.extW p v m' B) d.K;rw[wiK,stc d.K (Nat.le_refl _),h.cl,h.cur,h.hist];rw[zbI (d:=d.extW p v m' B) (d':=d) fun i hi=>⟨wi0 i hi,stc i (by omega)⟩]
 ·have hk:k<d.K+1:=hk;by_cases hkK:k=d.K
  ·subst hkK;rw[wiK];exact⟨by omega,knp⟩
  ·rw[wi0 k (by omega)];obtain⟨a1,a2⟩:=h.wlt k (by omega);exact⟨by omega,by show(d.ext p 2 v).kn (d.wi k)=2;rw[kn0 _ a1];exact a2⟩
 ·by_cases hip:i=p
  ·subst hip;exact⟨d.K,Nat.lt_succ_self _,wiK⟩
  ·have hk:(d.ext p 2 v).kn i=2:=hk;rw[kn0 i (by omega)]at hk;obtain⟨k,a1,a2⟩:=h.win i (by omega) hk;exact⟨k,Nat.lt_succ_of_lt a1,by rw[wi0 k a1];exact a2⟩
 ·have hk:k+1<d.K+1:=hk;by_cases hkK:k+1=d.K
  ·rw[hkK,wiK,hl]at hq;cases hq;rw[wi0 k (by omega)];rw[h.hist,<- hkK]at hch;exact hch
  ·rw[wi0 (k+1) (by omega)]at hq;rw[wi0 k (by omega)];exact h.chain k (by omega) q B' hq
 ·have hk:k<d.K+1:=hk;by_cases hkK:k=d.K
  ·subst hkK;rw[wiK,hl]at hq;cases hq;rw[stK]
  ·rw[wi0 k (by omega)]at hq;rw[stc (k+1) (by omega)];exact h.cls k (by omega) q B' hq
 ·obtain⟨a1,a2⟩:=h.asin j T ob hj;exact⟨by omega,by show(d.ext p 2 v).kn j=1;rw[kn0 j a1];exact a2⟩
 ·have hk:(d.ext p 2 v).kn i=1:=hk;by_cases hip:i=p
  ·subst hip;rw[knp]at hk;cases hk
  ·rw[kn0 i (by omega)]at hk;show _/\∃ob,_/\∀m,za4 P (T0+i) q.op m t=.mem ((d.ext p 2 v).val i) _;rw[val0 i (by omega)];exact h.vA i q B' (by omega) hq hk t ((Agr.ext (kn:=2) hp (by omega) hq).1 ha)
 ·have hk:(d.ext p 2 v).kn i=0:=hk;by_cases hip:i=p
  ·subst hip;rw[knp]at hk;cases hk
  ·rw[kn0 i (by omega)]at hk;have ha':=(Agr.ext (kn:=2) hp (by omega) hq).1 ha;show(_/\(d.ext p 2 v).val i=zam)\/(_/\∀c,_->_->_->cop P q.op _ t=.val ((d.ext p 2 v).val i));rw[val0 i (by omega)];rcases h.vN i q B' (by omega) hq hk t ha' with h4 |⟨h4,h5⟩
   ·exact .inl h4
   ·refine .inr ⟨h4,fun c hc h6 h7=>?_⟩;have hc:c<=d.K+1:=hc;by_cases hcK:c=d.K+1
    ·subst hcK;have hb:zak B i=false:=h7 d.K o B (by omega) (by rw[wiK];exact hl);have hm1:zas (d.extW p v m' B) s.as B' (d.K+1)=zaV (zaq B' B) s.as m':=by unfold zas;rw[stK]
     rw[hm1];rcases h.nall i q B' (by omega) hq hk with h8 |h8 |h8
     ·rw[h8 t ha']at h4;cases h4
     ·have:=h5 d.K (Nat.le_refl _) (fun k hk _=>hk) (fun k o' B'' hk ho'=>h7 k o' B'' (by omega) (by rw[wi0 k hk];exact ho'));rw[<- this];exact zda h8
     ·have:=zeB hag i q B' _ h8 hb;rw[<- this];exact zbj fun u hu=>ha'.eq (h.agr hp (hp.lt hl) (by omega) hq (h.cl3 i q B' (by omega) hq (by rw[hk];simp))) u (.inl hu)
    ·rw[zf0 B' c (by omega)];refine h5 c (by omega) (fun k hk hb=>?_) (fun k o' B'' hk ho'=>h7 k o' B'' hk (by rw[wi0 k (by omega)];exact ho'));exact h6 k (Nat.lt_succ_of_lt hk) (by rw[wi0 k hk];exact hb)
 ·have hk:k<d.K+1:=hk;by_cases hkK:k=d.K
  ·subst hkK;rw[wiK,hl]at hq;cases hq;have ha':=(Agr.ext (kn:=2) hp (Nat.le_refl _) hl).1 ha;rw[gcong t ha',zf0 B _ (Nat.le_refl _),wiK,stK];refine⟨hg,?_⟩;show _=some ((d.ext p 2 v).val p,m');rw[valp,<- hv];exact congrArg _ (zbj fun u hu=>ha'.eq hagr u (.inl hu))
  ·rw[wi0 k (by omega)]at hq;obtain⟨a1,a2⟩:=h.wlt k (by omega);rw[zf0 B' k (by omega),wi0 k (by omega),stc (k+1) (by omega)];show _/\_=some ((d.ext p 2 v).val (d.wi k),_);rw[val0 _ a1];exact h.vW k q B' (by omega) hq t ((Agr.ext (kn:=2) hp (Nat.le_of_lt a1) hq).1 ha)
 ·have hk:(d.ext p 2 v).kn i=0:=hk;by_cases hip:i=p
  ·subst hip;rw[knp]at hk;cases hk
  ·rw[kn0 i (by omega)]at hk;show _\/_\/(i,q,B',(d.ext p 2 v).val i)∈s.ns;rw[val0 i (by omega)];rcases h.nall i q B' (by omega) hq hk with h4 |h4 |h4
   ·exact .inl fun t ha=>h4 t ((Agr.ext (kn:=2) hp (by omega) hq).1 ha)
   ·exact .inr (.inl h4)
   ·exact .inr (.inr h4)
 ·show(d.ext p 2 v).kn i=0\/(d.ext p 2 v).kn i=1\/(d.ext p 2 v).kn i=2\/(d.ext p 2 v).kn i=3;by_cases hip:i=p
  ·subst hip;exact .inr (.inr (.inl knp))
  ·rw[kn0 i (by omega)];exact h.k012 i (by omega)
theorem zid{T:Nat}{m:Mem}{ob:CO}(h:zhI T m=some ob):m.get T=some ob/\zf2 ob=false:=by
 unfold zhI at h;split at h<;>first |(rename_i hq;simp only[ya0]at h;subst h;exact⟨hq,rfl⟩) |cases h
theorem Cert.skip(hp:PlanOk ops l){d:CD}{p:Nat}{s:DS}(h:Cert P ih ops l t0 M0 T0 d p s){o:Oper}{B:Nat}(hl:l[p]? = some (o,B)):Cert P ih ops l t0 M0 T0 (d.ext p 3 zam) (p+1) s:=by
 have kn0:∀i,i<p->(d.ext p 3 zam).kn i=d.kn i:=fun i hi=>if_neg (by omega)
 have val0:∀i,i<p->(d.ext p 3 zam).val i=d.val i:=fun i hi=>if_neg (by omega)
 have knp:(d.ext p 3 zam).kn p=3:=if_pos rfl;have ne:∀{i n},i<p+1->(d.ext p 3 zam).kn i=n->n≠3->i<p:=fun{i n} hi hk hn=>by
  by_cases hip:i=p
  ·subst hip;rw[knp]at hk;exact absurd hk.symm hn
  ·omega
 refine⟨h.cur,h.cl,h.hist.trans (zbI fun i hi=>⟨rfl,rfl⟩),fun k hk=>?_,fun i hi hk=>?_,h.chain,h.st0,h.cls,h.asok,fun j T ob hj=>?_,fun i q u hi h3 hq hd=>?_,fun u hu=>?_,h.tsz,fun i q B' hi hq hk t ha=>?_,fun i q B' hi hq hk t ha=>?_,fun k q B' hk hq t ha=>?_,fun i q B' hi hq hk=>?_,fun i hi=>?_,h.cl3' hp hl (fun hq=>absurd rfl hq)⟩
 ·obtain⟨a1,a2⟩:=h.wlt k hk;exact⟨Nat.lt_succ_of_lt a1,by show(d.ext p 3 zam).kn (d.wi k)=2;rw[kn0 _ a1];exact a2⟩
 ·have hip:=ne hi hk (by decide);rw[kn0 i hip]at hk;exact h.win i hip hk
 ·obtain⟨a1,a2⟩:=h.asin j T ob hj;exact⟨by omega,by rw[kn0 j a1];exact a2⟩
 ·have hip:=ne hi rfl h3;rw[kn0 i hip]at h3;rw[val0 i hip];exact h.tv1 i q u hip h3 hq hd
 ·exact h.tv0 u fun i q hi h3 hq=>hu i q (by omega) (by rw[kn0 i hi];exact h3) hq
 ·have hip:=ne hi hk (by decide);rw[kn0 i hip]at hk;rw[val0 i hip];exact h.vA i q B' hip hq hk t ((Agr.ext hp (by omega) hq).1 ha)
 ·have hip:=ne hi hk (by decide);rw[kn0 i hip]at hk;rw[val0 i hip];exact h.vN i q B' hip hq hk t ((Agr.ext hp (by omega) hq).1 ha)
 ·have hk':k<d.K:=hk;obtain⟨a1,a2⟩:=h.wlt k hk';show _/\znr ih (zas d s.as B' k) _=some ((d.ext p 3 zam).val (d.wi k),_);rw[val0 _ a1];exact h.vW k q B' hk' hq t ((Agr.ext hp (Nat.le_of_lt a1) hq).1 ha)
 ·have hip:=ne hi hk (by decide);rw[kn0 i hip]at hk;rw[val0 i hip];rcases h.nall i q B' hip hq hk with h4 |h4 |h4
  ·exact .inl fun t ha=>h4 t ((Agr.ext hp (by omega) hq).1 ha)
  ·exact .inr (.inl h4)
  ·exact .inr (.inr h4)
 ·by_cases hip:i=p
  ·subst hip;exact .inr (.inr (.inr knp))
  ·rw[kn0 i (by omega)];exact h.k012 i (by omega)
structure PanOk(P:Program)(ih:Task->Res)(ops:Array Oper)(l:List (Oper×Nat))(t0:Tmps)(d:CD)(as:List (Nat×Nat×CO))(p z:Nat)(v:CV)(mp:Mem):Prop where
 lt:z<p
 kn:d.kn z=3
 go:∀o B,l[z]? = some (o,B)->(∀k,k+1=d.K->zak B (d.wi k)=true)/\∀t,Agr ops t0 d.val B o t->zaC ops.toList t o.guard=some true/\∃f args,cop P o.op (zas d as B d.K) t=.call f args/\ih (.call f args (zas d as B d.K))=.pan v mp
 rest:∀j o B,j<p->l[j]? = some (o,B)->d.kn j=3->j=z\/zak B z=true
theorem PanOk.step(hp:PlanOk ops l){d:CD}{as as':List (Nat×Nat×CO)}{p z:Nat}{v u:CV}{mp:Mem}(h:PanOk P ih ops l t0 d as p z v mp){o:Oper}{B kn:Nat}(hl:l[p]? = some (o,B))(hk:kn=3->zak B z=true)(has:as'=as\/∃T ob,as'=(p,T,ob)::as):
  PanOk P ih ops l t0 (d.ext p kn u) as' (p+1) z v mp:=by
 have hzp:=h.lt;refine⟨by omega,by show(if z=p then kn else d.kn z)=3;rw[if_neg (by omega)];exact h.kn,fun q B' hq=>?_,fun j q B' hj hq h3=>?_⟩
 ·obtain⟨h1,h2⟩:=h.go q B' hq;refine⟨h1,fun t ha=>?_⟩;obtain⟨h4,f,args,h5,h6⟩:=h2 t ((Agr.ext hp (by omega) hq).1 ha);have hm:zas (d.ext p kn u) as' B' (d.ext p kn u).K=zas d as B' d.K:=by
   rcases has with rfl |⟨T,ob,rfl⟩
   ·rfl
   ·show zas d ((p,T,ob)::as) B' d.K=_;exact zfQ hp (by omega) hq
  rw[hm];exact⟨h4,f,args,h5,h6⟩
 ·by_cases hjp:j=p
  ·subst hjp;rw[hl]at hq;cases hq;have:(if j=j then kn else d.kn j)=3:=h3;rw[if_pos rfl]at this;exact .inr (hk this)
  ·have:(if j=p then kn else d.kn j)=3:=h3;rw[if_neg hjp]at this;exact h.rest j q B' (by omega) hq this
def zxZ(P:Program)(ih:Task->Res)(ops:Array Oper)(l:List (Oper×Nat))(t0:Tmps)(M0:Mem)(T0 n:Nat):DRes->Prop
 |.no _=>True
 |.ok f=>∃d,Cert P ih ops l t0 M0 T0 d n f/\∀j,j<n->d.kn j≠3
 |.pan v mp f=>∃d z,Cert P ih ops l t0 M0 T0 d n f/\PanOk P ih ops l t0 d f.as n z v mp
 |.fin tF oF f=>∃d k o B,n=k+1/\Cert P ih ops l t0 M0 T0 d k f/\(∀j,j<k->d.kn j≠3)/\l[k]? = some (o,B)/\ztj o.guard=true/\zu8 o.dst=true/\zhg P ops.toList T0 o B f=.fin tF oF f
theorem zbk(hp:PlanOk ops l){z:Nat}{v:CV}{mp:Mem}{f:DRes}(hno:¬zxd f):∀(r:List (Oper×Nat)) (p:Nat) (d:CD) (s:DS),(∀j,r[j]? = l[p+j]?)->Cert P ih ops l t0 M0 T0 d p s->PanOk P ih ops l t0 d s.as p z v mp->zaA P ops.toList T0 z v mp r p s=f->∃d' s',f=.pan v mp s'/\Cert P ih ops l t0 M0 T0 d' (p+r.length) s'/\PanOk P ih ops l t0 d' s'.as (p+r.length) z v mp
 |[],p,d,s,_,h,hz,hr=>by
  change DRes.pan v mp s=f at hr
  exact⟨d,s,hr.symm,h,hz⟩
 |(o,B)::r,p,d,s,hl,h,hz,hr=>by
  have hlp:l[p]? = some (o,B):=by have:=hl 0;simpa using this.symm
  have hl':∀j,r[j]? = l[p+1+j]? := fun j=>by
   have:=hl (j+1);rw[yc6]at this;rw[this,show p+(j+1)=p+1+j by omega]
  have hlen:p+((o,B)::r).length=p+1+r.length:=by rw[ya7];omega
  rw[hlen];have hr':(match zak B z with |true=>zaA P ops.toList T0 z v mp r (p+1) |false=>zgH P ops.toList T0 o p B (zaA P ops.toList T0 z v mp r (p+1))) s=f:=hr;cases hb:zak B z with
  |true=>
   rw[hb]at hr';exact zbk hp hno r (p+1) _ s hl' (h.skip hp hlp) (hz.step (u:=zam) hp hlp (fun _=>hb) (.inl rfl)) hr'
  |false=>
   rw[hb]at hr';have hr:zgH P ops.toList T0 o p B (zaA P ops.toList T0 z v mp r (p+1)) s=f:=hr';have h3p:∀j,zak B j=true->d.kn j≠3:=fun j hj h3=>by
    have hlow:=(hp.mask p o B hlp).lt j hj;obtain⟨⟨q,B'⟩,hq⟩:∃x,l[j]? = some x:=⟨_,yb5 (by have:=(List.getElem?_eq_some_iff.1 hlp).1;omega)⟩
    rcases hz.rest j q B' hlow hq h3 with rfl |hb2
    ·rw[hj]at hb;cases hb
    ·have:=(hp.mask j q B' hq).anc _ (hp.mask p o B hlp).clo (fun q' hq' e he hbd=>(hp.mask p o B hlp).clo _ q' hq' hj e he hbd) z hb2;rw[this]at hb;cases hb
   unfold zgH at hr;split at hr
   ·rename_i hg;obtain⟨t',hk,h1,h2,h3⟩:=zbi hno hr;exact zbk hp hno r (p+1) _ _ hl' (h.stepN hp hlp h3p ⟨h1,h2,h3⟩ (.inl rfl) (.inl hg) (.inl ⟨hg,rfl⟩)) (hz.step hp hlp (fun hq=>by cases hq) (.inl rfl)) hk
   ·rename_i hg;split at hr
    ·rename_i hnew;unfold zeQ at hr;split at hr
     ·rename_i v' m' hout;split at hr
      ·rename_i ob hob;obtain⟨t',hk,h1,h2,h3⟩:=zbi hno hr;have hout:za4 P (T0+p) o.op ⟨0,.nil⟩ s.t=.mem v' m':=hout;rcases zoi (T:=T0+p) hnew s.t with hn |⟨u,ob2,hro,hall⟩
       ·obtain⟨w,hw⟩:=hn ⟨0,.nil⟩;rw[hw]at hout;cases hout
       ·rw[hall]at hout;injection hout with e1 e2
        subst e1;subst e2;obtain⟨g1,g2⟩:=zid hob;have g1:((⟨0,.nil⟩:Mem).newAt (T0+p) ob2).get (T0+p)=some ob:=g1;rw[Mem.get_newAt,if_pos rfl]at g1;cases g1;exact zbk hp hno r (p+1) _ _ hl' (h.stepA hp hlp h3p ⟨h1,h2,h3⟩ hro hg hall) (hz.step hp hlp (fun hq=>by cases hq) (.inr ⟨_,_,rfl⟩)) hk
      ·subst hr;exact absurd trivial hno
     ·subst hr;exact absurd trivial hno
     ·subst hr;exact absurd trivial hno
    ·unfold zql at hr;have hmem:zaV (zaq B s.cl) s.as s.cur=zas d s.as B d.K:=by unfold zas;rw[h.cur,h.cl]
     rw[hmem]at hr;have hcop:za4 P (zas d s.as B d.K).nxt o.op (zas d s.as B d.K) s.t=cop P o.op (zas d s.as B d.K) s.t:=rfl;rw[hcop]at hr;unfold zgf at hr;split at hr
     ·rename_i v' hout;unfold zbD at hr;split at hr
      ·rename_i hpure;obtain⟨t',hk,h1,h2,h3⟩:=zbi hno hr;exact zbk hp hno r (p+1) _ _ hl' (h.stepN hp hlp h3p ⟨h1,h2,h3⟩ (.inl rfl) (.inr (.inl hpure)) (.inr ⟨hg,fun c _ _=>by rw[<- hout];exact zda hpure⟩)) (hz.step hp hlp (fun hq=>by cases hq) (.inl rfl)) hk
      ·split at hr
       ·rename_i hh;obtain⟨t',hk,h1,h2,h3⟩:=zbi hno hr;refine zbk hp hno r (p+1) _ _ hl' (h.stepN hp hlp h3p ⟨h1,h2,h3⟩ (.inr rfl) (.inr (.inr (ya5 ..))) (.inr ⟨hg,fun c hc hb2=>?_⟩)) (hz.step hp hlp (fun hq=>by cases hq) (.inl rfl)) hk;by_cases hcK:c=d.K
        ·subst hcK;exact hout
        ·rw[h.hist]at hh;refine zgb hh c (by omega) fun k' h4 h5=>?_
         cases hq:zak B (d.wi k') with
         |false=>rfl
         |true=>have:=hb2 k' h5 hq;omega
       ·subst hr;exact absurd trivial hno
     ·subst hr;exact absurd trivial hno
     ·subst hr;exact absurd trivial hno
   ·subst hr;exact absurd trivial hno
theorem zbJ(hp:PlanOk ops l){f:DRes}(hno:¬zxd f):∀(r:List (Oper×Nat)) (p:Nat) (d:CD) (s:DS),(∀j,r[j]? = l[p+j]?)->Cert P ih ops l t0 M0 T0 d p s->(∀j,j<p->d.kn j≠3)->zaN P ih ops.toList T0 r p s=f->zxZ P ih ops l t0 M0 T0 (p+r.length) f
 |[],p,d,s,_,h,h0,hr=>by
  change DRes.ok s=f at hr
  subst hr;exact⟨d,h,h0⟩
 |(o,B)::r,p,d,s,hl,h,h0,hr=>by
  have hlp:l[p]? = some (o,B):=by have:=hl 0;simpa using this.symm
  have hl':∀j,r[j]? = l[p+1+j]? := fun j=>by
   have:=hl (j+1);rw[yc6]at this;rw[this,show p+(j+1)=p+1+j by omega]
  have hlen:p+((o,B)::r).length=p+1+r.length:=by rw[ya7];omega
  have h3p:∀j,zak B j=true->d.kn j≠3:=fun j hj=>h0 j ((hp.mask p o B hlp).lt j hj)
  have h0':∀kn v,kn≠3->∀j,j<p+1->(d.ext p kn v).kn j≠3:=fun kn v hk j hj=>by
   show(if j=p then kn else d.kn j)≠3;by_cases hjp:j=p
   ·rw[if_pos hjp];exact hk
   ·rw[if_neg hjp];exact h0 j (by omega)
  rw[hlen]
  change zdk P ih ops.toList T0 r o p B (zaN P ih ops.toList T0 r (p+1)) (fun v m=>zaA P ops.toList T0 p v m r (p+1)) s=f at hr
  unfold zdk at hr;split at hr
  ·
   rename_i hlast;unfold zfW at hlast;split at hlast
   ·simp only[ya2]at hlast;have hf:∃tF oF,f=.fin tF oF s:=by
     have hr2:=hr;unfold zhg at hr2;split at hr2<;>first |(subst hr2;exact absurd trivial hno) |skip
     split at hr2<;>first |(subst hr2;exact absurd trivial hno) |skip
     split at hr2<;>first |(subst hr2;exact absurd trivial hno) |skip
     unfold zrK at hr2;split at hr2<;>first |(subst hr2;exact absurd trivial hno) |skip
     split at hr2<;>first |(subst hr2;exact absurd trivial hno) |skip
     exact⟨_,_,hr2.symm⟩
    obtain⟨tF,oF,rfl⟩:=hf;exact⟨d,p,o,B,rfl,h,h0,hlp,hlast.1.2.1,hlast.1.2.2,hr⟩
   ·cases hlast
  ·unfold zcg at hr;split at hr
   ·rename_i hg;obtain⟨t',hk,h1,h2,h3⟩:=zbi hno hr;exact zbJ hp hno r (p+1) _ _ hl' (h.stepN hp hlp h3p ⟨h1,h2,h3⟩ (.inl rfl) (.inl hg) (.inl ⟨hg,rfl⟩)) (h0' 0 _ (by decide)) hk
   ·rename_i hg;split at hr
    ·rename_i hnew;unfold zeQ at hr;split at hr
     ·rename_i v m' hout;split at hr
      ·rename_i ob hob;obtain⟨t',hk,h1,h2,h3⟩:=zbi hno hr;have hout:za4 P (T0+p) o.op ⟨0,.nil⟩ s.t=.mem v m':=hout;rcases zoi (T:=T0+p) hnew s.t with hn |⟨u,ob2,hro,hall⟩
       ·obtain⟨w,hw⟩:=hn ⟨0,.nil⟩;rw[hw]at hout;cases hout
       ·rw[hall]at hout;injection hout with e1 e2
        subst e1;subst e2;obtain⟨g1,g2⟩:=zid hob;have g1:((⟨0,.nil⟩:Mem).newAt (T0+p) ob2).get (T0+p)=some ob:=g1;rw[Mem.get_newAt,if_pos rfl]at g1;cases g1;exact zbJ hp hno r (p+1) _ _ hl' (h.stepA hp hlp h3p ⟨h1,h2,h3⟩ hro hg hall) (h0' 1 _ (by decide)) hk
      ·subst hr;exact absurd trivial hno
     ·subst hr;exact absurd trivial hno
     ·subst hr;exact absurd trivial hno
    ·unfold ztQ at hr;have hmem:zaV (zaq B s.cl) s.as s.cur=zas d s.as B d.K:=by unfold zas;rw[h.cur,h.cl]
     rw[hmem]at hr;have hcop:za4 P (zas d s.as B d.K).nxt o.op (zas d s.as B d.K) s.t=cop P o.op (zas d s.as B d.K) s.t:=rfl;rw[hcop]at hr;have hW:∀out,cop P o.op (zas d s.as B d.K) s.t=out->zpq P p B o.dst s (zaN P ih ops.toList T0 r (p+1)) (znr ih (zas d s.as B d.K) out)=f->zxZ P ih ops l t0 M0 T0 (p+1+r.length) f:=fun out hout hr=>by
      unfold zpq at hr;split at hr
      ·rename_i v m' hov;split at hr
       ·rename_i hch;split at hr
        ·rename_i hag;obtain⟨t',hk,h1,h2,h3⟩:=zbi hno hr;exact zbJ hp hno r (p+1) _ _ hl' (h.stepW hp hlp h3p ⟨h1,h2,h3⟩ hg (by rw[hout];exact hov) hch hag) (h0' 2 v (by decide)) hk
        ·subst hr;exact absurd trivial hno
       ·subst hr;exact absurd trivial hno
      ·subst hr;exact absurd trivial hno
     unfold zc1 at hr;split at hr
     ·rename_i v hout;unfold zbD at hr;split at hr
      ·rename_i hpure;obtain⟨t',hk,h1,h2,h3⟩:=zbi hno hr;exact zbJ hp hno r (p+1) _ _ hl' (h.stepN hp hlp h3p ⟨h1,h2,h3⟩ (.inl rfl) (.inr (.inl hpure)) (.inr ⟨hg,fun c _ _=>by rw[<- hout];exact zda hpure⟩)) (h0' 0 _ (by decide)) hk
      ·split at hr
       ·rename_i hh;obtain⟨t',hk,h1,h2,h3⟩:=zbi hno hr;refine zbJ hp hno r (p+1) _ _ hl' (h.stepN hp hlp h3p ⟨h1,h2,h3⟩ (.inr rfl) (.inr (.inr (ya5 ..))) (.inr ⟨hg,fun c hc hb=>?_⟩)) (h0' 0 _ (by decide)) hk;by_cases hcK:c=d.K
        ·subst hcK;exact hout
        ·rw[h.hist]at hh;refine zgb hh c (by omega) fun k' h4 h5=>?_
         cases hq:zak B (d.wi k') with
         |false=>rfl
         |true=>have:=hb k' h5 hq;omega
       ·subst hr;exact absurd trivial hno
     ·subst hr;exact absurd trivial hno
     ·rename_i g args hout;unfold zg5 at hr;split at hr
      ·
       rename_i v mp hpan;unfold zkE at hr;split at hr
       ·rename_i hch;have hz:PanOk P ih ops l t0 (d.ext p 3 zam) s.as (p+1) p v mp:=by
         refine⟨by omega,if_pos rfl,fun q B' hq=>?_,fun j q B' hj hq h3=>?_⟩
         ·rw[hlp]at hq;cases hq;refine⟨fun k hk=>?_,fun t ha=>?_⟩
          ·have hk:k+1=d.K:=hk;rw[h.hist,<- hk]at hch;exact hch
          ·have ha':=(Agr.ext hp (Nat.le_refl p) hlp).1 ha;have hagr:=h.agr hp (hp.lt hlp) (Nat.le_refl p) hlp h3p;have e1:cop P o.op (zas d s.as B d.K) t=cop P o.op (zas d s.as B d.K) s.t:=zbj fun u hu=>ha'.eq hagr u (.inl hu)
           refine⟨by rw[zcS (ha'.eq hagr)];exact hg,g,args,?_,hpan⟩;show cop P o.op (zas d s.as B d.K) t=_;rw[e1];exact hout
         ·by_cases hjp:j=p
          ·exact .inl hjp
          ·have:(if j=p then 3 else d.kn j)=3:=h3;rw[if_neg hjp]at this;exact absurd this (h0 j (by omega))
        obtain⟨d',s',rfl,h4,h5⟩:=zbk hp hno r (p+1) _ s hl' (h.skip hp hlp) hz hr;exact⟨d',p,h4,h5⟩
       ·subst hr;exact absurd trivial hno
      ·exact hW (.call g args) hout hr
     ·rename_i out hn1 hn2 hn3;exact hW _ rfl hr
   ·subst hr;exact absurd trivial hno
end step
end Go.Cx
