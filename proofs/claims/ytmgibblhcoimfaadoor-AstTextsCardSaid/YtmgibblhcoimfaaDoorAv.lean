import Derived.Test.YtmgibblhcoimfaaDoorAu
set_option linter.unusedSimpArgs false
set_option linter.unusedVariables false
set_option maxRecDepth 100000
namespace Go.Proofs.YtmgibblhcoimfaaDoor
open Go Go.Cx
def zAI(c:CondM):Prop := -9223372036854775808<=c.val/\c.val<=9223372036854775807
structure ANum(a:AtomM):Prop where
 bound:0<=a.bound/\a.bound<=18446744073709551615
 cond:∀c∈a.cs,zAI c
def NumN(n:NodeM):Prop:=∀d p,p∈zbf d n->ANum p.2.atom
structure QNum(q:QueryM):Prop where
 p:NumN q.p
 within:0<=q.within/\q.within<=18446744073709551615
 hv:∀h∈q.hv,zAI h.cond
theorem zxi{x:Int}(h:(Lit.int .i64 x).wf=true) : -9223372036854775808<=x/\x<=9223372036854775807:=by
 unfold Lit.wf at h;rw[ya2,decide_eq_true_eq,decide_eq_true_eq]at h;exact h
theorem zti{x:Int}(h:(Lit.int .u64 x).wf=true):0<=x/\x<=18446744073709551615:=by
 unfold Lit.wf at h;rw[ya2,decide_eq_true_eq,decide_eq_true_eq]at h;exact h
section
variable{H:Type}{P:Program}{n:Nat}{t:TypeId}{d:DataW H}
theorem zyD{A B:Type}[Inhabited B]{f:A->List SV}{g:B->List SV}{Q:B->Prop}:∀{l:List A},(∀y∈l,∃b,SameL (f y) (g b)/\Q b)->∃r:List B,r.length=l.length/\(∀(i:Nat) y,l[i]? = some y->SameL (f y) (g (r.getD i default)))/\∀b∈r,Q b
 |[],_=>⟨[],rfl,fun i y h=>by simp at h,fun b h=>by cases h⟩
 |y::l,h=>by
  obtain⟨b,hb,hq⟩:=h y ya5;obtain⟨r,h1,h2,h3⟩:=zyD fun z hz=>h z (ya4 _ hz)
  refine⟨b::r,by simp[h1],fun i z hz=>?_,fun c hc=>?_⟩
  ·cases i with
   |zero=>simp at hz;subst hz;simpa using hb
   |succ i=>simpa using h2 i z (by simpa using hz)
  ·rcases List.mem_cons.1 hc with rfl |hc
   ·exact hq
   ·exact h3 c hc
theorem ziL{e:TypeId}{B:Type}[Inhabited B]{g:B->List SV}{Q:B->Prop}(ht:P.underlying t=some (.slice e))(h:wfD P n t d)(hg:∀m (y:DataW H),m<n->wfD P m e y->∃b,SameL (svD P m e y) (g b)/\Q b):∃(r:List B) (v:SV),r.length<=maxLen/\svD P n t d=[v]/\(∀el':Nat->List SV,(∀i,i<r.length->el' i=g (r.getD i default))->Same v (.isl (P.cellsOf e) r.length el'))/\∀b∈r,Q b:=by
 obtain⟨m,elems,hm,h1,h2,el,h3,h4⟩:=zrb ht h;obtain⟨r,h5,h6,h7⟩:=zyD (f:=fun y=>svD P m e y) (g:=g) (Q:=Q) (l:=elems) fun y hy=>hg m y (by omega) (h2 y hy)
 refine⟨r,_,by omega,h3,fun el' hel=>?_,h7⟩;rw[h5];exact .islD fun i hi=>by
  rw[h4 i _ (yb5 hi),hel i (by omega)];exact h6 i _ (yb5 hi)
end
variable{H:Type}
theorem zkk(n:Nat)(d:DataW H)(h:wfD Tryd.prog n 51 d):∃c:CondM,SameL (svD Tryd.prog n 51 d) (zsO c)/\zAI c:=by
 obtain⟨m,parts,_,_,hl,hp,hs⟩:=zdG Tryd.underlying51 h;obtain⟨a,b,rfl⟩:=zvv hl;obtain⟨x0,_,_,s0⟩:=zf9 Tryd.underlying3 (hp 0 _ _ rfl rfl);obtain⟨x1,_,w1,s1⟩:=zf9 Tryd.underlying2 (hp 1 _ _ rfl rfl);refine⟨⟨x0,x1⟩,?_,zxi w1⟩;rw[hs];show SameL (svD _ _ _ _++(svD _ _ _ _++[])) _;rw[s0,s1];exact SameL.rfl
theorem zst(n:Nat)(d:DataW H)(h:wfD Tryd.prog n 53 d):∃c:HaveM,SameL (svD Tryd.prog n 53 d) (zxS c)/\zAI c.cond:=by
 obtain⟨m,parts,_,_,hl,hp,hs⟩:=zdG Tryd.underlying53 h;obtain⟨a,b,rfl⟩:=zvv hl;obtain⟨x0,s0⟩:=zqe _ _ (hp 0 _ _ rfl rfl);obtain⟨x1,s1,q1⟩:=zkk _ _ (hp 1 _ _ rfl rfl);refine⟨⟨x0,x1⟩,?_,q1⟩;rw[hs];show SameL (svD _ _ _ _++(svD _ _ _ _++[])) (zzb x0++(zsO x1++[]));rw[s0];exact .app SameL.rfl (.app s1 .nil)
theorem zsS(n:Nat)(d:DataW H)(h:wfD Tryd.prog n 25 d):∃c:AtomM,SameL (svD Tryd.prog n 25 d) (zfZ c)/\ANum c:=by
 obtain⟨m,parts,_,_,hl,hp,hs⟩:=zdG Tryd.underlying25 h;obtain⟨a,b,c,d,e,rfl⟩:=ztR hl;obtain⟨x0,_,_,s0⟩:=zf9 Tryd.underlying3 (hp 0 _ _ rfl rfl);obtain⟨x1,_,s1⟩:=zzx Tryd.underlying4 (hp 1 _ _ rfl rfl);obtain⟨x2,_,w2,s2⟩:=zf9 Tryd.underlying22 (hp 2 _ _ rfl rfl);obtain⟨x3,v3,_,s3,e3,q3⟩:=ziL (g:=zsO) (Q:=zAI) Tryd.underlying23 (hp 3 _ _ rfl rfl) fun j y _ hy=>zkk j y hy
 obtain⟨x4,_,_,s4⟩:=znI Tryd.underlying9 (hp 4 _ _ rfl rfl);refine⟨⟨x0,x1,x2,x3,x4⟩,?_,⟨zti w2,q3⟩⟩;rw[hs];show SameL (svD _ _ _ _++(svD _ _ _ _++(svD _ _ _ _++(svD _ _ _ _++(svD _ _ _ _++[]))))) _;rw[s0,s1,s2,s3,s4];have e3:=e3 (zee x3) fun i hi=>rfl
 rw[show Tryd.prog.cellsOf 51=2 by kernel_rfl]at e3;exact .cons (.refl _) (.cons (.refl _) (.cons (.refl _) (.cons e3 (.cons (.refl _) .nil))))
theorem NumN.mk{n:NodeM}(h:ANum n.atom)(hk:∀m∈n.kids,NumN m):NumN n:=fun d p hp=>by
 rw[za7]at hp;rcases List.mem_cons.1 hp with rfl |hp
 ·exact h
 ·obtain⟨m,h1,h2⟩:=List.mem_flatMap.1 hp;exact hk m h1 _ p h2
theorem NumN.self{n:NodeM}(h:NumN n):ANum n.atom:=h 0 (0,n) (by rw[za7];exact ya5)
theorem NumN.kid{n m:NodeM}(h:NumN n)(hm:m∈n.kids):NumN m:=fun d p hp=>by
 have:=h (d - 1) p;exact this (zoI hm (by rw[show d - 1+1=d by omega];exact hp))
theorem zsc:∀(k n:Nat) (hk:n<=k) (d:DataW H) (h:wfD Tryd.prog n 28 d),∃c:NodeM,SameL (svD Tryd.prog n 28 d) (zay c)/\NumN c:=by
 intro k
 induction k with
 |zero=>
  intro n hk d h;obtain rfl:n=0:=by omega
  exact h.elim
 |succ k ih=>
  intro n hk d h;obtain⟨m,parts,hm,_,hl,hp,hs⟩:=zdG Tryd.underlying28 h;obtain⟨a,b,c,d,e,rfl⟩:=ztR hl;obtain⟨x0,_,_,s0⟩:=zf9 Tryd.underlying3 (hp 0 _ _ rfl rfl);obtain⟨x1,_,_,s1⟩:=zf9 Tryd.underlying3 (hp 1 _ _ rfl rfl);obtain⟨x2,_,_,s2⟩:=zf9 Tryd.underlying3 (hp 2 _ _ rfl rfl);obtain⟨x3,s3,q3⟩:=zsS _ _ (hp 3 _ _ rfl rfl);obtain⟨x4,v4,_,s4,e4,q4⟩:=ziL (g:=zay) (Q:=NumN) Tryd.underlying26 (hp 4 _ _ rfl rfl) fun j y hj hy=>ih j (by omega) y hy
  refine⟨.mk x0 x1 x2 x3 x4,?_,.mk q3 q4⟩;rw[hs,ztl];show SameL (svD _ _ _ _++(svD _ _ _ _++(svD _ _ _ _++(svD _ _ _ _++(svD _ _ _ _++[]))))) _;rw[s0,s1,s2,s4];have e4:=e4 (zfR x4) fun i hi=>zBh hi
  rw[show Tryd.prog.cellsOf 28=9 by kernel_rfl]at e4;exact .app SameL.rfl (.app SameL.rfl (.app SameL.rfl (.app s3 (.app (.cons e4 .nil) .nil))))
theorem zjg(n:Nat)(d:DataW H)(h:wfD Tryd.prog n 32 d):∃c:QueryM,SameL (svD Tryd.prog n 32 d) (zb8 c)/\QNum c:=by
 obtain⟨m,parts,hm,_,hl,hp,hs⟩:=zdG Tryd.underlying32 h;obtain⟨a,b,c,d,rfl⟩:=zAa hl;obtain⟨x0,s0,q0⟩:=zsc _ _ (Nat.le_refl _) _ (hp 0 _ _ rfl rfl);obtain⟨x1,_,w1,s1⟩:=zf9 Tryd.underlying22 (hp 1 _ _ rfl rfl);obtain⟨x2,v2,_,s2,e2,q2⟩:=ziL (g:=zxS) (Q:=fun h=>zAI h.cond) Tryd.underlying29 (hp 2 _ _ rfl rfl) fun j y _ hy=>zst j y hy
 obtain⟨x3,_,v3,s3,e3⟩:=zjL (g:=zzb) Tryd.underlying30 (hp 3 _ _ rfl rfl) zqe;refine⟨⟨x0,x1,x2,x3⟩,?_,⟨q0,zti w1,q2⟩⟩;rw[hs,zsx];show SameL (svD _ _ _ _++(svD _ _ _ _++(svD _ _ _ _++(svD _ _ _ _++[])))) _;rw[s1,s2,s3];have e2:=e2 (zh9 x2) fun i hi=>rfl
 rw[show Tryd.prog.cellsOf 53=4 by kernel_rfl]at e2;rw[show Tryd.prog.cellsOf 49=2 by kernel_rfl]at e3;exact .app s0 (.app SameL.rfl (.app (.cons e2 .nil) (.app (.cons e3 .nil) .nil)))
end Go.Proofs.YtmgibblhcoimfaaDoor
