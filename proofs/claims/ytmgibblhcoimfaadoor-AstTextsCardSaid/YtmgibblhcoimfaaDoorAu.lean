import Derived.Test.YtmgibblhcoimfaaDoorAb
import Derived.Test.YtmgibblhcoimfaaDoorGh
set_option linter.unusedSimpArgs false
set_option linter.unusedVariables false
set_option maxRecDepth 100000
namespace Go.Proofs.YtmgibblhcoimfaaDoor
open Go Go.Cx
section
variable{H:Type}{P:Program}{n:Nat}{t:TypeId}{d:DataW H}
theorem znI(ht:P.underlying t=some .string)(h:wfD P n t d):∃s:List UInt8,d=.lit (.string s)/\s.length<=maxLen/\svD P n t d=[zzQ s]:=by
 cases n with
 |zero=>exact h.elim
 |succ n=>
  cases d with
  |lit l=>
   cases l with
   |string s=>
    simp only[wfD,ht]at h;exact⟨s,rfl,h,by simp only[svD,ht];rfl⟩
   |_=>simp only[wfD,ht]at h
  |_=>simp only[wfD,ht]at h
end
variable{H:Type}
theorem zvv{A:Type}{l:List A}(h:l.length=2):∃a b,l=[a,b]:=by
 match l,h with
 |[a,b],_=>exact⟨a,b,rfl⟩
theorem zAa{A:Type}{l:List A}(h:l.length=4):∃a b c d,l=[a,b,c,d]:=by
 match l,h with
 |[a,b,c,d],_=>exact⟨a,b,c,d,rfl⟩
theorem ztR{A:Type}{l:List A}(h:l.length=5):∃a b c d e,l=[a,b,c,d,e]:=by
 match l,h with
 |[a,b,c,d,e],_=>exact⟨a,b,c,d,e,rfl⟩
theorem zqe(n:Nat)(d:DataW H)(h:wfD Tryd.prog n 49 d):∃c:AggM,svD Tryd.prog n 49 d=zzb c:=by
 obtain⟨m,parts,_,_,hl,hp,hs⟩:=zdG Tryd.underlying49 h;obtain⟨a,b,rfl⟩:=zvv hl;obtain⟨x0,_,_,s0⟩:=zf9 Tryd.underlying3 (hp 0 _ _ rfl rfl);obtain⟨x1,_,_,s1⟩:=znI Tryd.underlying9 (hp 1 _ _ rfl rfl);refine⟨⟨x0,x1⟩,?_⟩;rw[hs];show svD _ _ _ _++(svD _ _ _ _++[])=_;rw[s0,s1];rfl
theorem zBh{l:List NodeM}{i:Nat}(hi:i<l.length):zfR l i=zay (l.getD i default):=by
 unfold zfR;rw[zjp,ya8,yb9,ya8,yb5 hi];rfl
theorem ztl(a b c:Int)(x:AtomM)(l:List NodeM):zay (.mk a b c x l)=[ai a]++([ai b]++([ai c]++(zfZ x++([.isl 9 l.length (zfR l)]++[])))):=rfl
theorem zsx(q:QueryM):zb8 q=zay q.p++([au q.within]++([.isl 4 q.hv.length (zh9 q.hv)]++([.isl 2 q.em.length (zsl q.em)]++[]))):=rfl
end Go.Proofs.YtmgibblhcoimfaaDoor
