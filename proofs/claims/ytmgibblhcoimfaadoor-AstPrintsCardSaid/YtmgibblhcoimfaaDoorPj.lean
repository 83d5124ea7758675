import Derived.Test.YtmgibblhcoimfaaDoorPi
set_option linter.unusedSimpArgs false
set_option linter.unusedVariables false
set_option maxRecDepth 100000
namespace Go.Proofs.YtmgibblhcoimfaaDoor
open Go Go.Cx
def zf6(t:List Nat):SV:=bif decide ((t.length:Int) > 400)then .tup [.cv (.str []),ai 4]else .tup [.cv (.str t),ai 0]
theorem zc1{t:List Nat}(h:decide ((t.length:Int) > 400)=true):SV.tup [.cv (.str []),ai 4]=zf6 t:=by unfold zf6;rw[h];rfl
theorem zdk{t:List Nat}(h:decide ((t.length:Int) > 400)=false):SV.tup [.cv (.str t),ai 0]=zf6 t:=by unfold zf6;rw[h];rfl
theorem zpk{bs:List Nat}{n:Nat}{el:Nat->List SV}(hb:Byt bs n el)(h0:0<n)(hl:n<=1000000)(hz:decide ((bs.length:Int) > 400)=true):DSpec Tryd.prog axX axG 22 [.agg [.ptr 0 0]] (B1 n el) (fun v O=>v=.tup [.cv (.str []),ai 4]/\O=B1 n el):=by
 refine zac { glb:=axG } true Tryd.func22 (by kernel_rfl) rfl ?_
 repeat' (
   (conv=>whnf)
   first
    |exact zad (by kernel_rfl)
    |refine And.intro ?_ ?_
    |refine zaa ?_ ?_
    |(refine⟨_,zwv hb hl,?_⟩;rintro v O' ⟨rfl,rfl⟩)
    |(refine⟨_,zw3 hb h0 hl,?_⟩;rintro v O' ⟨rfl,rfl⟩)
    |intro _)
 all_goals first
  |rfl
  |omega
  |(exfalso;rename_i hh;rw[hz]at hh;cases hh)
theorem zpc{bs:List Nat}{n:Nat}{el:Nat->List SV}(hb:Byt bs n el)(h0:0<n)(hl:n<=1000000)(hz:decide ((bs.length:Int) > 400)=false):DSpec Tryd.prog axX axG 22 [.agg [.ptr 0 0]] (B1 n el) (fun v O=>v=.tup [.cv (.str bs),ai 0]/\O=[.cells 61 [.ptr 0 0,.junk],.list 5 1 0 el]):=by
 refine zac { glb:=axG } true Tryd.func22 (by kernel_rfl) rfl ?_
 repeat' (
   (conv=>whnf)
   first
    |exact zad (by kernel_rfl)
    |refine And.intro ?_ ?_
    |refine zaa ?_ ?_
    |(refine⟨_,zwv hb hl,?_⟩;rintro v O' ⟨rfl,rfl⟩)
    |(refine⟨_,zw3 hb h0 hl,?_⟩;rintro v O' ⟨rfl,rfl⟩)
    |intro _)
 all_goals first
  |rfl
  |omega
  |(exfalso;rename_i hh;rw[hz]at hh;cases hh)
theorem zsm{d:Nat}{n:NodeM}(h:Snd d n)(hk:∀m∈n.kids,0<(za3 d m).length):0<(za3 (d+1) n).length:=by
 rw[zsd h.kind];have:=h.kind;have hc:n.kind=1\/n.kind=2\/n.kind=3\/n.kind=4:=by omega
 rcases hc with hc |hc |hc |hc
 ·rw[tN1 hc];unfold zcq;simp
 ·rw[tN2 hc];simp
 ·have h2:=(h.kids (by omega)).1;have h3:=zfw (f:=za3 d) (sep:=[32,59,32]) (g:=gS) (l:=n.kids) (by omega);have h4:=hk _ (zd7 (l:=n.kids) (k:=0) (by omega));rw[tN3 hc];omega
 ·have h2:=(h.kids (by omega)).1;have h3:=zfw (f:=za3 d) (sep:=[32,124,32]) (g:=gA) (l:=n.kids) (by omega);have h4:=hk _ (zd7 (l:=n.kids) (k:=0) (by omega));rw[tN4 hc];omega
theorem zkt:∀(d:Nat) (n:NodeM),zaz d n=true->0<(za3 d n).length
 |0,n,h=>by cases h
 |d+1,n,h=>zsm (znw h) fun m hm=>zkt d m (by
  have hS:=znw h;by_cases hc:n.kind<=2
  ·rw[(hS.leaf hc).1]at hm;cases hm
  ·exact(hS.kids (by omega)).2.2 m hm)
noncomputable def zwY(n:NodeM):SV:=bif zaz 200 n then zf6 (za3 200 n)else .tup [.cv (.str []),ai (zbo n)]
theorem zBe(n:NodeM)(hn:Fit n)(hN:NumN n)(hF:Few n)(hz:(zc2 1 n).length<=250):DSpec Tryd.prog axX axG 9 [.agg (zaK n)] [] (fun v O=>v=zwY n/\O=[]):=by
 have hS:=zoq n hn;cases hs:zaz 200 n with
 |false=>
  have he:zbo n≠0:=by unfold zbo;rw[hs];decide
  unfold zwY;rw[hs];refine zac { glb:=axG } true Tryd.func9 (by kernel_rfl) rfl ?_
  repeat' (
    (conv=>whnf)
    first
     |exact zad (by kernel_rfl)
     |refine And.intro ?_ ?_
     |refine zaa ?_ ?_
     |(refine⟨_,hS,?_⟩;rintro v O' ⟨rfl,rfl⟩)
     |intro _)
  all_goals first
   |rfl
   |exact⟨rfl,rfl⟩
   |(exfalso;(simp only[zz]at *;omega))
 |true=>
  have he:zbo n=0:=by unfold zbo;rw[hs];rfl
  rw[he]at hS;have hp:=(zoI 200 n hs hN hF hz).2;have hl:=zcO 200 n hs hN hF;have h0:=zkt 200 n hs;unfold zwY;rw[hs];refine zac { glb:=axG } true Tryd.func9 (by kernel_rfl) rfl ?_;cases hz4:decide (((za3 200 n).length:Int) > 400)
  all_goals
   repeat' (
     (conv=>whnf)
     first
      |exact zad (by kernel_rfl)
      |refine And.intro ?_ ?_
      |refine zaa ?_ ?_
      |(refine⟨_,hS,?_⟩;rintro v O' ⟨rfl,rfl⟩)
      |(refine⟨_,hp,?_⟩;rintro v O' ⟨rfl,n',el',hb,rfl⟩)
      |(refine⟨_,zpk hb (by have:=hb.1;omega) (by have:=hb.1;omega) hz4,?_⟩;rintro v O' ⟨rfl,rfl⟩)
      |(refine⟨_,zpc hb (by have:=hb.1;omega) (by have:=hb.1;omega) hz4,?_⟩;rintro v O' ⟨rfl,rfl⟩)
      |intro _)
  all_goals first
   |rfl
   |exact⟨rfl,rfl⟩
   |exact zc1 hz4
   |exact zdk hz4
   |(exfalso;(simp only[zz]at *;omega))
end Go.Proofs.YtmgibblhcoimfaaDoor
