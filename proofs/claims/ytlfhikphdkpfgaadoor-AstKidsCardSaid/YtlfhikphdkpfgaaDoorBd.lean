import Derived.Test.YtlfhikphdkpfgaaDoorBc
import Derived.Test.YtlfhikphdkpfgaaDoorAm
set_option linter.unusedSimpArgs false
set_option linter.unusedVariables false
set_option maxRecDepth 100000
namespace Go.Proofs.YtlfhikphdkpfgaaDoor
open Go Go.Cx
theorem zrF (n : NodeM) (hn : NFit n) : DSpec Tryd.prog axX axG 44 [.agg (zaj n)] [] (fun v O => v = .tup [ai ((zfX n).length : Int), ai (zay n)] /\ O = []) := by
 refine zac { glb := axG } true Tryd.func44 (by kernel_rfl) rfl ?_
 repeat' (
   (conv => whnf)
   first
    | exact zad (by kernel_rfl)
    | refine And.intro ?_ ?_
    | refine zaa ?_ ?_
    | (refine ⟨_, zpq n hn, ?_⟩; rintro v O' ⟨rfl, rfl⟩)
    | intro _)
 all_goals first
  | rfl
def zrR (n : NodeM) (k : Nat) : Nat := 1 + ((n.kids.take k).flatMap (zaE 1)).length
theorem zkd (n : NodeM) : zrR n n.kids.length = (zaE 1 n).length := by
 unfold zrR
 rw [List.take_length, zaG, List.length_cons, zeg, zeg, Nat.add_comm]
 congr 2
 exact List.map_congr_left fun m _ => zn9 m _ _
theorem zmG {n : NodeM} {k : Nat} (hk : k < n.kids.length) : zrR n (k + 1) = zrR n k + (zaE 1 (atN n.kids k)).length := by
 unfold zrR
 rw [List.take_add_one, List.getElem?_eq_getElem hk, Option.toList_some, List.flatMap_append, List.length_append, zia hk]
 simp; omega
theorem zij {n : NodeM} {k : Nat} : zrR n k ≤ (zaE 1 n).length := by
 rw [<- zkd n]
 unfold zrR
 have : ∀ {l : List NodeM} {k : Nat}, ((l.take k).flatMap (zaE 1)).length ≤ (l.flatMap (zaE 1)).length := fun {l k} => by
  conv => rhs; rw [<- List.take_append_drop k l]
  rw [List.flatMap_append, List.length_append]; omega
 rw [List.take_length]
 have := this (l := n.kids) (k := k); omega
set_option maxHeartbeats 4000000 in
theorem ztQ : ∀ (n : NodeM) (hn : Fit n) (hnum : (zaE 1 n).length ≤ 100000), DSpec Tryd.prog axX axG 112 [.agg (zaj n)] [] (fun v O => v = ai ((zaE 1 n).length : Int) /\ O = []) := by
 intro n
 induction n using zce with | h n ih => ?_
 intro hn hnum
 have hz := hn.self.1
 rcases zbM n with he | he
 all_goals try rw [he]
 all_goals
  refine zac { glb := axG, ann := [(3, [4, 3])] } true Tryd.func112 (by kernel_rfl) rfl ?_
  repeat' (
    (conv => whnf)
    first
     | exact zad (by kernel_rfl)
     | refine And.intro ?_ ?_
     | refine zaa ?_ ?_
     | ((refine ⟨fun vs O _ => ∃ k : Nat, k ≤ n.kids.length /\ vs = [ai k, ai (zrR n k : Int)] /\ O = [.cells 42 (zfm n _)], fun vs O => match vs with | [.cv (.int _ k), _] => n.kids.length - k.toNat | _ => 0, ⟨0, Nat.zero_le _, rfl, rfl⟩, ?_⟩; rintro vs O _ ⟨k, hk, rfl, rfl⟩))
     | (refine ⟨_, ih (atN n.kids k) (zba (by (simp only [zz] at *; omega))) (hn.kid (zba (by (simp only [zz] at *; omega)))) (zgb hnum (zba (l := n.kids) (k := k) (by (simp only [zz] at *; omega)))), ?_⟩; rintro v O' ⟨rfl, rfl⟩)
     | intro _)
  all_goals try have hle := @zij n k
  all_goals try have hle1 := @zij n (k + 1)
  all_goals try have hst := zmG (n := n) (k := k) (by (simp only [zz] at *; omega))
  all_goals first
   | rfl
   | omega
   | (simp only [zz] at *; omega)
   | (exfalso; (simp only [zz] at *; omega))
   | exact ⟨k + 1, by (simp only [zz] at *; omega), by rw [hst]; rfl, rfl⟩
   | (refine congrArg (fun x => SV.cv (CV.int .i64 x)) ?_; rw [<- zkd n, show k = n.kids.length by (simp only [zz] at *; omega)])
theorem zt8 (n : NodeM) (hn : NFit n) : DSpec Tryd.prog axX axG 52 [.agg (zaj n)] [] (fun v O => v = .tup [ai ((zfX n).length : Int), ai (zay n)] /\ O = []) := by
 refine zac { glb := axG } true Tryd.func52 (by kernel_rfl) rfl ?_
 repeat' (
   (conv => whnf)
   first
    | exact zad (by kernel_rfl)
    | refine And.intro ?_ ?_
    | refine zaa ?_ ?_
    | (refine ⟨_, zg7 n hn.fit, ?_⟩; rintro v O' ⟨rfl, rfl⟩)
    | (refine ⟨_, ztQ n hn.fit hn.num, ?_⟩; rintro v O' ⟨rfl, rfl⟩)
    | intro _)
 all_goals first
  | rfl
  | (have hs := zer (by assumption); unfold zfX zcY; rw [hs]; rfl)
  | (have hs := zaO (by assumption); rw [(zfl hs.1).2, hs.2])
set_option maxHeartbeats 8000000 in
theorem znm (l : List AtomM) (hl : l.length ≤ 1000000) (hc : ∀ a ∈ l, a.cs.length ≤ 1000000) : DSpec Tryd.prog axX axG 46 [.isl 5 l.length (elF zbA l), .isl 5 l.length (elF zbA l)] [] (fun v O => v = ab true /\ O = []) := by
 have hat : ∀ k, k < l.length -> (l.getD k default).cs.length ≤ 1000000 := fun k hk => by
  rw [List.getD_eq_getElem?_getD, List.getElem?_eq_getElem hk]; exact hc _ (List.getElem_mem hk)
 refine zac { glb := axG, ann := [(4, [5]), (10, [8])] } true Tryd.func46 (by kernel_rfl) rfl ?_
 repeat' (
   (conv => whnf)
   first
    | exact zad (by kernel_rfl)
    | refine And.intro ?_ ?_
    | refine zaa ?_ ?_
    | ((have hkl := hk1; refine ⟨fun vs O _ => ∃ j : Nat, j ≤ (l.getD k default).cs.length /\ vs = [ai j] /\ O = [.cells 39 (zbA (l.getD k default)), .cells 39 (zbA (l.getD k default))], fun vs O => match vs with | [.cv (.int _ j)] => (l.getD k default).cs.length - j.toNat | _ => 0, ⟨0, Nat.zero_le _, rfl, rfl⟩, ?_⟩; rintro vs O _ ⟨j, hj, rfl, rfl⟩))
    | ((refine ⟨fun vs O _ => ∃ k : Nat, k ≤ l.length /\ vs = [ai k] /\ O = [], fun vs O => match vs with | [.cv (.int _ k)] => l.length - k.toNat | _ => 0, ⟨0, Nat.zero_le _, rfl, rfl⟩, ?_⟩; rintro vs O _ ⟨k, hk1, rfl, rfl⟩))
    | intro _)
 all_goals try have hck := hat k (by (simp only [zz] at *; omega))
 all_goals first
  | rfl
  | omega
  | (simp only [zz] at *; omega)
  | exact zd2
  | exact ⟨k + 1, by (simp only [zz] at *; omega), rfl, rfl⟩
  | exact ⟨j + 1, by (simp only [zz] at *; omega), rfl, rfl⟩
  | (exfalso; (simp only [zz] at *; omega))
  | (rename_i hz; exfalso; simp [zdS] at hz; done)
  | (exfalso; simp_all [zdS]; done)
theorem zng (l : List Bool) (hl : l.length ≤ 1000000) : DSpec Tryd.prog axX axG 50 [.isl 1 l.length (elF zkL l), .isl 1 l.length (elF zkL l)] [] (fun v O => v = ab true /\ O = []) := by
 refine zac { glb := axG, ann := [(4, [5])] } true Tryd.func50 (by kernel_rfl) rfl ?_
 repeat' (
   (conv => whnf)
   first
    | exact zad (by kernel_rfl)
    | refine And.intro ?_ ?_
    | refine zaa ?_ ?_
    | ((refine ⟨fun vs O _ => ∃ k : Nat, k ≤ l.length /\ vs = [ai k] /\ O = [], fun vs O => match vs with | [.cv (.int _ k)] => l.length - k.toNat | _ => 0, ⟨0, Nat.zero_le _, rfl, rfl⟩, ?_⟩; rintro vs O _ ⟨k, hk1, rfl, rfl⟩))
    | intro _)
 all_goals first
  | rfl
  | omega
  | (simp only [zz] at *; omega)
  | exact ⟨k + 1, by (simp only [zz] at *; omega), rfl, rfl⟩
  | (exfalso; (simp only [zz] at *; omega))
  | (rename_i hz; exfalso; simp at hz; done)
  | (exfalso; simp_all; done)
end Go.Proofs.YtlfhikphdkpfgaaDoor
