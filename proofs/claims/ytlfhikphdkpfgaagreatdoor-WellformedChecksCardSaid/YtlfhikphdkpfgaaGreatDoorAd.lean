import Derived.Test.YtlfhikphdkpfgaaGreatDoorAc
set_option linter.unusedSimpArgs false
set_option linter.unusedVariables false
set_option maxRecDepth 100000
namespace Go.Proofs.YtlfhikphdkpfgaaGreatDoor
open Go Go.Cx
def zc1 (n : NodeM) : Bool := n.kind == 1 || n.kind == 2
theorem zwC (n : NodeM) : DSpec Tryz.prog axX axG 74 [.agg (zah n)] [] (fun v O => v = ab (zc1 n) /\ O = []) := by
 refine zac { glb := axG } true Tryz.func74 (by kernel_rfl) rfl ?_
 repeat' (
   (conv => whnf)
   first
    | exact zad (by kernel_rfl)
    | refine And.intro ?_ ?_
    | refine zaa ?_ ?_
    | intro _)
 all_goals first
  | rfl
  | (unfold zc1; ((try (refine congrArg (fun b => SV.cv (CV.bool b)) ?_)); (try rw [Bool.eq_iff_iff]); simp only [zz] at *; first | done | omega))
theorem zk3 (n : NodeM) (d : Int) : DSpec Tryz.prog axX axG 103 [.agg (zah n), ai d] [] (fun v O => v = .fn 122 [] [.ipt [ai d] 0, .ipt (zah n) 0] /\ O = []) := by
 refine zac { glb := axG } true Tryz.func103 (by kernel_rfl) rfl ?_
 repeat' (
   (conv => whnf)
   first
    | exact zad (by kernel_rfl)
    | refine And.intro ?_ ?_
    | refine zaa ?_ ?_
    | intro _)
 all_goals first
  | rfl
def ysP (l : List (Int × NodeM)) : Nat -> Option (List SV) := fun k => (l[k]?).map fun p => [ai p.1, .agg (zah p.2)]
theorem zhL {l : List (Int × NodeM)} {k : Nat} {vs : List SV} (h : ysP l k = some vs) : ∃ p, l[k]? = some p /\ vs = [ai p.1, .agg (zah p.2)] := by
 unfold ysP at h
 cases hq : l[k]? with
 | none => rw [hq] at h; cases h
 | some p => rw [hq] at h; cases h; exact ⟨p, rfl, rfl⟩
theorem zzk {l : List (Int × NodeM)} {k : Nat} {p : Int × NodeM} (h : l[k]? = some p) : ysP l k = some [ai p.1, .agg (zah p.2)] := by
 unfold ysP; rw [h]; rfl
theorem zqj (d : Int) (n : NodeM) : ysP (zaL d n) 0 = some [ai d, .agg (zah n)] := by
 unfold ysP; rw [zbg]; rfl
def zrw (d : Int) (n : NodeM) (k : Nat) : Nat := 1 + ((n.kids.take k).flatMap (zaL (d + 1))).length
theorem zja {d : Int} {n : NodeM} {k : Nat} (hk : k < n.kids.length) : zrw d n (k + 1) = zrw d n k + (zaL (d + 1) (atN n.kids k)).length := by
 unfold zrw
 rw [List.take_add_one, List.getElem?_eq_getElem hk, List.flatMap_append, List.length_append, zhb hk]
 simp
 omega
theorem zlQ (d : Int) (n : NodeM) : zrw d n n.kids.length = (zaL d n).length := by
 unfold zrw
 rw [List.take_of_length_le (Nat.le_refl _), zbg]
 simp
 omega
theorem zul {d : Int} {n : NodeM} {k j : Nat} {p : Int × NodeM} (hk : k < n.kids.length) (hp : (zaL (d + 1) (atN n.kids k))[j]? = some p) : (zaL d n)[zrw d n k + j]? = some p := by
 have hs : n.kids = n.kids.take k ++ (atN n.kids k :: n.kids.drop (k + 1)) := by
  rw [zhb hk]
  simp
 rw [zbg]
 unfold zrw
 rw [show 1 + ((n.kids.take k).flatMap (zaL (d + 1))).length + j = (((n.kids.take k).flatMap (zaL (d + 1))).length + j) + 1 by omega, List.getElem?_cons_succ]
 have : n.kids.flatMap (zaL (d + 1)) = (n.kids.take k).flatMap (zaL (d + 1)) ++ (zaL (d + 1) (atN n.kids k) ++ (n.kids.drop (k + 1)).flatMap (zaL (d + 1))) := by
  conv => lhs; rw [hs]
  rw [List.flatMap_append, List.flatMap_cons]
 have hj : j < (zaL (d + 1) (atN n.kids k)).length := (List.getElem?_eq_some_iff.1 hp).1
 rw [this, List.getElem?_append_right (by omega), List.getElem?_append_left (by omega), show ((n.kids.take k).flatMap (zaL (d + 1))).length + j - ((n.kids.take k).flatMap (zaL (d + 1))).length = j by omega]
 exact hp
set_option maxRecDepth 100000 in
set_option maxHeartbeats 4000000 in
theorem zl1 : ∀ (n : NodeM) (hn : Fit n) (d : Int) (hd : 0 ≤ d /\ d + n.dep ≤ 1000000), DIter Tryz.prog axX axG 122 (fun l => [.cv (.yld l), .ipt [ai d] 0, .ipt (zah n) 0]) (ysP (zaL d n)) (fun g v => v = .tup [] /\ (g.st = false -> g.n = (zaL d n).length)) := by
 intro n
 induction n using zbH with | h n ih => ?_
 intro hn d hd
 have hz := hn.self.1
 rcases zbr n with he | he
 all_goals try rw [he]
 all_goals
  refine zh0 { glb := axG, ann := [(3, [16])] } Tryz.func122 (by kernel_rfl) rfl fun l => ?_
  repeat' (
    (conv => whnf)
    first
     | exact zad (by kernel_rfl)
     | refine And.intro ?_ ?_
     | refine zaa ?_ ?_
     | ((refine ⟨fun vs O g => ∃ k : Nat, k ≤ n.kids.length /\ vs = [ai k] /\ O = [.cells 149 [.cv (.yld l)]] /\ g = ⟨zrw d n k, false⟩, fun vs O => match vs with | [.cv (.int _ k)] => n.kids.length - k.toNat | _ => 0, ⟨0, Nat.zero_le _, rfl, rfl, rfl⟩, ?_⟩; rintro vs O g ⟨k, hk, rfl, rfl, rfl⟩))
     | (refine ⟨_, zk3 (atN n.kids k) (d + 1), ?_⟩; rintro v O' ⟨rfl, rfl⟩)
     | ((refine ⟨_, _, ih (atN n.kids k) (zaY (by (simp only [zz] at *; omega))) (hn.kid (zaY (by (simp only [zz] at *; omega)))) (d + 1) (by have := zgU (zaY (l := n.kids) (k := k) (by (simp only [zz] at *; omega))); omega), fun j O g => O = [.cells 149 [.cv (.yld l)], .cells 28 (zah (atN n.kids k))] /\ g = ⟨zrw d n k + j, false⟩, ⟨rfl, rfl⟩, ?_, ?_⟩; rintro j O' g' vs ⟨rfl, rfl⟩ hy; obtain ⟨p, hp, rfl⟩ := zhL hy; rotate_left; rintro j O' g' v ⟨rfl, rfl⟩ hy))
     | intro _)
  all_goals first
   | rfl
   | omega
   | (simp only [zz] at *; omega)
   | exact zqj d n
   | exact (zqj d n).trans (by rw [he]; rfl)
   | exact stA (by assumption)
   | (rw [show k = n.kids.length by (simp only [zz] at *; omega)]; exact zlQ d n)
   | (exfalso; (simp only [zz] at *; omega))
   | exact zzk (zul (by (simp only [zz] at *; omega)) hp)
   | exact ⟨k + 1, by (simp only [zz] at *; omega), rfl, rfl, by have hq := hy.2 rfl; rw [zja (by (simp only [zz] at *; omega)), <- hq]⟩
end Go.Proofs.YtlfhikphdkpfgaaGreatDoor
