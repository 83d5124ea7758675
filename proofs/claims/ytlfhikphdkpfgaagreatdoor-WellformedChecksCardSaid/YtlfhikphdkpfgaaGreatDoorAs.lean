import Derived.Test.YtlfhikphdkpfgaaGreatDoorAr
set_option linter.unusedSimpArgs false
set_option linter.unusedVariables false
set_option maxRecDepth 100000
namespace Go.Proofs.YtlfhikphdkpfgaaGreatDoor
open Go Go.Cx
theorem zbt : ∀ s : List Nat, za1 s s = true
 | [] => rfl
 | a :: r => by
  unfold za1
  rw [Nat.beq_refl]; exact zbt r
theorem zdp : StoodNo Tryz.prog 59 := ⟨by kernel_rfl⟩
theorem zev : StoodNo Tryz.prog 57 := ⟨by kernel_rfl⟩
theorem zdt : StoodNo Tryz.prog 61 := ⟨by kernel_rfl⟩
set_option maxHeartbeats 4000000 in
theorem zkn (a : AtomM) (hl : a.cs.length ≤ 1000000) : DSpec Tryz.prog axX axG 79 [.agg (zcU a), .agg (zcU a)] [] (fun v O => v = ab true /\ O = []) := by
 refine zac { glb := axG, ann := [(4, [5])] } true Tryz.func79 (by kernel_rfl) rfl ?_
 repeat' (
   (conv => whnf)
   first
    | exact zad (by kernel_rfl)
    | refine And.intro ?_ ?_
    | refine zaa ?_ ?_
    | ((refine ⟨fun vs O _ => ∃ k : Nat, k ≤ a.cs.length /\ vs = [ai k] /\ O = [.cells 25 (zcU a), .cells 25 (zcU a)], fun vs O => match vs with | [.cv (.int _ k)] => a.cs.length - k.toNat | _ => 0, ⟨0, Nat.zero_le _, rfl, rfl⟩, ?_⟩; rintro vs O _ ⟨k, hk, rfl, rfl⟩))
    | intro _)
 all_goals first
  | rfl
  | omega
  | (simp only [zz] at *; omega)
  | exact ⟨k + 1, by (simp only [zz] at *; omega), rfl, rfl⟩
  | exact zdp
  | exact zev
  | exact zdt
  | (rename_i hz; exfalso; simp [zbt] at hz; done)
  | (exfalso; simp_all [zbt]; done)
set_option maxHeartbeats 4000000 in
theorem zqC (n : NodeM) : Fit n -> DSpec Tryz.prog axX axG 48 [.agg (zah n), .agg (zah n)] [] (fun v O => v = ab true /\ O = []) := by
 refine zbH (p := fun n => Fit n -> DSpec Tryz.prog axX axG 48 [.agg (zah n), .agg (zah n)] [] (fun v O => v = ab true /\ O = [])) ?_ n
 clear n
 intro n ih0 hn
 have ih : ∀ m ∈ n.kids, DSpec Tryz.prog axX axG 48 [.agg (zah m), .agg (zah m)] [] (fun v O => v = ab true /\ O = []) := fun m hm => ih0 m hm (hn.kid hm)
 have hz := hn.self.1
 have hc := hn.self.2
 rcases zbr n with he | he
 ·skip
  refine zac { glb := axG, ann := [(4, [5])] } true Tryz.func48 (by kernel_rfl) rfl ?_
  repeat' (
    (conv => whnf)
    first
     | exact zad (by kernel_rfl)
     | refine And.intro ?_ ?_
     | refine zaa ?_ ?_
     | (refine ⟨_, zkn n.atom hc, ?_⟩; rintro v O' ⟨rfl, rfl⟩)
     | (refine ⟨_, ih (atN n.kids k) (zaY (by (simp only [zz] at *; omega))), ?_⟩; rintro v O' ⟨rfl, rfl⟩)
     | ((refine ⟨fun vs O _ => ∃ k : Nat, k ≤ n.kids.length /\ vs = [ai k] /\ O = [.cells 28 (zcg n (zbY n.kids)), .cells 28 (zcg n (zbY n.kids))], fun vs O => match vs with | [.cv (.int _ k)] => n.kids.length - k.toNat | _ => 0, ⟨0, Nat.zero_le _, rfl, rfl⟩, ?_⟩; rintro vs O _ ⟨k, hk, rfl, rfl⟩))
     | intro _)
  all_goals first
   | rfl
   | omega
   | (simp only [zz] at *; omega)
   | exact ⟨k + 1, by (simp only [zz] at *; omega), rfl, rfl⟩
   | exact zdp
   | exact zev
   | exact zdt
   | (exfalso; (simp only [zz] at *; omega))
   | (rename_i hz; exfalso; simp [zbt] at hz; done)
   | (exfalso; simp_all [zbt]; done)
   | skip
 ·rw [he]
  refine zac { glb := axG, ann := [(4, [5])] } true Tryz.func48 (by kernel_rfl) rfl ?_
  repeat' (
    (conv => whnf)
    first
     | exact zad (by kernel_rfl)
     | refine And.intro ?_ ?_
     | refine zaa ?_ ?_
     | (refine ⟨_, zkn n.atom hc, ?_⟩; rintro v O' ⟨rfl, rfl⟩)
     | (refine ⟨_, ih (atN n.kids k) (zaY (by (simp only [zz] at *; omega))), ?_⟩; rintro v O' ⟨rfl, rfl⟩)
     | ((refine ⟨fun vs O _ => ∃ k : Nat, k ≤ n.kids.length /\ vs = [ai k] /\ O = [.cells 28 (zcg n (fun i => zah (atN n.kids i))), .cells 28 (zcg n (fun i => zah (atN n.kids i)))], fun vs O => match vs with | [.cv (.int _ k)] => n.kids.length - k.toNat | _ => 0, ⟨0, Nat.zero_le _, rfl, rfl⟩, ?_⟩; rintro vs O _ ⟨k, hk, rfl, rfl⟩))
     | intro _)
  all_goals first
   | rfl
   | omega
   | (simp only [zz] at *; omega)
   | exact ⟨k + 1, by (simp only [zz] at *; omega), rfl, rfl⟩
   | exact zdp
   | exact zev
   | exact zdt
   | (exfalso; (simp only [zz] at *; omega))
   | (rename_i hz; exfalso; simp [zbt] at hz; done)
   | (exfalso; simp_all [zbt]; done)
set_option maxHeartbeats 4000000 in
theorem zoW (q : QueryM) (hq : QFit q) : DSpec Tryz.prog axX axG 21 [.agg (zaj q), .agg (zaj q)] [] (fun v O => v = ab true /\ O = []) := by
 have h1 := hq.hv
 have h2 := hq.em
 refine zac { glb := axG, ann := [(4, [5]), (9, [6])] } true Tryz.func21 (by kernel_rfl) rfl ?_
 repeat' (
   (conv => whnf)
   first
    | exact zad (by kernel_rfl)
    | refine And.intro ?_ ?_
    | refine zaa ?_ ?_
    | (refine ⟨_, zqC q.p hq.fit, ?_⟩; rintro v O' ⟨rfl, rfl⟩)
    | ((have := hk1; refine ⟨fun vs O _ => ∃ k : Nat, k ≤ q.em.length /\ vs = [ai k] /\ O = [.cells 32 (zaj q), .cells 32 (zaj q)], fun vs O => match vs with | [.cv (.int _ k)] => q.em.length - k.toNat | _ => 0, ⟨0, Nat.zero_le _, rfl, rfl⟩, ?_⟩; rintro vs O _ ⟨k2, hk2, rfl, rfl⟩))
    | ((refine ⟨fun vs O _ => ∃ k : Nat, k ≤ q.hv.length /\ vs = [ai k] /\ O = [.cells 32 (zaj q), .cells 32 (zaj q)], fun vs O => match vs with | [.cv (.int _ k)] => q.hv.length - k.toNat | _ => 0, ⟨0, Nat.zero_le _, rfl, rfl⟩, ?_⟩; rintro vs O _ ⟨k, hk1, rfl, rfl⟩))
    | intro _)
 all_goals first
  | rfl
  | omega
  | (simp only [zz] at *; omega)
  | exact ⟨k + 1, by (simp only [zz] at *; omega), rfl, rfl⟩
  | exact ⟨k2 + 1, by (simp only [zz] at *; omega), rfl, rfl⟩
  | exact zdp
  | exact zev
  | exact zdt
  | (exfalso; (simp only [zz] at *; omega))
  | (rename_i hz; exfalso; simp [zbt] at hz; done)
  | (exfalso; simp_all [zbt]; done)
theorem zit (l : List (List Nat)) (hl : l.length ≤ 1000000) : DSpec Tryz.prog axX axG 14 [.isl 1 l.length (elF zed l), .isl 1 l.length (elF zed l)] [] (fun v O => v = ab true /\ O = []) := by
 refine zac { glb := axG, ann := [(4, [5])] } true Tryz.func14 (by kernel_rfl) rfl ?_
 repeat' (
   (conv => whnf)
   first
    | exact zad (by kernel_rfl)
    | refine And.intro ?_ ?_
    | refine zaa ?_ ?_
    | ((refine ⟨fun vs O _ => ∃ k : Nat, k ≤ l.length /\ vs = [ai k] /\ O = [], fun vs O => match vs with | [.cv (.int _ k)] => l.length - k.toNat | _ => 0, ⟨0, Nat.zero_le _, rfl, rfl⟩, ?_⟩; rintro vs O _ ⟨k, hk, rfl, rfl⟩))
    | intro _)
 all_goals first
  | rfl
  | omega
  | (simp only [zz] at *; omega)
  | exact ⟨k + 1, by (simp only [zz] at *; omega), rfl, rfl⟩
  | exact zdp
  | exact zev
  | exact zdt
  | (exfalso; (simp only [zz] at *; omega))
  | (rename_i hz; exfalso; simp [zbt] at hz; done)
  | (exfalso; simp_all [zbt]; done)
end Go.Proofs.YtlfhikphdkpfgaaGreatDoor
