import Derived.Test.YtlfhikphdkpfgaaDoorBd
set_option linter.unusedSimpArgs false
set_option linter.unusedVariables false
set_option maxRecDepth 100000
namespace Go.Proofs.YtlfhikphdkpfgaaDoor
open Go Go.Cx
theorem zkS {A : Type} {n : NodeM} {q : Int × NodeM -> Bool} {f : Int × NodeM -> A} : (zcY n q f).length ≤ (zaE 1 n).length := by
 unfold zcY
 cases zai 200 n with
 | false => exact Nat.zero_le _
 | true =>
  show (ztB n q f).length ≤ _
  unfold ztB
  rw [List.length_map]; exact List.length_filter_le _ _
theorem zq1 {n : NodeM} (hn : Fit n) : ∀ a ∈ zaZ n, a.cs.length ≤ 1000000 := fun a ha => by
 have ha : a ∈ zcY n zby zhz := ha
 unfold zcY at ha
 cases hs : zai 200 n with
 | false => rw [hs] at ha; cases ha
 | true =>
  rw [hs] at ha
  have ha : a ∈ ztB n zby zhz := ha
  unfold ztB at ha
  obtain ⟨p, hp, rfl⟩ := List.mem_map.1 ha
  exact (hn 1 p (List.mem_filter.1 hp).1).2
theorem zjP (n : NodeM) (hn : NFit n) : DSpec Tryd.prog axX axG 46 [.isl 5 (zaZ n).length (elF zbA (zaZ n)), .isl 5 (zaZ n).length (elF zbA (zaZ n))] [] (fun v O => v = ab true /\ O = []) :=
 znm (zaZ n) (Nat.le_trans zkS (Nat.le_trans hn.num (by decide))) (zq1 hn.fit)
set_option maxHeartbeats 8000000 in
theorem zp7 (n : NodeM) : DSpec Tryd.prog axX axG 8 [.agg (zaj n)] [] (fun v _ => v = .cv (.bool true)) := by
 have hf : DSpec Tryd.prog axX axG 42 [.agg (zaj n), ai 250, ai 1] [] (fun v O => v = ai (zgS 210 250 n) /\ O = []) := zug 210 (by omega) n 250 (by omega) (by omega)
 cases hq : decide (zgS 210 250 n < 0) with
 | true =>
  have hq : zgS 210 250 n < 0 := by simpa using hq
  refine zac { glb := axG } true Tryd.func8 (by kernel_rfl) rfl ?_
  repeat' (
    (conv => whnf)
    first
     | exact zad (by kernel_rfl)
     | refine And.intro ?_ ?_
     | refine zaa ?_ ?_
     | (refine ⟨_, hf, ?_⟩; rintro v O' ⟨rfl, rfl⟩)
     | (refine ⟨_, zbY, ?_⟩; rintro v O' ⟨rfl, rfl⟩)
     | intro _)
  all_goals first
   | rfl
   | (exfalso; (simp only [zz] at *; omega))
 | false =>
  obtain ⟨hn, _⟩ := zlp (by omega) hq
  have hq : ¬ zgS 210 250 n < 0 := by simpa using hq
  have hb := zng (zlQ n) (Nat.le_trans zkS (Nat.le_trans hn.num (by decide)))
  refine zac { glb := axG } true Tryd.func8 (by kernel_rfl) rfl ?_
  repeat' (
    (conv => whnf)
    first
     | exact zad (by kernel_rfl)
     | refine And.intro ?_ ?_
     | refine zaa ?_ ?_
     | (refine ⟨_, hf, ?_⟩; rintro v O' ⟨rfl, rfl⟩)
     | (refine ⟨_, zbY, ?_⟩; rintro v O' ⟨rfl, rfl⟩)
     | (refine ⟨_, ztj n hn, ?_⟩; rintro v O' ⟨rfl, rfl⟩)
     | (refine ⟨_, ztV n hn, ?_⟩; rintro v O' ⟨rfl, rfl⟩)
     | (refine ⟨_, zjP n hn, ?_⟩; rintro v O' ⟨rfl, rfl⟩)
     | (refine ⟨_, zrY n hn, ?_⟩; rintro v O' ⟨rfl, rfl⟩)
     | (refine ⟨_, zqC n hn, ?_⟩; rintro v O' ⟨rfl, rfl⟩)
     | (refine ⟨_, hb, ?_⟩; rintro v O' ⟨rfl, rfl⟩)
     | (refine ⟨_, zr4 n hn, ?_⟩; rintro v O' ⟨rfl, rfl⟩)
     | (refine ⟨_, ztL n hn, ?_⟩; rintro v O' ⟨rfl, rfl⟩)
     | (refine ⟨_, zrF n hn, ?_⟩; rintro v O' ⟨rfl, rfl⟩)
     | (refine ⟨_, zt8 n hn, ?_⟩; rintro v O' ⟨rfl, rfl⟩)
     | intro _)
  all_goals first
   | rfl
   | (exfalso; (simp only [zz] at *; omega))
   | (exfalso; simp_all; done)
end Go.Proofs.YtlfhikphdkpfgaaDoor
