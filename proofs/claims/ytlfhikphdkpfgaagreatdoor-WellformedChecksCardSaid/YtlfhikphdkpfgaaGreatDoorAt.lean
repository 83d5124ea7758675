import Derived.Test.YtlfhikphdkpfgaaGreatDoorAs
set_option linter.unusedSimpArgs false
set_option linter.unusedVariables false
set_option maxRecDepth 100000
namespace Go.Proofs.YtlfhikphdkpfgaaGreatDoor
open Go Go.Cx
def zjz (kind mn mx k : Int) (s : List Nat) (kids : SV) : List SV := [ai kind, ai mn, ai mx, ai k, ab false, au 0, .cv .nils, .cv (.str s), kids]
theorem zp2 (k : Int) : DSpec Tryz.prog axX axG 28 [ai k] [] (fun v O => v = .agg (zjz 1 1 1 k [] (.cv .nils)) /\ O = []) := by
 refine zac { glb := axG } true Tryz.func28 (by kernel_rfl) rfl ?_
 repeat' (
   (conv => whnf)
   first
    | exact zad (by kernel_rfl)
    | refine And.intro ?_ ?_
    | refine zaa ?_ ?_
    | intro _)
 all_goals rfl
theorem zAb (k : Int) (s : List Nat) : DSpec Tryz.prog axX axG 30 [ai k, .cv (.str s)] [] (fun v O => v = .agg (zjz 2 0 0 k s (.cv .nils)) /\ O = []) := by
 refine zac { glb := axG } true Tryz.func30 (by kernel_rfl) rfl ?_
 repeat' (
   (conv => whnf)
   first
    | exact zad (by kernel_rfl)
    | refine And.intro ?_ ?_
    | refine zaa ?_ ?_
    | intro _)
 all_goals rfl
theorem ztE (k : Int) (s : List Nat) : DSpec Tryz.prog axX axG 31 [ai k, .cv (.str s)] [] (fun v O => v = .agg (zjz 1 1 1 k s (.cv .nils)) /\ O = []) := by
 refine zac { glb := axG } true Tryz.func31 (by kernel_rfl) rfl ?_
 repeat' (
   (conv => whnf)
   first
    | exact zad (by kernel_rfl)
    | refine And.intro ?_ ?_
    | refine zaa ?_ ?_
    | (refine ⟨_, zp2 k, ?_⟩; rintro v O' ⟨rfl, rfl⟩)
    | intro _)
 all_goals rfl
theorem zAD (n : Nat) (el : Nat -> List SV) : DSpec Tryz.prog axX axG 29 [.isl 9 n el] [] (fun v O => v = .agg (zjz 3 0 0 0 [] (.isl 9 n el)) /\ O = []) := by
 refine zac { glb := axG } true Tryz.func29 (by kernel_rfl) rfl ?_
 repeat' (
   (conv => whnf)
   first
    | exact zad (by kernel_rfl)
    | refine And.intro ?_ ?_
    | refine zaa ?_ ?_
    | intro _)
 all_goals rfl
def zjt (n : NodeM) : QueryM := ⟨n, 5, [], []⟩
theorem zrW {n : NodeM} (h : NFit n) : QFit (zjt n) := ⟨h, by simp [zjt], by simp [zjt]⟩
theorem zl0 (n : NodeM) (hn : NFit n) : DSpec Tryz.prog axX axG 27 [.agg (zah n)] [] (fun v O => v = ai (zaE (zjt n)) /\ O = []) := by
 have h := (zdU (zjt n) (zrW hn) (by simp [zjt])).arg (args' := [.agg [ai n.kind, ai n.mn, ai n.mx, ai n.atom.kind, ab n.atom.bnd, au n.atom.bound, .isl 2 n.atom.cs.length (zdx n.atom.cs), zrz n.atom.name, .isl 9 n.kids.length (zbY n.kids), au 5, .cv .nils, .cv .nils]]) (.cons (.agg (.cons (.refl _) (.cons (.refl _) (.cons (.refl _) (.cons (.refl _) (.cons (.refl _) (.cons (.refl _) (.cons (.refl _) (.cons (.refl _) (.cons (.refl _) (.cons (.refl _) (.cons .nils (.cons .nils .nil))))))))))))) .nil)
 refine zac { glb := axG } true Tryz.func27 (by kernel_rfl) rfl ?_
 repeat' (
   (conv => whnf)
   first
    | exact zad (by kernel_rfl)
    | refine And.intro ?_ ?_
    | refine zaa ?_ ?_
    | (refine ⟨_, h, ?_⟩; rintro v O' ⟨rfl, rfl⟩)
    | intro _)
 all_goals first
  | rfl
def zlV (kind mn mx k : Int) (s : List UInt8) : NodeM := .mk kind mn mx ⟨k, false, 0, [], s⟩ []
def zsr (l : List NodeM) : NodeM := .mk 3 0 0 ⟨0, false, 0, [], []⟩ l
theorem zcl {kind mn mx k : Int} {s : List UInt8} : SameL (zjz kind mn mx k (nm s) (.cv .nils)) (zah (zlV kind mn mx k s)) :=
 .cons (.refl _) (.cons (.refl _) (.cons (.refl _) (.cons (.refl _) (.cons (.refl _) (.cons (.refl _) (.cons .nils (.cons (.refl _) (.cons .nils .nil))))))))
theorem zlW {l : List NodeM} {n : Nat} {el : Nat -> List SV} (hn : n = l.length) (h : ∀ i, i < n -> SameL (el i) (zah (atN l i))) : SameL (zjz 3 0 0 0 [] (.isl 9 n el)) (zah (zsr l)) := by
 subst hn
 exact .cons (.refl _) (.cons (.refl _) (.cons (.refl _) (.cons (.refl _) (.cons (.refl _) (.cons (.refl _) (.cons .nils (.cons (.refl _) (.cons (.islD fun i hi => by rw [show zbY (zsr l).kids i = zah (atN l i) from zpY hi]; exact h i hi) .nil))))))))
def p1M : NodeM := zlV 1 1 1 0 []
def l2M : List NodeM := [zlV 1 1 1 0 [], zlV 2 0 0 1 [], zlV 1 1 1 2 []]
def l3M : List NodeM := [zlV 1 1 1 0 [], zlV 2 0 0 1 []]
def l4M : List NodeM := [zlV 1 1 1 0 [120], zlV 1 1 1 1 [120]]
theorem ztU (n : NodeM) : ∀ (d g : Int) (p : Int × NodeM), p ∈ zaL d n -> ∃ e, (e, p.2) ∈ zaL g n := by
 refine zbH (p := fun n => ∀ (d g : Int) (p : Int × NodeM), p ∈ zaL d n -> ∃ e, (e, p.2) ∈ zaL g n) ?_ n
 clear n
 intro n ih d g p hp
 rw [zbg] at hp ⊢
 rcases List.mem_cons.1 hp with rfl | hp
 ·exact ⟨g, List.mem_cons_self⟩
 ·obtain ⟨m, hm, hp⟩ := List.mem_flatMap.1 hp
  obtain ⟨e, he⟩ := ih m hm _ (g + 1) p hp
  exact ⟨e, List.mem_cons_of_mem _ (List.mem_flatMap.2 ⟨m, hm, he⟩)⟩
theorem zfZ {n : NodeM} (h : (decide (n.dep ≤ 100000) && (decide ((zaL 1 n).length ≤ 100000) && decide (∀ p ∈ zaL 0 n, p.2.kids.length ≤ 1000000 /\ p.2.atom.cs.length ≤ 1000000))) = true) : NFit n := by
 simp only [Bool.and_eq_true, decide_eq_true_eq] at h
 refine ⟨fun d p hp => ?_, h.1, h.2.1⟩
 obtain ⟨e, he⟩ := ztU n d 0 p hp
 exact h.2.2 (e, p.2) he
theorem zzz : NFit p1M := zfZ (by kernel_rfl)
theorem zzm : NFit (zsr l2M) := zfZ (by kernel_rfl)
theorem zy3 : NFit (zsr l3M) := zfZ (by kernel_rfl)
theorem zzJ : NFit (zsr l4M) := zfZ (by kernel_rfl)
theorem zA7 : DSpec Tryz.prog axX axG 27 [.agg (zjz 1 1 1 0 [] (.cv .nils))] [] (fun v O => v = ai 0 /\ O = []) := by
 have h := (zl0 p1M zzz).arg (.cons (.agg zcl) .nil)
 rw [show zaE (zjt p1M) = 0 by kernel_rfl] at h
 exact h
theorem zA5 (el : Nat -> List SV) (h : ∀ i, i < 3 -> SameL (el i) (zah (atN l2M i))) : DSpec Tryz.prog axX axG 27 [.agg (zjz 3 0 0 0 [] (.isl 9 3 el))] [] (fun v O => v = ai 0 /\ O = []) := by
 have h := (zl0 (zsr l2M) zzm).arg (.cons (.agg (zlW (el := el) (n := 3) rfl h)) .nil)
 rw [show zaE (zjt (zsr l2M)) = 0 by kernel_rfl] at h
 exact h
theorem zBb (el : Nat -> List SV) (h : ∀ i, i < 2 -> SameL (el i) (zah (atN l3M i))) : DSpec Tryz.prog axX axG 27 [.agg (zjz 3 0 0 0 [] (.isl 9 2 el))] [] (fun v O => v = ai 9 /\ O = []) := by
 have h := (zl0 (zsr l3M) zy3).arg (.cons (.agg (zlW (el := el) (n := 2) rfl h)) .nil)
 rw [show zaE (zjt (zsr l3M)) = 9 by kernel_rfl] at h
 exact h
theorem zBj (el : Nat -> List SV) (h : ∀ i, i < 2 -> SameL (el i) (zah (atN l4M i))) : DSpec Tryz.prog axX axG 27 [.agg (zjz 3 0 0 0 [] (.isl 9 2 el))] [] (fun v O => v = ai 8 /\ O = []) := by
 have h := (zl0 (zsr l4M) zzJ).arg (.cons (.agg (zlW (el := el) (n := 2) rfl h)) .nil)
 rw [show zaE (zjt (zsr l4M)) = 8 by kernel_rfl] at h
 exact h
theorem znA {p : Nat -> Prop} (h0 : p 0) (h1 : p 1) : ∀ i, i < 2 -> p i
 | 0, _ => h0
 | 1, _ => h1
theorem zoI {p : Nat -> Prop} (h0 : p 0) (h1 : p 1) (h2 : p 2) : ∀ i, i < 3 -> p i
 | 0, _ => h0
 | 1, _ => h1
 | 2, _ => h2
theorem zmy : DSpec Tryz.prog axX axG 6 [] [] (fun v O => v = ab true /\ O = []) := by
 refine zac { glb := axG } true Tryz.func6 (by kernel_rfl) rfl ?_
 repeat' (
   (conv => whnf)
   first
    | exact zad (by kernel_rfl)
    | refine And.intro ?_ ?_
    | refine zaa ?_ ?_
    | (refine ⟨_, zp2 _, ?_⟩; rintro v O' ⟨rfl, rfl⟩)
    | (refine ⟨_, zAb _ _, ?_⟩; rintro v O' ⟨rfl, rfl⟩)
    | (refine ⟨_, ztE _ _, ?_⟩; rintro v O' ⟨rfl, rfl⟩)
    | (refine ⟨_, zAD _ _, ?_⟩; rintro v O' ⟨rfl, rfl⟩)
    | (refine ⟨_, zA7, ?_⟩; rintro v O' ⟨rfl, rfl⟩)
    | (refine ⟨_, zA5 _ (zoI (zcl (kind := 1) (mn := 1) (mx := 1) (k := 0) (s := [])) (zcl (kind := 2) (mn := 0) (mx := 0) (k := 1) (s := [])) (zcl (kind := 1) (mn := 1) (mx := 1) (k := 2) (s := []))), ?_⟩; rintro v O' ⟨rfl, rfl⟩)
    | (refine ⟨_, zBb _ (znA (zcl (kind := 1) (mn := 1) (mx := 1) (k := 0) (s := [])) (zcl (kind := 2) (mn := 0) (mx := 0) (k := 1) (s := []))), ?_⟩; rintro v O' ⟨rfl, rfl⟩)
    | (refine ⟨_, zBj _ (znA (zcl (kind := 1) (mn := 1) (mx := 1) (k := 0) (s := [120])) (zcl (kind := 1) (mn := 1) (mx := 1) (k := 1) (s := [120]))), ?_⟩; rintro v O' ⟨rfl, rfl⟩)
    | intro _)
 all_goals first
  | rfl
theorem zup {q : QueryM} (hq : QFit q) : (zaW q).length ≤ 1000000 := by
 unfold zaW
 cases zaE q != 0 with
 | true => exact Nat.zero_le _
 | false => exact Nat.le_trans (zkR _ _) (Nat.le_trans (zi4 hq.toNFit) (by decide))
theorem zvk {q : QueryM} (hs : q.hv.length + q.em.length ≤ 900000) : (zdK q).length ≤ 1000000 := by
 unfold zdK
 cases zaE q != 0 with
 | true => exact Nat.zero_le _
 | false =>
  refine Nat.le_trans (zf3 _) ?_
  rw [List.length_append, List.length_map, List.length_map]; omega
set_option maxHeartbeats 8000000 in
theorem zgi (q : QueryM) (s : List Nat) : DSpec Tryz.prog axX axG 3 [.agg (zaj q), .cv (.str s)] [] (fun v _ => v = .cv (.bool true)) := by
 have hL := znq q
 cases hl : zcy q with
 | false =>
  rw [hl] at hL
  refine zac { glb := axG } true Tryz.func3 (by kernel_rfl) rfl ?_
  repeat' (
    (conv => whnf)
    first
     | exact zad (by kernel_rfl)
     | refine And.intro ?_ ?_
     | refine zaa ?_ ?_
     | (refine ⟨_, hL, ?_⟩; rintro v O' ⟨rfl, rfl⟩)
     | (refine ⟨_, zmy, ?_⟩; rintro v O' ⟨rfl, rfl⟩)
     | intro _)
  all_goals first
   | rfl
 | true =>
  rw [hl] at hL
  obtain ⟨hq, h1, h2⟩ := zrE hl
  have hs : q.hv.length + q.em.length ≤ 900000 := by omega
  have hn := hq.toNFit
  obtain ⟨x, y, z, hr⟩ : ∃ x y z : Int, zqI q = .tup [ai x, ai y, ai z] := by
   unfold zqI
   cases zaE q != 0 with
   | true => exact ⟨_, _, _, rfl⟩
   | false => exact ⟨_, _, _, rfl⟩
  have hR := zzM q hq hs
  have hRr := zxA q hq hs
  rw [hr] at hR hRr
  refine zac { glb := axG } true Tryz.func3 (by kernel_rfl) rfl ?_
  repeat' (
    (conv => whnf)
    first
     | exact zad (by kernel_rfl)
     | refine And.intro ?_ ?_
     | refine zaa ?_ ?_
     | (refine ⟨_, hL, ?_⟩; rintro v O' ⟨rfl, rfl⟩)
     | (refine ⟨_, zmy, ?_⟩; rintro v O' ⟨rfl, rfl⟩)
     | (refine ⟨_, zq0 q hq, ?_⟩; rintro v O' ⟨rfl, rfl⟩)
     | (refine ⟨_, zdU q hq hs, ?_⟩; rintro v O' ⟨rfl, rfl⟩)
     | (refine ⟨_, zeo q hq hs, ?_⟩; rintro v O' ⟨rfl, rfl⟩)
     | (refine ⟨_, zsW q.p hn, ?_⟩; rintro v O' ⟨rfl, rfl⟩)
     | (refine ⟨_, zqF q.p hn, ?_⟩; rintro v O' ⟨rfl, rfl⟩)
     | (refine ⟨_, zye q hq hs, ?_⟩; rintro v O' ⟨rfl, rfl⟩)
     | (refine ⟨_, zpn q hq hs, ?_⟩; rintro v O' ⟨rfl, rfl⟩)
     | (refine ⟨_, zit (zaW q) (zup hq), ?_⟩; rintro v O' ⟨rfl, rfl⟩)
     | (refine ⟨_, zzN q hq hs, ?_⟩; rintro v O' ⟨rfl, rfl⟩)
     | (refine ⟨_, zx4 q hq hs, ?_⟩; rintro v O' ⟨rfl, rfl⟩)
     | (refine ⟨_, zit (zdK q) (zvk hs), ?_⟩; rintro v O' ⟨rfl, rfl⟩)
     | (refine ⟨_, zvt q hq hs s, ?_⟩; rintro v O' ⟨rfl, rfl⟩)
     | (refine ⟨_, zvg q hq hs s, ?_⟩; rintro v O' ⟨rfl, rfl⟩)
     | (refine ⟨_, hR, ?_⟩; rintro v O' ⟨rfl, rfl⟩)
     | (refine ⟨_, hRr, ?_⟩; rintro v O' ⟨rfl, rfl⟩)
     | (refine ⟨_, zoW q hq, ?_⟩; rintro v O' ⟨rfl, rfl⟩)
     | intro _)
  all_goals first
   | rfl
   | (rename_i hz; exfalso; simp at hz; done)
   | (exfalso; simp_all; done)
end Go.Proofs.YtlfhikphdkpfgaaGreatDoor
