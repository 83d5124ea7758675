import Derived.Test.YtlfhikphdkpfgaaDoorAe
set_option linter.unusedSimpArgs false
set_option linter.unusedVariables false
set_option maxRecDepth 100000
namespace Go.Proofs.YtlfhikphdkpfgaaDoor
open Go Go.Cx
noncomputable abbrev zaZ (n : NodeM) : List AtomM := zcY n zby zhz
noncomputable abbrev zlQ (n : NodeM) : List Bool := zcY n zby ztM
noncomputable abbrev zfX (n : NodeM) : List Int := zcY n zdA zoi
theorem ztj (n : NodeM) (hn : NFit n) : DSpec Tryd.prog axX axG 43 [.agg (zaj n)] [] (fun v O => v = .tup [.isl 5 (zaZ n).length (elF zbA (zaZ n)), ai (zay n)] /\ O = []) := by
 refine zac { glb := axG } true Tryd.func43 (by kernel_rfl) rfl ?_
 repeat' (
   (conv => whnf)
   first
    | exact zad (by kernel_rfl)
    | refine And.intro ?_ ?_
    | refine zaa ?_ ?_
    | (refine ⟨_, zqO n hn.fit hn.dep hn.num, ?_⟩; rintro v O' ⟨rfl, rfl⟩)
    | intro _)
 all_goals first
  | rfl
  | omega
theorem zrY (n : NodeM) (hn : NFit n) : DSpec Tryd.prog axX axG 48 [.agg (zaj n)] [] (fun v O => v = .tup [.isl 1 (zlQ n).length (elF zkL (zlQ n)), ai (zay n)] /\ O = []) := by
 refine zac { glb := axG } true Tryd.func48 (by kernel_rfl) rfl ?_
 repeat' (
   (conv => whnf)
   first
    | exact zad (by kernel_rfl)
    | refine And.intro ?_ ?_
    | refine zaa ?_ ?_
    | (refine ⟨_, zp0 n hn.fit hn.dep hn.num, ?_⟩; rintro v O' ⟨rfl, rfl⟩)
    | intro _)
 all_goals first
  | rfl
  | omega
theorem zpq (n : NodeM) (hn : NFit n) : DSpec Tryd.prog axX axG 106 [.agg (zaj n)] [] (fun v O => v = .tup [.isl 1 (zfX n).length (elF zxH (zfX n)), ai (zay n)] /\ O = []) := by
 refine zac { glb := axG } true Tryd.func106 (by kernel_rfl) rfl ?_
 repeat' (
   (conv => whnf)
   first
    | exact zad (by kernel_rfl)
    | refine And.intro ?_ ?_
    | refine zaa ?_ ?_
    | (refine ⟨_, zqA n hn.fit hn.dep hn.num, ?_⟩; rintro v O' ⟨rfl, rfl⟩)
    | intro _)
 all_goals first
  | rfl
  | omega
theorem zph {l : List Int} {k i : Nat} (hi : i < k) (hm : ∀ j, j < k -> l.getD j default ≤ l.getD i default) : (∀ j, j < k + 1 -> l.getD j default ≤ max (l.getD i default) (l.getD k default)) /\ ∃ j, j < k + 1 /\ max (l.getD i default) (l.getD k default) = l.getD j default := by
 refine ⟨fun j hj => ?_, ?_⟩
 ·rcases Nat.lt_succ_iff_lt_or_eq.1 hj with h1 | rfl
  ·have := hm j h1; omega
  ·omega
 ·by_cases hq : l.getD i default ≤ l.getD k default
  ·exact ⟨k, by omega, by omega⟩
  ·exact ⟨i, by omega, by omega⟩
theorem zyI (l : List Int) (h0 : 0 < l.length) (hl : l.length ≤ 1000000) : DSpec Tryd.prog axX axG 107 [.isl 1 l.length (elF zxH l)] [] (fun v O => ∃ m : Int, v = ai m /\ ((∀ i, i < l.length -> l.getD i default ≤ m) /\ ∃ i, i < l.length /\ m = l.getD i default) /\ O = []) := by
 refine zac { glb := axG, ann := [(5, [3, 4])] } true Tryd.func107 (by kernel_rfl) rfl ?_
 repeat' (
   (conv => whnf)
   first
    | exact zad (by kernel_rfl)
    | refine And.intro ?_ ?_
    | refine zaa ?_ ?_
    | ((refine ⟨fun vs O _ => ∃ (k : Nat) (m : Int), 1 ≤ k /\ k ≤ l.length /\ (∀ i, i < k -> l.getD i default ≤ m) /\ (∃ i, i < k /\ m = l.getD i default) /\ vs = [ai m, ai k] /\ O = [], fun vs O => match vs with | [_, .cv (.int _ k)] => l.length - k.toNat | _ => 0, ⟨1, _, by decide, by omega, fun i hi => ?_, ⟨0, by decide, rfl⟩, rfl, rfl⟩, ?_⟩; rotate_left; rintro vs O _ ⟨k, m, hk0, hk, hm, ⟨i, hi, rfl⟩, rfl, rfl⟩))
    | intro _)
 all_goals first
  | rfl
  | omega
  | (simp only [zz] at *; omega)
  | (exfalso; (simp only [zz] at *; omega))
  | exact ⟨k + 1, _, by omega, by (simp only [zz] at *; omega), (zph hi hm).1, (zph hi hm).2, rfl, rfl⟩
  | exact ⟨_, rfl, ⟨fun j hj => hm j (by (simp only [zz] at *; omega)), i, by (simp only [zz] at *; omega), rfl⟩, rfl⟩
  | (obtain rfl : i = 0 := by omega
     exact Int.le_refl _)
theorem zrP {n : NodeM} : ∀ {d : Int}, (∀ p ∈ zaE d n, p.1 + p.2.dep ≤ d + n.dep) /\ ∃ p ∈ zaE d n, p.1 = d + n.dep - 1 := by
 induction n using zce with | h n ih => ?_
 intro d
 refine ⟨fun p hp => ?_, ?_⟩
 ·rw [zaG] at hp
  rcases List.mem_cons.1 hp with rfl | hp
  ·exact Int.le_refl _
  ·obtain ⟨m, hm, hp⟩ := List.mem_flatMap.1 hp
   have h1 := (ih m hm (d := d + 1)).1 p hp
   have h2 := zcW hm
   omega
 ·cases hk : n.kids with
  | nil =>
   refine ⟨(d, n), by rw [zaG]; exact List.mem_cons_self, ?_⟩
   rw [zaT, hk, depL]; simp
  | cons a r =>
   obtain ⟨m, hm, he⟩ := zht (l := n.kids) (by rw [hk]; simp)
   obtain ⟨p, hp, h1⟩ := (ih m hm (d := d + 1)).2
   refine ⟨p, znT hm hp, ?_⟩
   rw [zaT n, <- he]; omega
noncomputable def zuQ (n : NodeM) : Int := bif zai 200 n then (n.dep : Int) else 0
theorem zuj {n : NodeM} {m : Int} (hs : zai 200 n = true) (h1 : ∀ i, i < (zfX n).length -> (zfX n).getD i default ≤ m) (h2 : ∃ i, i < (zfX n).length /\ m = (zfX n).getD i default) : m = zuQ n := by
 have hr : zfX n = (zaE 1 n).map zoi := by
  show zcY n zdA zoi = _
  unfold zcY ztB
  rw [hs]
  show List.map zoi (List.filter zdA (zaE 1 n)) = _
  have hf : List.filter zdA (zaE 1 n) = zaE 1 n := List.filter_eq_self.2 fun _ _ => rfl
  rw [hf]
 rw [hr] at h1 h2
 simp only [List.length_map] at h1 h2
 have hg : ∀ i (hi : i < (zaE 1 n).length), ((zaE 1 n).map zoi).getD i default = ((zaE 1 n)[i]).1 := fun i hi => by
  rw [List.getD_eq_getElem?_getD, List.getElem?_map, List.getElem?_eq_getElem hi]; rfl
 obtain ⟨p, hp, hpd⟩ := (zrP (n := n) (d := 1)).2
 obtain ⟨j, hj, rfl⟩ := List.mem_iff_getElem.1 hp
 have a1 := h1 j hj
 rw [hg j hj] at a1
 obtain ⟨i, hi, rfl⟩ := h2
 rw [hg i hi] at a1 ⊢
 have a2 := (zrP (n := n) (d := 1)).1 _ (List.getElem_mem hi)
 have a3 : 1 ≤ ((zaE 1 n)[i]).2.dep := by rw [zaT]; omega
 unfold zuQ
 rw [hs]
 show _ = (n.dep : Int)
 omega
theorem zfl {n : NodeM} (hs : zai 200 n = true) : 0 < (zfX n).length /\ (zfX n).length = (zaE 1 n).length := by
 have hr : zfX n = (zaE 1 n).map zoi := by
  show zcY n zdA zoi = _
  unfold zcY ztB
  rw [hs]
  show List.map zoi (List.filter zdA (zaE 1 n)) = _
  have hf : List.filter zdA (zaE 1 n) = zaE 1 n := List.filter_eq_self.2 fun _ _ => rfl
  rw [hf]
 rw [hr, List.length_map]
 exact ⟨by rw [zaG]; simp, rfl⟩
theorem zr4 (n : NodeM) (hn : NFit n) : DSpec Tryd.prog axX axG 45 [.agg (zaj n)] [] (fun v O => v = .tup [ai (zuQ n), ai (zay n)] /\ O = []) := by
 have hnum := hn.num
 refine zac { glb := axG } true Tryd.func45 (by kernel_rfl) rfl ?_
 repeat' (
   (conv => whnf)
   first
    | exact zad (by kernel_rfl)
    | refine And.intro ?_ ?_
    | refine zaa ?_ ?_
    | (refine ⟨_, zpq n hn, ?_⟩; rintro v O' ⟨rfl, rfl⟩)
    | (refine ⟨_, zyI (zfX n) (zfl (zaO (by assumption)).1).1 (by have := (zfl (zaO (n := n) (by assumption)).1).2; omega), ?_⟩; rintro v O' ⟨m, rfl, hm, rfl⟩)
    | intro _)
 all_goals first
  | rfl
  | omega
  | (rename_i hz; unfold zuQ; rw [zer hz]; rfl)
  | (rename_i hz; rw [zuj (zaO hz).1 hm.1 hm.2, (zaO hz).2])
end Go.Proofs.YtlfhikphdkpfgaaDoor
