import Derived.Test.YtlfhikphdkpfgaaDoorBe
set_option linter.unusedSimpArgs false
set_option linter.unusedVariables false
set_option maxRecDepth 100000
namespace Go.Proofs.YtlfhikphdkpfgaaDoor
open Go Go.Cx
theorem zin : ∀ (d : Nat) (n : NodeM), zai d n = true -> zai (d + 1) n = true
 | 0, n, h => by unfold zai at h; cases h
 | d + 1, n, h => by
  have ih := zin d
  rw [zai] at h ⊢
  cases h1 : n.kind == 1 with
  | true => rw [h1] at h; exact h
  | false =>
   rw [h1] at h
   simp only [cond_false] at h ⊢
   cases h2 : n.kind == 2 with
   | true => rw [h2] at h; exact h
   | false =>
    rw [h2] at h
    simp only [cond_false] at h ⊢
    cases h3 : n.kind == 3 || n.kind == 4 with
    | false => rw [h3] at h; cases h
    | true =>
     rw [h3] at h
     simp only [cond_true, Bool.and_eq_true, Bool.not_eq_true'] at h ⊢
     refine ⟨h.1, h.2.1, h.2.2.1, h.2.2.2.1, ?_⟩
     rw [List.any_eq_false] at *
     intro m hm
     have := h.2.2.2.2 m hm
     simp only [Bool.not_eq_true, Bool.not_eq_false'] at this ⊢
     exact ih m this
theorem zp3 {d : Nat} {n m : NodeM} (h : zai (d + 1) n = true) (hm : m ∈ n.kids) : zai d m = true := by
 rw [zai] at h
 cases h1 : n.kind == 1 with
 | true =>
  rw [h1] at h
  simp only [cond_true, Bool.and_eq_true] at h
  have : n.kids = [] := List.eq_nil_of_length_eq_zero (by have := h.2.2.2.2.2; (simp only [zz] at *; omega))
  rw [this] at hm; cases hm
 | false =>
  rw [h1] at h
  simp only [cond_false] at h
  cases h2 : n.kind == 2 with
  | true =>
   rw [h2] at h
   simp only [cond_true, Bool.and_eq_true] at h
   have : n.kids = [] := List.eq_nil_of_length_eq_zero (by have := h.2.2.2; (simp only [zz] at *; omega))
   rw [this] at hm; cases hm
  | false =>
   rw [h2] at h
   simp only [cond_false] at h
   cases h3 : n.kind == 3 || n.kind == 4 with
   | false => rw [h3] at h; cases h
   | true =>
    rw [h3] at h
    simp only [cond_true, Bool.and_eq_true, Bool.not_eq_true'] at h
    have := List.any_eq_false.1 h.2.2.2.2 m hm
    simpa using this
theorem zcP {n m : NodeM} (h : zai 200 n = true) (hm : m ∈ n.kids) : zai 200 m = true := zin 199 m (zp3 (d := 199) h hm)
theorem zft {n : NodeM} (h : zai 200 n = true) : zay n = 0 := by unfold zay; rw [h]; rfl
theorem zmh {n : NodeM} (h : zai 200 n = true) : zdc n = decide (n.kids.length = 0) := by
 cases hl : zdc n with
 | true => rw [zjd h hl]; rfl
 | false =>
  rw [zai] at h
  unfold zdc at hl
  simp only [Bool.or_eq_false_iff] at hl
  rw [hl.1, hl.2] at h
  simp only [cond_false] at h
  cases h3 : n.kind == 3 || n.kind == 4 with
  | false => rw [h3] at h; cases h
  | true =>
   rw [h3] at h
   simp only [cond_true, Bool.and_eq_true] at h
   have := h.1
   symm; (simp only [zz] at *; omega)
noncomputable def zfH (n : NodeM) (k : Nat) : List AtomM := (n.kids.take k).flatMap zaZ
theorem zhS {n : NodeM} {k : Nat} (hk : k < n.kids.length) : zfH n (k + 1) = zfH n k ++ zaZ (atN n.kids k) := by
 unfold zfH
 rw [List.take_add_one, List.getElem?_eq_getElem hk, Option.toList_some, List.flatMap_append, zia hk]
 simp
theorem zp4 {n : NodeM} (h : zai 200 n = true) (hk : 0 < n.kids.length) : zaZ n = zfH n n.kids.length := by
 have hl : zdc n = false := by rw [zmh h]; exact decide_eq_false (by omega)
 rw [zfN h, zhR hl]
 unfold zfH
 rw [List.take_length, List.map_flatMap]
 have : ∀ l : List NodeM, (∀ m ∈ l, m ∈ n.kids) -> (l.flatMap fun m => (zas m).map NodeM.atom) = l.flatMap zaZ := by
  intro l
  induction l with
  | nil => intro _; rfl
  | cons m r ih =>
   intro hm
   rw [List.flatMap_cons, List.flatMap_cons, ih fun x hx => hm x (List.mem_cons_of_mem _ hx), zfN (zcP h (hm m List.mem_cons_self))]
 exact this _ fun m hm => hm
theorem zqw {n : NodeM} {k : Nat} : (zfH n k).length ≤ (zaE 1 n).length := by
 refine Nat.le_trans ?_ (@zij n k)
 unfold zfH zrR
 have : ∀ l : List NodeM, (l.flatMap zaZ).length ≤ (l.flatMap (zaE 1)).length := by
  intro l
  induction l with
  | nil => simp
  | cons m r ih =>
   rw [List.flatMap_cons, List.flatMap_cons, List.length_append, List.length_append]
   have : (zaZ m).length ≤ (zaE 1 m).length := zkS
   omega
 have := this (n.kids.take k)
 omega
theorem zjO {n : NodeM} (h : zai 200 n = true) (hk : n.kids.length = 0) : (zaZ n).length = 1 /\ (zaE 1 n).length = 1 := by
 have hl : zdc n = true := by rw [zmh h]; exact decide_eq_true hk
 have hn : n.kids = [] := List.eq_nil_of_length_eq_zero hk
 rw [zfN h, zir hl hn, zaG, hn]; simp
theorem zvu (n : NodeM) : n.dep ≤ (zaE 1 n).length := by
 induction n using zce with | h n ih => ?_
 rw [zaT, zaG, List.length_cons]
 by_cases hq : n.kids = []
 ·rw [hq, depL]; omega
 ·obtain ⟨m, hm, he⟩ := zht hq
  have h1 := ih m hm
  have h2 : (zaE (1 + 1) m).length ≤ (n.kids.flatMap (zaE (1 + 1))).length := by
   obtain ⟨a, b, hab⟩ := List.append_of_mem hm
   rw [hab, List.flatMap_append, List.flatMap_cons, List.length_append, List.length_append]; omega
  rw [zn9 m (1 + 1) 1] at h2
  omega
theorem zlg {n m : NodeM} (hn : NFit n) (hm : m ∈ n.kids) : NFit m := ⟨hn.fit.kid hm, by have := zcW hm; have := hn.dep; omega, zgb hn.num hm⟩
theorem zhr (n : NodeM) (hn : NFit n) (hs : zai 200 n = true) : DSpec Tryd.prog axX axG 43 [.agg (zaj n)] [] (fun v O => v = .tup [.isl 5 (zaZ n).length (elF zbA (zaZ n)), ai 0] /\ O = []) := by
 have := ztj n hn
 rw [zft hs] at this; exact this
theorem zhe (n : NodeM) (hn : NFit n) (hs : zai 200 n = true) : DSpec Tryd.prog axX axG 44 [.agg (zaj n)] [] (fun v O => v = .tup [ai ((zaE 1 n).length : Int), ai 0] /\ O = []) := by
 have := zrF n hn
 rw [zft hs, (zfl hs).2] at this; exact this
theorem zhn (n : NodeM) (hn : NFit n) (hs : zai 200 n = true) : DSpec Tryd.prog axX axG 45 [.agg (zaj n)] [] (fun v O => v = .tup [ai (n.dep : Int), ai 0] /\ O = []) := by
 have := zr4 n hn
 have hd : zuQ n = (n.dep : Int) := by unfold zuQ; rw [hs]; rfl
 rw [zft hs, hd] at this; exact this
theorem zub (n : NodeM) (hn : NFit n) (hs : zai 200 n = true) (h0 : 0 < n.kids.length) (k m : Nat) (el : Nat -> List SV) (h : LElA zbA (zfH n k) m el) (hk : k = n.kids.length) : DSpec Tryd.prog axX axG 46 [.isl 5 (zaZ n).length (elF zbA (zaZ n)), .isl 5 m el] [] (fun v O => v = ab true /\ O = []) := by
 subst hk
 obtain ⟨h1, h2⟩ := h
 rw [<- zp4 hs h0] at h1 h2
 subst h1
 exact (zjP n hn).arg (.cons (.refl _) (.cons (.isl fun i hi => h2 i hi) .nil))
set_option maxHeartbeats 8000000 in
theorem zr8 (n : NodeM) : DSpec Tryd.prog axX axG 7 [.agg (zaj n)] [] (fun v _ => v = .cv (.bool true)) := by
 have hf : DSpec Tryd.prog axX axG 42 [.agg (zaj n), ai 60, ai 1] [] (fun v O => v = ai (zgS 210 60 n) /\ O = []) := zug 210 (by omega) n 60 (by omega) (by omega)
 cases hq : decide (zgS 210 60 n < 0) with
 | true =>
  have hq : zgS 210 60 n < 0 := by simpa using hq
  refine zac { glb := axG } true Tryd.func7 (by kernel_rfl) rfl ?_
  repeat' (
    (conv => whnf)
    first
     | exact zad (by kernel_rfl)
     | refine And.intro ?_ ?_
     | refine zaa ?_ ?_
     | (refine ⟨_, hf, ?_⟩; rintro v O' ⟨rfl, rfl⟩)
     | (refine ⟨_, zbY, ?_⟩; rintro v O' ⟨rfl, rfl⟩)
     | intro _)
  all_goals first
   | rfl
   | (exfalso; (simp only [zz] at *; omega))
 | false =>
  obtain ⟨hn, _, hnum, _⟩ := zlp (by omega) hq
  have hq : ¬ zgS 210 60 n < 0 := by simpa using hq
  have hS := zlk n hn.fit
  cases hs : zai 200 n with
  | false =>
   have h3 : zay n = 3 := by unfold zay; rw [hs]; rfl
   rw [h3] at hS
   refine zac { glb := axG } true Tryd.func7 (by kernel_rfl) rfl ?_
   repeat' (
     (conv => whnf)
     first
      | exact zad (by kernel_rfl)
      | refine And.intro ?_ ?_
      | refine zaa ?_ ?_
      | (refine ⟨_, hf, ?_⟩; rintro v O' ⟨rfl, rfl⟩)
      | (refine ⟨_, zbY, ?_⟩; rintro v O' ⟨rfl, rfl⟩)
      | (refine ⟨_, hS, ?_⟩; rintro v O' ⟨rfl, rfl⟩)
      | intro _)
   all_goals first
    | rfl
    | (exfalso; (simp only [zz] at *; omega))
  | true =>
   rw [zft hs] at hS
   have hdn := zvu n
   have hdk := zaT n
   rcases zbM n with he | he
   ·have hl := zjO hs he
    refine zac { glb := axG } true Tryd.func7 (by kernel_rfl) rfl ?_
    repeat' (
      (conv => whnf)
      first
       | exact zad (by kernel_rfl)
       | refine And.intro ?_ ?_
       | refine zaa ?_ ?_
       | (refine ⟨_, hf, ?_⟩; rintro v O' ⟨rfl, rfl⟩)
       | (refine ⟨_, zbY, ?_⟩; rintro v O' ⟨rfl, rfl⟩)
       | (refine ⟨_, hS, ?_⟩; rintro v O' ⟨rfl, rfl⟩)
       | (refine ⟨_, zhr n hn hs, ?_⟩; rintro v O' ⟨rfl, rfl⟩)
       | (refine ⟨_, zhe n hn hs, ?_⟩; rintro v O' ⟨rfl, rfl⟩)
       | (refine ⟨_, zhn n hn hs, ?_⟩; rintro v O' ⟨rfl, rfl⟩)
       | intro _)
    all_goals first
     | rfl
     | omega
     | (exfalso; (simp only [zz] at *; omega))
   ·by_cases h0 : n.kids.length = 0
    ·have hl := zjO hs h0
     refine zac { glb := axG } true Tryd.func7 (by kernel_rfl) rfl ?_
     repeat' (
       (conv => whnf)
       first
        | exact zad (by kernel_rfl)
        | refine And.intro ?_ ?_
        | refine zaa ?_ ?_
        | (refine ⟨_, hf, ?_⟩; rintro v O' ⟨rfl, rfl⟩)
        | (refine ⟨_, zbY, ?_⟩; rintro v O' ⟨rfl, rfl⟩)
        | (refine ⟨_, hS, ?_⟩; rintro v O' ⟨rfl, rfl⟩)
        | (refine ⟨_, zhr n hn hs, ?_⟩; rintro v O' ⟨rfl, rfl⟩)
        | (refine ⟨_, zhe n hn hs, ?_⟩; rintro v O' ⟨rfl, rfl⟩)
        | (refine ⟨_, zhn n hn hs, ?_⟩; rintro v O' ⟨rfl, rfl⟩)
        | intro _)
     all_goals first
      | rfl
      | omega
      | (exfalso; (simp only [zz] at *; omega))
    ·rw [he]
     have hkA : ∀ k, k < n.kids.length -> DSpec Tryd.prog axX axG 43 [.agg (zaj (atN n.kids k))] [] (fun v O => v = .tup [.isl 5 (zaZ (atN n.kids k)).length (elF zbA (zaZ (atN n.kids k))), ai 0] /\ O = []) := fun k hk => zhr _ (zlg hn (zba hk)) (zcP hs (zba hk))
     have hkN : ∀ k, k < n.kids.length -> DSpec Tryd.prog axX axG 44 [.agg (zaj (atN n.kids k))] [] (fun v O => v = .tup [ai ((zaE 1 (atN n.kids k)).length : Int), ai 0] /\ O = []) := fun k hk => zhe _ (zlg hn (zba hk)) (zcP hs (zba hk))
     have hkD : ∀ k, k < n.kids.length -> DSpec Tryd.prog axX axG 45 [.agg (zaj (atN n.kids k))] [] (fun v O => v = .tup [ai ((atN n.kids k).dep : Int), ai 0] /\ O = []) := fun k hk => zhn _ (zlg hn (zba hk)) (zcP hs (zba hk))
     have nA := zhr n hn hs
     have nN := zhe n hn hs
     have nD := zhn n hn hs
     rw [he] at nA nN nD hS hf
     refine zac { glb := axG, ann := [(13, [12, 9, 10, 11])], nils := [(13, [(.slot 9, 39, 5)])] } true Tryd.func7 (by kernel_rfl) rfl ?_
     repeat' (
       (conv => whnf)
       first
        | exact zad (by kernel_rfl)
        | refine And.intro ?_ ?_
        | refine zaa ?_ ?_
        | (refine ⟨_, hf, ?_⟩; rintro v O' ⟨rfl, rfl⟩)
        | (refine ⟨_, zbY, ?_⟩; rintro v O' ⟨rfl, rfl⟩)
        | (refine ⟨_, hS, ?_⟩; rintro v O' ⟨rfl, rfl⟩)
        | (refine ⟨_, nA, ?_⟩; rintro v O' ⟨rfl, rfl⟩)
        | (refine ⟨_, nN, ?_⟩; rintro v O' ⟨rfl, rfl⟩)
        | (refine ⟨_, nD, ?_⟩; rintro v O' ⟨rfl, rfl⟩)
        | (refine ⟨_, hkA k (by (simp only [zz] at *; omega)), ?_⟩; rintro v O' ⟨rfl, rfl⟩)
        | (refine ⟨_, hkN k (by (simp only [zz] at *; omega)), ?_⟩; rintro v O' ⟨rfl, rfl⟩)
        | (refine ⟨_, hkD k (by (simp only [zz] at *; omega)), ?_⟩; rintro v O' ⟨rfl, rfl⟩)
        | (refine ⟨_, zub n hn hs (by omega) k m el hj (by (simp only [zz] at *; omega)), ?_⟩; rintro v O' ⟨rfl, rfl⟩)
        | ((refine ⟨fun vs O _ => ∃ (k m : Nat) (el : Nat -> List SV), k ≤ n.kids.length /\ LElA zbA (zfH n k) m el /\ vs = [ai k, .lst 1, ai (zrR n k : Int), ai ((depL (n.kids.take k) : Nat) : Int)] /\ O = [.cells 42 (zfm n (fun i => zaj (atN n.kids i))), .list 39 5 m el], fun vs O => match vs with | [.cv (.int _ k), _, _, _] => n.kids.length - k.toNat | _ => 0, ⟨0, 0, _, Nat.zero_le _, ⟨rfl, fun i hi => absurd hi (by omega)⟩, rfl, rfl⟩, ?_⟩; rintro vs O _ ⟨k, m, el, hk, hj, rfl, rfl⟩))
        | intro _)
     all_goals try have hle := @zij n k
     all_goals try have hle1 := @zij n (k + 1)
     all_goals try have hst := zmG (n := n) (k := k) (by (simp only [zz] at *; omega))
     all_goals try have hal := @zqw n (k + 1)
     all_goals try have has := congrArg List.length (zhS (n := n) (k := k) (by (simp only [zz] at *; omega)))
     all_goals try have hml := hj.1
     all_goals try rw [List.length_append] at has
     all_goals try have htk := zhV n k
     all_goals have hz := hn.fit.self.1
     all_goals try have e1 : k = n.kids.length -> zrR n k = (zaE 1 n).length := fun h => by rw [h, zkd]
     all_goals try have e2 : k = n.kids.length -> depL (n.kids.take k) = depL n.kids := fun h => by rw [h, List.take_length]
     all_goals first
      | rfl
      | omega
      | (simp only [zz] at *; omega)
      | (exfalso; (simp only [zz] at *; omega))
      | exact ⟨k + 1, _, _, by (simp only [zz] at *; omega), by rw [zhS (by (simp only [zz] at *; omega))]; exact hj.app, by rw [hst, zio (by (simp only [zz] at *; omega))]; rfl, rfl⟩
end Go.Proofs.YtlfhikphdkpfgaaDoor
