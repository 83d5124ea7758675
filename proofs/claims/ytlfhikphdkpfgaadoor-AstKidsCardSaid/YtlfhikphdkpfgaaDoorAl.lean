import Derived.Test.YtlfhikphdkpfgaaDoorAk
set_option linter.unusedSimpArgs false
set_option linter.unusedVariables false
set_option maxRecDepth 100000
namespace Go.Proofs.YtlfhikphdkpfgaaDoor
open Go Go.Cx
theorem zg7 (n : NodeM) (hn : Fit n) : DSpec Tryd.prog axX axG 37 [.agg (zaj n)] [] (fun v O => v = ai (zay n) /\ O = []) := by
 have h := ztK 200 (by decide) 1 (by decide) n hn
 refine zac { glb := axG } true Tryd.func37 (by kernel_rfl) rfl ?_
 repeat' (
   (conv => whnf)
   first
    | exact zad (by kernel_rfl)
    | refine And.intro ?_ ?_
    | refine zaa ?_ ?_
    | (refine ⟨_, h, ?_⟩; rintro v O' ⟨rfl, rfl⟩)
    | intro _)
 all_goals first
  | rfl
  | omega
  | (rename_i hz; unfold zay; rw [Bool.not_eq_true'] at hz; rw [hz]; rfl)
  | (rename_i hz; unfold zay; rw [Bool.not_eq_false'] at hz; rw [hz]; rfl)
def zjx (n : NodeM) : List NodeM := (zaE 0 n).map (·.2)
theorem zd8 (n : NodeM) : ∀ d, (zaE d n).map (·.2) = zjx n := by
 induction n using zce with | h n ih => ?_
 intro d
 unfold zjx
 rw [zaG, zaG 0, List.map_cons, List.map_cons, List.map_flatMap, List.map_flatMap]
 congr 1
 have : ∀ l : List NodeM, (∀ m ∈ l, m ∈ n.kids) -> l.flatMap (fun a => (zaE (d + 1) a).map (·.2)) = l.flatMap (fun a => (zaE (0 + 1) a).map (·.2)) := by
  intro l
  induction l with
  | nil => intro _; rfl
  | cons m r ihl =>
   intro hm
   rw [List.flatMap_cons, List.flatMap_cons, ihl fun x hx => hm x (List.mem_cons_of_mem _ hx), ih m (hm m List.mem_cons_self), ih m (hm m List.mem_cons_self)]
 exact this _ fun m hm => hm
theorem zmC (n : NodeM) : zjx n = n :: n.kids.flatMap zjx := by
 conv => lhs; unfold zjx
 rw [zaG, List.map_cons, List.map_flatMap]
 congr 1
 exact congrArg (fun f => n.kids.flatMap f) (funext fun m => zd8 m _)
def zas (n : NodeM) : List NodeM := (zjx n).filter zdc
theorem zhR {n : NodeM} (h : zdc n = false) : zas n = n.kids.flatMap zas := by
 unfold zas
 rw [zmC, List.filter_cons, h, List.filter_flatMap]; rfl
theorem zir {n : NodeM} (h : zdc n = true) (hk : n.kids = []) : zas n = [n] := by
 unfold zas
 rw [zmC, hk, List.filter_cons, h]; rfl
theorem zjd {d : Nat} {n : NodeM} (h : zai d n = true) (hl : zdc n = true) : n.kids = [] := by
 cases d with
 | zero => simp [zai] at h
 | succ d =>
  unfold zdc at hl
  rw [zai] at h
  cases h1 : (n.kind == 1) with
  | true =>
   rw [h1] at h
   simp only [cond_true, Bool.and_eq_true] at h
   have := h.2.2.2.2.2
   have : n.kids.length = 0 := by simpa using this
   exact List.eq_nil_of_length_eq_zero this
  | false =>
   cases h2 : (n.kind == 2) with
   | true =>
    rw [h1, h2] at h
    simp only [cond_true, cond_false, Bool.and_eq_true] at h
    have := h.2.2.2
    have : n.kids.length = 0 := by simpa using this
    exact List.eq_nil_of_length_eq_zero this
   | false => rw [h1, h2] at hl; cases hl
theorem zrU {d : Nat} {n m : NodeM} (h : zai d n = true) (hl : zdc n = false) (hm : m ∈ n.kids) : ∃ d', zai d' m = true := by
 cases d with
 | zero => simp [zai] at h
 | succ d =>
  refine ⟨d, ?_⟩
  unfold zdc at hl
  rw [Bool.or_eq_false_iff] at hl
  rw [zai, hl.1, hl.2] at h
  simp only [cond_false] at h
  cases h3 : (n.kind == 3 || n.kind == 4) with
  | false => rw [h3] at h; cases h
  | true =>
   rw [h3] at h
   simp only [cond_true, Bool.and_eq_true, Bool.not_eq_true'] at h
   have h5 := h.2.2.2.2
   rw [List.any_eq_false] at h5
   have := h5 m hm
   simpa using this
theorem zss (n : NodeM) (d e : Int) : (zaE d n).length = (zaE e n).length := by
 have h1 := congrArg List.length (zd8 n d)
 have h2 := congrArg List.length (zd8 n e)
 rw [List.length_map] at h1 h2
 omega
theorem zc1 (n : NodeM) : (zas n).length ≤ (zaE 1 n).length := by
 unfold zas
 refine Nat.le_trans (List.length_filter_le _ _) ?_
 rw [<- zd8 n 1, List.length_map]; exact Nat.le_refl _
theorem zic {n : NodeM} {k : Nat} (hk : k ≤ n.kids.length) : ((n.kids.take k).flatMap zas).length ≤ (zaE 1 n).length := by
 have h1 : ∀ l : List NodeM, (l.flatMap zas).length ≤ (l.flatMap (zaE (1 + 1))).length := by
  intro l
  induction l with
  | nil => exact Nat.le_refl _
  | cons m r ih =>
   rw [List.flatMap_cons, List.flatMap_cons, List.length_append, List.length_append]
   have := zc1 m
   have := zss m 1 (1 + 1)
   omega
 have h2 := h1 (n.kids.take k)
 have h3 : ((n.kids.take k).flatMap (zaE (1 + 1))).length ≤ (n.kids.flatMap (zaE (1 + 1))).length := by
  conv => rhs; rw [<- List.take_append_drop k n.kids]
  rw [List.flatMap_append, List.length_append]; omega
 rw [zaG, List.length_cons]
 omega
theorem LElA.app {A : Type} [Inhabited A] {g : A -> List SV} {l l2 : List A} {n : Nat} {el : Nat -> List SV} (h : LElA g l n el) : LElA g (l ++ l2) (n + l2.length) (zeE n el (elF g l2)) := by
 obtain ⟨rfl, h⟩ := h
 refine ⟨by simp, fun i hi => ?_⟩
 unfold zeE
 split
 ·rename_i hq
  rw [h i hq, List.getD_eq_getElem?_getD, List.getD_eq_getElem?_getD, List.getElem?_append_left hq]
 ·rename_i hq
  unfold elF
  rw [List.getD_eq_getElem?_getD, List.getD_eq_getElem?_getD, List.getElem?_append_right (by omega)]
theorem zh0 {n : NodeM} {k : Nat} (hk : k < n.kids.length) : (n.kids.take (k + 1)).flatMap zas = (n.kids.take k).flatMap zas ++ zas (atN n.kids k) := by
 rw [List.take_add_one, List.getElem?_eq_getElem hk, List.flatMap_append, zia hk]; simp
theorem zgb {n m : NodeM} (h : (zaE 1 n).length ≤ 100000) (hm : m ∈ n.kids) : (zaE 1 m).length ≤ 100000 := by
 have h2 : (zaE (1 + 1) m).length ≤ (zaE 1 n).length := by
  rw [zaG 1 n, List.length_cons]
  have : ∀ l : List NodeM, m ∈ l -> (zaE (1 + 1) m).length ≤ (l.flatMap (zaE (1 + 1))).length := by
   intro l
   induction l with
   | nil => intro h; cases h
   | cons a r ih =>
    intro h
    rw [List.flatMap_cons, List.length_append]
    rcases List.mem_cons.1 h with rfl | h
    ·omega
    ·have := ih h; omega
  have := this n.kids hm
  omega
 rw [zss m 1 (1 + 1)]; omega
set_option maxHeartbeats 8000000 in
theorem zo8 : ∀ (n : NodeM) (hn : Fit n) (hs : ∃ d, zai d n = true) (hnum : (zaE 1 n).length ≤ 100000), DSpec Tryd.prog axX axG 108 [.agg (zaj n)] [] (fun v O => v = .isl 9 (zas n).length (elF zaj (zas n)) /\ O = []) := by
 intro n
 induction n using zce with | h n ih => ?_
 intro hn hs hnum
 have hz := hn.self.1
 refine DSpec.same (post := fun v O => Same v (.isl 9 (zas n).length (elF zaj (zas n))) /\ O = []) ?_ fun v O h => ⟨_, h.1, rfl, h.2⟩
 cases hl : zdc n with
 | true =>
  obtain ⟨d, hd⟩ := hs
  rw [zir hl (zjd hd hl)]
  unfold zdc at hl
  refine zac { glb := axG, ann := [(5, [4, 3])], nils := [(5, [(.slot 3, 42, 9)])] } true Tryd.func108 (by kernel_rfl) rfl ?_
  repeat' (
    (conv => whnf)
    first
     | exact zad (by kernel_rfl)
     | refine And.intro ?_ ?_
     | refine zaa ?_ ?_
     | ((exfalso; simp_all; done))
     | intro _)
  all_goals first
   | rfl
   | exact .isl fun i hi => (by obtain rfl : i = 0 := by simpa using hi
                                rfl)
   | (exfalso; simp_all; done)
 | false =>
  obtain ⟨d, hd⟩ := hs
  rw [zhR hl]
  have hsk := fun m (hm : m ∈ n.kids) => zrU hd hl hm
  unfold zdc at hl
  rcases zbM n with he | he
  ·skip
   refine zac { glb := axG, ann := [(5, [4, 3])], nils := [(5, [(.slot 3, 42, 9)])] } true Tryd.func108 (by kernel_rfl) rfl ?_
   repeat' (
     (conv => whnf)
     first
      | exact zad (by kernel_rfl)
      | refine And.intro ?_ ?_
      | refine zaa ?_ ?_
      | ((refine ⟨fun vs O _ => ∃ (k m : Nat) (el : Nat -> List SV), k ≤ n.kids.length /\ LElA zaj ((n.kids.take k).flatMap zas) m el /\ vs = [ai k, .lst 1] /\ O = [.cells 42 (zfm n (zeb n.kids)), .list 42 9 m el], fun vs O => match vs with | [.cv (.int _ k), _] => n.kids.length - k.toNat | _ => 0, ⟨0, 0, _, Nat.zero_le _, ⟨rfl, fun i h => absurd h (by omega)⟩, rfl, rfl⟩, ?_⟩; rintro vs O _ ⟨k, m, el, hk, hle, rfl, rfl⟩))
      | (refine ⟨_, ih (atN n.kids k) (zba (by (simp only [zz] at *; omega))) (hn.kid (zba (by (simp only [zz] at *; omega)))) (hsk _ (zba (by (simp only [zz] at *; omega)))) (zgb hnum (zba (by (simp only [zz] at *; omega)))), ?_⟩; rintro v O' ⟨rfl, rfl⟩)
      | intro _)
   all_goals try have htk := zic hk
   all_goals first
    | rfl
    | omega
    | (simp only [zz] at *; omega)
    | (exfalso; (simp only [zz] at *; omega))
    | (exfalso; simp_all; done)
    | (have h1 := hle.1; have h2 := zc1 (atN n.kids k); have h3 := zgb hnum (zba (l := n.kids) (k := k) (by (simp only [zz] at *; omega))); omega)
    | exact ⟨k + 1, _, _, by (simp only [zz] at *; omega), by rw [zh0 (by (simp only [zz] at *; omega))]; exact hle.app, rfl, rfl⟩
    | (have hkk : k = n.kids.length := by (simp only [zz] at *; omega)
       subst hkk
       rw [List.take_of_length_le (Nat.le_refl _)] at hle
       obtain ⟨rfl, h2⟩ := hle
       exact .isl h2)
    | skip
  ·rw [he]
   refine zac { glb := axG, ann := [(5, [4, 3])], nils := [(5, [(.slot 3, 42, 9)])] } true Tryd.func108 (by kernel_rfl) rfl ?_
   repeat' (
     (conv => whnf)
     first
      | exact zad (by kernel_rfl)
      | refine And.intro ?_ ?_
      | refine zaa ?_ ?_
      | ((refine ⟨fun vs O _ => ∃ (k m : Nat) (el : Nat -> List SV), k ≤ n.kids.length /\ LElA zaj ((n.kids.take k).flatMap zas) m el /\ vs = [ai k, .lst 1] /\ O = [.cells 42 (zfm n (fun i => zaj (atN n.kids i))), .list 42 9 m el], fun vs O => match vs with | [.cv (.int _ k), _] => n.kids.length - k.toNat | _ => 0, ⟨0, 0, _, Nat.zero_le _, ⟨rfl, fun i h => absurd h (by omega)⟩, rfl, rfl⟩, ?_⟩; rintro vs O _ ⟨k, m, el, hk, hle, rfl, rfl⟩))
      | (refine ⟨_, ih (atN n.kids k) (zba (by (simp only [zz] at *; omega))) (hn.kid (zba (by (simp only [zz] at *; omega)))) (hsk _ (zba (by (simp only [zz] at *; omega)))) (zgb hnum (zba (by (simp only [zz] at *; omega)))), ?_⟩; rintro v O' ⟨rfl, rfl⟩)
      | intro _)
   all_goals try have htk := zic hk
   all_goals first
    | rfl
    | omega
    | (simp only [zz] at *; omega)
    | (exfalso; (simp only [zz] at *; omega))
    | (exfalso; simp_all; done)
    | (have h1 := hle.1; have h2 := zc1 (atN n.kids k); have h3 := zgb hnum (zba (l := n.kids) (k := k) (by (simp only [zz] at *; omega))); omega)
    | exact ⟨k + 1, _, _, by (simp only [zz] at *; omega), by rw [zh0 (by (simp only [zz] at *; omega))]; exact hle.app, rfl, rfl⟩
    | (have hkk : k = n.kids.length := by (simp only [zz] at *; omega)
       subst hkk
       rw [List.take_of_length_le (Nat.le_refl _)] at hle
       obtain ⟨rfl, h2⟩ := hle
       exact .isl h2)
end Go.Proofs.YtlfhikphdkpfgaaDoor
