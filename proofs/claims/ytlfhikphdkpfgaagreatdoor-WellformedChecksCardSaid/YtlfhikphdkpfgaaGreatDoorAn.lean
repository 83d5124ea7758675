import Derived.Test.YtlfhikphdkpfgaaGreatDoorAm
set_option linter.unusedSimpArgs false
set_option linter.unusedVariables false
set_option maxRecDepth 100000
namespace Go.Proofs.YtlfhikphdkpfgaaGreatDoor
open Go Go.Cx
theorem ziT (n : NodeM) : (zal n).length = (zaL 1 n).length := by rw [<- zdz n 1, List.length_map]
theorem zeJ {n : NodeM} {k : Nat} (hk : k < n.kids.length) : (n.kids.take (k + 1)).flatMap zal = (n.kids.take k).flatMap zal ++ zal (atN n.kids k) := by
 rw [List.take_add_one, List.getElem?_eq_getElem hk, List.flatMap_append, zhb hk]; simp
theorem zeE {n : NodeM} {k : Nat} : ((n.kids.take k).flatMap zal).length + 1 ≤ (zaL 1 n).length := by
 rw [<- ziT, zcf, List.length_cons]
 conv => rhs; rw [<- List.take_append_drop k n.kids]
 rw [List.flatMap_append, List.length_append]; omega
theorem zm3 {n : NodeM} {k : Nat} (hk : decide ((k : Int) < n.kids.length) = false) : n :: (n.kids.take k).flatMap zal = zal n := by
 rw [List.take_of_length_le (by simp at hk; omega), <- zcf]
theorem LElA.same {A : Type} [Inhabited A] {g : A -> List SV} {sz : Nat} {l : List A} {n : Nat} {el : Nat -> List SV} (h : LElA g l n el) : Same (.isl sz n el) (.isl sz l.length (elF g l)) := by
 obtain ⟨rfl, h⟩ := h
 exact .isl h
set_option maxHeartbeats 8000000 in
theorem zwZ : ∀ (n : NodeM) (hn : Fit n) (hnum : (zaL 1 n).length ≤ 100000), DSpec Tryz.prog axX axG 67 [.agg (zah n)] [] (fun v O => v = .isl 9 (zal n).length (elF zah (zal n)) /\ O = []) := by
 intro n
 induction n using zbH with | h n ih => ?_
 intro hn hnum
 have hz := hn.self.1
 refine DSpec.same (post := fun v O => Same v (.isl 9 (zal n).length (elF zah (zal n))) /\ O = []) ?_ fun v O h => ⟨_, h.1, rfl, h.2⟩
 rcases zbr n with he | he
 ·skip
  refine zac { glb := axG, ann := [(3, [4, 3])] } true Tryz.func67 (by kernel_rfl) rfl ?_
  repeat' (
    (conv => whnf)
    first
     | exact zad (by kernel_rfl)
     | refine And.intro ?_ ?_
     | refine zaa ?_ ?_
     | ((refine ⟨fun vs O _ => ∃ (k m : Nat) (el : Nat -> List SV), k ≤ n.kids.length /\ LElA zah (n :: (n.kids.take k).flatMap zal) m el /\ vs = [ai k, .lst 1] /\ O = [.cells 28 (zcg n (zbY n.kids)), .list 28 9 m el], fun vs O => match vs with | [.cv (.int _ k), _] => n.kids.length - k.toNat | _ => 0, ⟨0, 1, _, Nat.zero_le _, LElA.one rfl rfl, rfl, rfl⟩, ?_⟩; rintro vs O _ ⟨k, m, el, hk, hle, rfl, rfl⟩))
     | (refine ⟨_, ih (atN n.kids k) (zaY (by (simp only [zz] at *; omega))) (hn.kid (zaY (by (simp only [zz] at *; omega)))) (zgC hnum (zaY (by (simp only [zz] at *; omega)))), ?_⟩; rintro v O' ⟨rfl, rfl⟩)
     | intro _)
  all_goals try have htk := zeE (n := n) (k := k)
  all_goals first
   | rfl
   | omega
   | (simp only [zz] at *; omega)
   | (exfalso; (simp only [zz] at *; omega))
   | (have h1 := hle.1; rw [List.length_cons] at h1; have h2 := zeE (n := n) (k := k + 1); rw [zeJ (by (simp only [zz] at *; omega)), List.length_append] at h2; omega)
   | exact ⟨k + 1, _, _, by (simp only [zz] at *; omega), by rw [zeJ (by (simp only [zz] at *; omega)), <- List.cons_append]; exact hle.app, rfl, rfl⟩
   | (rw [zm3 (k := k) (by assumption)] at hle; exact hle.same)
   | skip
 ·rw [he]
  refine zac { glb := axG, ann := [(3, [4, 3])] } true Tryz.func67 (by kernel_rfl) rfl ?_
  repeat' (
    (conv => whnf)
    first
     | exact zad (by kernel_rfl)
     | refine And.intro ?_ ?_
     | refine zaa ?_ ?_
     | ((refine ⟨fun vs O _ => ∃ (k m : Nat) (el : Nat -> List SV), k ≤ n.kids.length /\ LElA zah (n :: (n.kids.take k).flatMap zal) m el /\ vs = [ai k, .lst 1] /\ O = [.cells 28 (zcg n (fun i => zah (atN n.kids i))), .list 28 9 m el], fun vs O => match vs with | [.cv (.int _ k), _] => n.kids.length - k.toNat | _ => 0, ⟨0, 1, _, Nat.zero_le _, LElA.one he.symm rfl, rfl, rfl⟩, ?_⟩; rintro vs O _ ⟨k, m, el, hk, hle, rfl, rfl⟩))
     | (refine ⟨_, ih (atN n.kids k) (zaY (by (simp only [zz] at *; omega))) (hn.kid (zaY (by (simp only [zz] at *; omega)))) (zgC hnum (zaY (by (simp only [zz] at *; omega)))), ?_⟩; rintro v O' ⟨rfl, rfl⟩)
     | intro _)
  all_goals try have htk := zeE (n := n) (k := k)
  all_goals first
   | rfl
   | omega
   | (simp only [zz] at *; omega)
   | (exfalso; (simp only [zz] at *; omega))
   | (have h1 := hle.1; rw [List.length_cons] at h1; have h2 := zeE (n := n) (k := k + 1); rw [zeJ (by (simp only [zz] at *; omega)), List.length_append] at h2; omega)
   | exact ⟨k + 1, _, _, by (simp only [zz] at *; omega), by rw [zeJ (by (simp only [zz] at *; omega)), <- List.cons_append]; exact hle.app, rfl, rfl⟩
   | (rw [zm3 (k := k) (by assumption)] at hle; exact hle.same)
theorem zdF (n : NodeM) (p : NodeM -> Bool) : ze1 n p = (zal n).any p := by
 unfold ze1 zal
 rw [List.any_map]; rfl
def zrl (n : NodeM) (k : Nat) : Nat := (((zal n).take k).filter zc1).length
theorem zyE {n : NodeM} {k : Nat} (hk : k < (zal n).length) (h : zc1 ((zal n).getD k default) = true) : zrl n (k + 1) = zrl n k + 1 := by
 unfold zrl
 rw [List.getD_eq_getElem?_getD, List.getElem?_eq_getElem hk] at h
 rw [List.take_add_one, List.getElem?_eq_getElem hk, List.filter_append]
 simp only [Option.getD_some] at h
 simp [h]
theorem zxh {n : NodeM} {k : Nat} (hk : k < (zal n).length) (h : zc1 ((zal n).getD k default) = false) : zrl n (k + 1) = zrl n k := by
 unfold zrl
 rw [List.getD_eq_getElem?_getD, List.getElem?_eq_getElem hk] at h
 rw [List.take_add_one, List.getElem?_eq_getElem hk, List.filter_append]
 simp only [Option.getD_some] at h
 simp [h]
theorem zzC (n : NodeM) (k : Nat) : zrl n k ≤ (zal n).length := by
 unfold zrl
 refine Nat.le_trans (List.length_filter_le _ _) ?_
 rw [List.length_take]; omega
theorem zx0 {n : NodeM} {k : Nat} (hk : (zal n).length ≤ k) : zrl n k = (zav n).length := by
 unfold zrl zav; rw [List.take_of_length_le hk]
theorem zyG {q : QueryM} {k : Nat} (hk : k < (zal q.p).length) (h : zlc ((zal q.p).getD k default) = true) : zhr q = true := by
 have : ze1 q.p zlc = true := by
  rw [zdF]
  exact (zck (p := zlc) hk h).symm.trans (by simp)
 unfold zhr; rw [this]; simp
theorem zAR {q : QueryM} {k : Nat} (hs : zao 200 q.p = true) (hk : (zal q.p).length ≤ k) (hj : ∀ j, j < k -> zlc ((zal q.p).getD j default) = false) : zhr q = ((decide (((zrl q.p k : Nat) : Int) > 12) || decide ((q.hv.length : Int) > 4)) || decide ((q.em.length : Int) > 4)) := by
 have h1 : ze1 q.p zlc = false := by
  rw [zdF]
  exact (zcp (p := zlc) hk hj).symm.trans rfl
 have h2 : (zaf q.p).length = zrl q.p k := by rw [zmf hs, List.length_map, zx0 hk]
 unfold zhr; rw [h1, h2]; simp
set_option maxHeartbeats 8000000 in
theorem zxe (q : QueryM) (hq : QFit q) (hs : zao 200 q.p = true) : DSpec Tryz.prog axX axG 36 [.agg (zaj q)] [] (fun v O => v = ab (zhr q) /\ O = []) := by
 have hnl := ziT q.p
 have hnum := hq.num
 refine zac { glb := axG, ann := [(4, [5, 3])] } true Tryz.func36 (by kernel_rfl) rfl ?_
 repeat' (
   (conv => whnf)
   first
    | exact zad (by kernel_rfl)
    | refine And.intro ?_ ?_
    | refine zaa ?_ ?_
    | (refine ⟨_, zwZ q.p hq.fit hq.num, ?_⟩; rintro v O' ⟨rfl, rfl⟩)
    | ((refine ⟨fun vs O _ => ∃ k : Nat, k ≤ (zal q.p).length /\ (∀ j, j < k -> zlc ((zal q.p).getD j default) = false) /\ vs = [ai k, ai ((zrl q.p k : Nat) : Int)] /\ O = [.cells 32 (zaj q)], fun vs O => match vs with | [.cv (.int _ k), _] => (zal q.p).length - k.toNat | _ => 0, ⟨0, Nat.zero_le _, fun j h => absurd h (by omega), rfl, rfl⟩, ?_⟩; rintro vs O _ ⟨k, hk, hj, rfl, rfl⟩))
    | intro _)
 all_goals try have hcl := zzC q.p k
 all_goals try have hbk : zlc ((zal q.p).getD ((k : Int).toNat) default) = (decide ((((zal q.p).getD ((k : Int).toNat) default).kids.length : Int) > 8) || decide ((((zal q.p).getD ((k : Int).toNat) default).atom.cs.length : Int) > 4)) := rfl
 all_goals try have hlk : zc1 ((zal q.p).getD ((k : Int).toNat) default) = (((zal q.p).getD ((k : Int).toNat) default).kind == 1 || ((zal q.p).getD ((k : Int).toNat) default).kind == 2) := rfl
 all_goals first
  | rfl
  | omega
  | (simp only [zz] at *; omega)
  | exact congrArg (fun b => SV.cv (CV.bool b)) (zyG (k := k) (by (simp only [zz] at *; omega)) (hbk.trans (by (simp only [*, Bool.true_and, Bool.and_true, Bool.false_and, Bool.and_false, Bool.true_or, Bool.or_true, Bool.false_or, Bool.or_false, Bool.not_true, Bool.not_false, Bool.not_not, cond_true, cond_false]; first | done | rfl)))).symm
  | exact ⟨k + 1, by (simp only [zz] at *; omega), zaO (p := fun j => zlc ((zal q.p).getD j default)) hj (hbk.trans (by (simp only [*, Bool.true_and, Bool.and_true, Bool.false_and, Bool.and_false, Bool.true_or, Bool.or_true, Bool.false_or, Bool.or_false, Bool.not_true, Bool.not_false, Bool.not_not, cond_true, cond_false]; first | done | rfl))), by rw [zyE (n := q.p) (k := k) (by (simp only [zz] at *; omega)) (hlk.trans (by (simp only [*, Bool.true_and, Bool.and_true, Bool.false_and, Bool.and_false, Bool.true_or, Bool.or_true, Bool.false_or, Bool.or_false, Bool.not_true, Bool.not_false, Bool.not_not, cond_true, cond_false]; first | done | rfl)))]; rfl, rfl⟩
  | exact ⟨k + 1, by (simp only [zz] at *; omega), zaO (p := fun j => zlc ((zal q.p).getD j default)) hj (hbk.trans (by (simp only [*, Bool.true_and, Bool.and_true, Bool.false_and, Bool.and_false, Bool.true_or, Bool.or_true, Bool.false_or, Bool.or_false, Bool.not_true, Bool.not_false, Bool.not_not, cond_true, cond_false]; first | done | rfl))), by rw [zxh (n := q.p) (k := k) (by (simp only [zz] at *; omega)) (hlk.trans (by (simp only [*, Bool.true_and, Bool.and_true, Bool.false_and, Bool.and_false, Bool.true_or, Bool.or_true, Bool.false_or, Bool.or_false, Bool.not_true, Bool.not_false, Bool.not_not, cond_true, cond_false]; first | done | rfl)))]; rfl, rfl⟩
  | exact congrArg (fun b => SV.cv (CV.bool b)) ((zAR (k := k) hs (by (simp only [zz] at *; omega)) hj).trans (by (simp only [*, Bool.true_and, Bool.and_true, Bool.false_and, Bool.and_false, Bool.true_or, Bool.or_true, Bool.false_or, Bool.or_false, Bool.not_true, Bool.not_false, Bool.not_not, cond_true, cond_false]; first | done | rfl))).symm
theorem zy5 {q : QueryM} {k : Nat} (hk : k < (zal q.p).length) (h : zb6 ((zal q.p).getD k default) = true) : zb4 q = true := by
 have : ze1 q.p zb6 = true := by
  rw [zdF]
  exact (zck (p := zb6) hk h).symm.trans (by simp)
 unfold zb4; rw [this]; simp
theorem zAw {q : QueryM} {k : Nat} (hk : (zal q.p).length ≤ k) (hj : ∀ j, j < k -> zb6 ((zal q.p).getD j default) = false) : zb4 q = decide (q.within > 10000) := by
 have h1 : ze1 q.p zb6 = false := by
  rw [zdF]
  exact (zcp (p := zb6) hk hj).symm.trans rfl
 unfold zb4; rw [h1]; simp
theorem zyM {x : Int} : decide (x ≤ 10000) = !decide (x > 10000) := by
 by_cases h : x ≤ 10000 <;> simp [h] <;> omega
set_option maxHeartbeats 8000000 in
theorem zr8 (q : QueryM) (hq : QFit q) : DSpec Tryz.prog axX axG 39 [.agg (zaj q)] [] (fun v O => v = ab (!zb4 q) /\ O = []) := by
 have hnl := ziT q.p
 have hnum := hq.num
 refine zac { glb := axG, ann := [(3, [4])] } true Tryz.func39 (by kernel_rfl) rfl ?_
 repeat' (
   (conv => whnf)
   first
    | exact zad (by kernel_rfl)
    | refine And.intro ?_ ?_
    | refine zaa ?_ ?_
    | (refine ⟨_, zwZ q.p hq.fit hq.num, ?_⟩; rintro v O' ⟨rfl, rfl⟩)
    | ((refine ⟨fun vs O _ => ∃ k : Nat, k ≤ (zal q.p).length /\ (∀ j, j < k -> zb6 ((zal q.p).getD j default) = false) /\ vs = [ai k] /\ O = [.cells 32 (zaj q)], fun vs O => match vs with | [.cv (.int _ k)] => (zal q.p).length - k.toNat | _ => 0, ⟨0, Nat.zero_le _, fun j h => absurd h (by omega), rfl, rfl⟩, ?_⟩; rintro vs O _ ⟨k, hk, hj, rfl, rfl⟩))
    | intro _)
 all_goals try have hbk : zb6 ((zal q.p).getD ((k : Int).toNat) default) = (((zal q.p).getD ((k : Int).toNat) default).kind == 1 && ((decide (((zal q.p).getD ((k : Int).toNat) default).mn < 1) || decide (((zal q.p).getD ((k : Int).toNat) default).mn > ((zal q.p).getD ((k : Int).toNat) default).mx)) || decide (((zal q.p).getD ((k : Int).toNat) default).mx > 6))) := rfl
 all_goals first
  | rfl
  | omega
  | (simp only [zz] at *; omega)
  | exact congrArg (fun b => SV.cv (CV.bool b)) (show false = !zb4 q by rw [zy5 (k := k) (by (simp only [zz] at *; omega)) (hbk.trans (by (simp only [*, Bool.true_and, Bool.and_true, Bool.false_and, Bool.and_false, Bool.true_or, Bool.or_true, Bool.false_or, Bool.or_false, Bool.not_true, Bool.not_false, Bool.not_not, cond_true, cond_false]; first | done | rfl)))]; rfl)
  | exact ⟨k + 1, by (simp only [zz] at *; omega), zaO (p := fun j => zb6 ((zal q.p).getD j default)) hj (hbk.trans (by (simp only [*, Bool.true_and, Bool.and_true, Bool.false_and, Bool.and_false, Bool.true_or, Bool.or_true, Bool.false_or, Bool.or_false, Bool.not_true, Bool.not_false, Bool.not_not, cond_true, cond_false]; first | done | rfl))), rfl, rfl⟩
  | exact congrArg (fun b => SV.cv (CV.bool b)) (show _ = !zb4 q by rw [zAw (k := k) (by (simp only [zz] at *; omega)) hj]; exact zyM)
noncomputable def zkN (n : NodeM) (top : Bool) : Bool := !((n.kind == 2 && top) || (zal n).any fun m => !zaN m)
theorem zw4 {n : NodeM} (top : Bool) (h : (n.kind == 2) = true) (hk : n.kids = []) : zkN n top = !top := by
 unfold zkN
 rw [zcf, hk, h]
 have : zaN n = true := by unfold zaN; rw [hk]; rfl
 simp [this]
theorem zp6 {n : NodeM} (top : Bool) {k : Nat} (hk : k < n.kids.length) (h : zcx n k = true) : zkN n top = false := by
 unfold zkN
 rw [zcf, List.any_cons]
 have : zaN n = false := by unfold zaN; rw [zgp hk h]; rfl
 rw [this]; simp
theorem zwy {n : NodeM} (top : Bool) {k : Nat} (hk : k < n.kids.length) (hw : zcx n k = false) (h : (!zkN (atN n.kids k) (n.kind != 3)) = true) : zkN n top = false := by
 unfold zkN at h ⊢
 rw [Bool.not_not] at h
 have h1 : ((atN n.kids k).kind == 2 && n.kind != 3) = false := by
  unfold zcx at hw
  cases hq : ((atN n.kids k).kind == 2) with
  | false => rfl
  | true =>
   rw [hq, Bool.true_and, Bool.or_eq_false_iff, Bool.or_eq_false_iff] at hw
   rw [Bool.true_and]; exact hw.1.1
 rw [h1, Bool.false_or] at h
 have h2 : (zal n).any (fun m => !zaN m) = true := by
  rw [zcf, List.any_cons, List.any_flatMap]
  rw [Bool.or_eq_true]; right
  rw [List.any_eq_true]
  exact ⟨_, zaY hk, h⟩
 rw [h2]; simp
theorem zyH {n : NodeM} (top : Bool) {k : Nat} (h2 : (n.kind == 2) = false) (hk : decide ((k : Int) < n.kids.length) = false) (hj : ∀ j, j < k -> zcx n j = false /\ zkN (atN n.kids j) (n.kind != 3) = true) : zkN n top = true := by
 have hk : n.kids.length ≤ k := by simp at hk; omega
 unfold zkN
 rw [h2, Bool.false_and, Bool.false_or, zcf, List.any_cons, List.any_flatMap]
 have hs : zaN n = true := by unfold zaN; rw [zhW hk fun j h => (hj j h).1]; rfl
 have ha : (n.kids.any fun a => (zal a).any fun m => !zaN m) = false := by
  rw [Bool.eq_false_iff, Ne, List.any_eq_true]
  rintro ⟨m, hm, hb⟩
  obtain ⟨i, hi, rfl⟩ := List.mem_iff_getElem.1 hm
  have := (hj i (by omega)).2
  unfold zkN at this
  rw [zhb hi, hb] at this
  simp at this
 rw [hs, ha]; rfl
theorem stZ {n : NodeM} {k : Nat} (hj : ∀ j, j < k -> zcx n j = false /\ zkN (atN n.kids j) (n.kind != 3) = true) (h1 : zcx n k = false) (h2 : (!zkN (atN n.kids k) (n.kind != 3)) = false) : ∀ j, j < k + 1 -> zcx n j = false /\ zkN (atN n.kids j) (n.kind != 3) = true := fun j h => by
 rcases Nat.lt_succ_iff_lt_or_eq.1 h with h3 | rfl
 ·exact hj j h3
 ·exact ⟨h1, by simpa using h2⟩
theorem zqh {d : Nat} {n : NodeM} (h : zao d n = true) (h2 : (n.kind == 2) = true) : n.kids = [] := zgA h (by unfold zc1; rw [h2]; simp)
theorem zqk {d : Nat} {n m : NodeM} (h : zao d n = true) (h2 : (n.kind == 2) = false) (hm : m ∈ n.kids) : ∃ d', zao d' m = true := by
 cases h1 : (n.kind == 1) with
 | true =>
  have := zgA h (by unfold zc1; rw [h1]; rfl)
  rw [this] at hm; cases hm
 | false => exact zmh h (by unfold zc1; rw [h1, h2]; rfl) hm
set_option maxHeartbeats 8000000 in
theorem zsq : ∀ (n : NodeM) (hn : Fit n) (hs : ∃ d, zao d n = true) (top : Bool), DSpec Tryz.prog axX axG 40 [.agg (zah n), ab top] [] (fun v O => v = ab (zkN n top) /\ O = []) := by
 intro n
 induction n using zbH with | h n ih => ?_
 intro hn hs top
 have hz := hn.self.1
 obtain ⟨d, hd⟩ := hs
 rcases zbr n with he | he
 ·skip
  refine zac { glb := axG, ann := [(5, [6])] } true Tryz.func40 (by kernel_rfl) rfl ?_
  repeat' (
    (conv => whnf)
    first
     | exact zad (by kernel_rfl)
     | refine And.intro ?_ ?_
     | refine zaa ?_ ?_
     | ((refine ⟨fun vs O _ => ∃ k : Nat, k ≤ n.kids.length /\ (∀ j, j < k -> zcx n j = false /\ zkN (atN n.kids j) (n.kind != 3) = true) /\ vs = [ai k] /\ O = [.cells 28 (zcg n (zbY n.kids))], fun vs O => match vs with | [.cv (.int _ k)] => n.kids.length - k.toNat | _ => 0, ⟨0, Nat.zero_le _, fun j h => absurd h (by omega), rfl, rfl⟩, ?_⟩; rintro vs O _ ⟨k, hk, hj, rfl, rfl⟩))
     | (refine ⟨_, ih (atN n.kids k) (zaY (by (simp only [zz] at *; omega))) (hn.kid (zaY (by (simp only [zz] at *; omega)))) (zqk hd (by assumption) (zaY (by (simp only [zz] at *; omega)))) (n.kind != 3), ?_⟩; rintro v O' ⟨rfl, rfl⟩)
     | intro _)
  all_goals try (have hw : zcx n k = ((atN n.kids ((k : Int).toNat)).kind == 2 && ((n.kind != 3 || (k : Int) == 0) || (k : Int) == (n.kids.length : Int) - 1)) := rfl)
  all_goals first
   | rfl
   | omega
   | (simp only [zz] at *; omega)
   | (exfalso; (simp only [zz] at *; omega))
   | (rename_i hz2; exact congrArg (fun b => SV.cv (CV.bool b)) (zw4 top hz2 (zqh hd hz2)).symm)
   | exact abF (zp6 top (k := k) (by (simp only [zz] at *; omega)) (hw.trans (by (simp only [*, Bool.true_and, Bool.and_true, Bool.false_and, Bool.and_false, Bool.true_or, Bool.or_true, Bool.false_or, Bool.or_false, Bool.not_true, Bool.not_false, Bool.not_not, cond_true, cond_false]; first | done | rfl))))
   | (rename_i hr; exact abF (zwy top (k := k) (by (simp only [zz] at *; omega)) (hw.trans (by (simp only [*, Bool.true_and, Bool.and_true, Bool.false_and, Bool.and_false, Bool.true_or, Bool.or_true, Bool.false_or, Bool.or_false, Bool.not_true, Bool.not_false, Bool.not_not, cond_true, cond_false]; first | done | rfl))) hr))
   | (rename_i hr; exact ⟨k + 1, by (simp only [zz] at *; omega), stZ hj (hw.trans (by (simp only [*, Bool.true_and, Bool.and_true, Bool.false_and, Bool.and_false, Bool.true_or, Bool.or_true, Bool.false_or, Bool.or_false, Bool.not_true, Bool.not_false, Bool.not_not, cond_true, cond_false]; first | done | rfl))) hr, rfl, rfl⟩)
   | exact congrArg (fun b => SV.cv (CV.bool b)) (zyH top (k := k) (by assumption) (by assumption) hj).symm
   | skip
 ·rw [he]
  refine zac { glb := axG, ann := [(5, [6])] } true Tryz.func40 (by kernel_rfl) rfl ?_
  repeat' (
    (conv => whnf)
    first
     | exact zad (by kernel_rfl)
     | refine And.intro ?_ ?_
     | refine zaa ?_ ?_
     | ((refine ⟨fun vs O _ => ∃ k : Nat, k ≤ n.kids.length /\ (∀ j, j < k -> zcx n j = false /\ zkN (atN n.kids j) (n.kind != 3) = true) /\ vs = [ai k] /\ O = [.cells 28 (zcg n (fun i => zah (atN n.kids i)))], fun vs O => match vs with | [.cv (.int _ k)] => n.kids.length - k.toNat | _ => 0, ⟨0, Nat.zero_le _, fun j h => absurd h (by omega), rfl, rfl⟩, ?_⟩; rintro vs O _ ⟨k, hk, hj, rfl, rfl⟩))
     | (refine ⟨_, ih (atN n.kids k) (zaY (by (simp only [zz] at *; omega))) (hn.kid (zaY (by (simp only [zz] at *; omega)))) (zqk hd (by assumption) (zaY (by (simp only [zz] at *; omega)))) (n.kind != 3), ?_⟩; rintro v O' ⟨rfl, rfl⟩)
     | intro _)
  all_goals try (have hw : zcx n k = ((atN n.kids ((k : Int).toNat)).kind == 2 && ((n.kind != 3 || (k : Int) == 0) || (k : Int) == (n.kids.length : Int) - 1)) := rfl)
  all_goals first
   | rfl
   | omega
   | (simp only [zz] at *; omega)
   | (exfalso; (simp only [zz] at *; omega))
   | (rename_i hz2; exact congrArg (fun b => SV.cv (CV.bool b)) (zw4 top hz2 (zqh hd hz2)).symm)
   | exact abF (zp6 top (k := k) (by (simp only [zz] at *; omega)) (hw.trans (by (simp only [*, Bool.true_and, Bool.and_true, Bool.false_and, Bool.and_false, Bool.true_or, Bool.or_true, Bool.false_or, Bool.or_false, Bool.not_true, Bool.not_false, Bool.not_not, cond_true, cond_false]; first | done | rfl))))
   | (rename_i hr; exact abF (zwy top (k := k) (by (simp only [zz] at *; omega)) (hw.trans (by (simp only [*, Bool.true_and, Bool.and_true, Bool.false_and, Bool.and_false, Bool.true_or, Bool.or_true, Bool.false_or, Bool.or_false, Bool.not_true, Bool.not_false, Bool.not_not, cond_true, cond_false]; first | done | rfl))) hr))
   | (rename_i hr; exact ⟨k + 1, by (simp only [zz] at *; omega), stZ hj (hw.trans (by (simp only [*, Bool.true_and, Bool.and_true, Bool.false_and, Bool.and_false, Bool.true_or, Bool.or_true, Bool.false_or, Bool.or_false, Bool.not_true, Bool.not_false, Bool.not_not, cond_true, cond_false]; first | done | rfl))) hr, rfl, rfl⟩)
   | exact congrArg (fun b => SV.cv (CV.bool b)) (zyH top (k := k) (by assumption) (by assumption) hj).symm
theorem zzv (q : QueryM) : zkN q.p true = !zcB q := by
 unfold zkN zcB
 rw [zdF]; simp
end Go.Proofs.YtlfhikphdkpfgaaGreatDoor
