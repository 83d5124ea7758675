import Derived.Test.YtlfhikphdkpfgaaGreatDoorAq
import Derived.Test.YtlfhikphdkpfgaaGreatDoorGh
set_option linter.unusedSimpArgs false
set_option linter.unusedVariables false
set_option maxRecDepth 100000
namespace Go.Proofs.YtlfhikphdkpfgaaGreatDoor
open Go Go.Cx
theorem zAL {sz n : Nat} {x el : Nat -> List SV} : Same (.isl sz (0 + n) (zdG 0 x el)) (.isl sz n el) := by
 rw [Nat.zero_add]
 exact .isl fun i _ => by unfold zdG; simp
theorem znu (a : AtomM) (hl : a.cs.length ≤ 1000000) : DSpec Tryz.prog axX axG 57 [.agg (zcU a)] [] (fun v O => v = .agg (zcU a) /\ O = []) := by
 refine DSpec.same (post := fun v O => Same v (.agg (zcU a)) /\ O = []) ?_ fun v O h => ⟨_, h.1, rfl, h.2⟩
 refine zac { glb := axG } true Tryz.func57 (by kernel_rfl) rfl ?_
 repeat' (
   (conv => whnf)
   first
    | exact zad (by kernel_rfl)
    | refine And.intro ?_ ?_
    | refine zaa ?_ ?_
    | intro _)
 all_goals first
  | rfl
  | omega
  | exact .agg (.cons (.refl _) (.cons (.refl _) (.cons (.refl _) (.cons zAL SameL.rfl))))
def NEls (l : List NodeM) (m : Nat) (el : Nat -> List SV) : Prop := ∀ i, i < m -> el i = zah (atN l i)
theorem NEls.zero {l : List NodeM} {el : Nat -> List SV} : NEls l 0 el := fun i hi => absurd hi (by omega)
theorem NEls.snoc {l : List NodeM} {m sz : Nat} {el : Nat -> List SV} {cs : List SV} (h : NEls l m el) (hc : cs = zah (atN l m)) (hl : cs.length = sz) : NEls l (m + 1) (zdG m el (zfy sz cs)) := fun i hi => by
 unfold zdG
 split
 ·rename_i hq; exact h i hq
 ·have : i = m := by omega
  subst this
  rw [Nat.sub_self]
  simp only [zfy, Nat.zero_mul, List.drop_zero]
  rw [<- hl, List.take_length]; exact hc
theorem zpY {l : List NodeM} {i : Nat} (hi : i < l.length) : zbY l i = zah (atN l i) := by
 unfold zbY
 rw [zgm, List.getD_eq_getElem?_getD, List.getElem?_map, zhb hi, List.getElem?_eq_getElem hi]; rfl
theorem zhH {n : NodeM} {k : Nat} {el : Nat -> List SV} (hk : k = n.kids.length) (he : NEls n.kids k el) : Same (.agg (zcg n (zbY n.kids) |>.set 8 (.isl 9 k el))) (.agg (zah n)) := by
 subst hk
 refine .agg (.cons (.refl _) (.cons (.refl _) (.cons (.refl _) (.cons (.refl _) (.cons (.refl _) (.cons (.refl _) (.cons (.refl _) (.cons (.refl _) (.cons (.isl fun i hi => ?_) .nil)))))))))
 rw [he i hi, zpY hi]
set_option maxHeartbeats 4000000 in
theorem zsf (n : NodeM) : Fit n -> DSpec Tryz.prog axX axG 32 [.agg (zah n)] [] (fun v O => v = .agg (zah n) /\ O = []) := by
 refine zbH (p := fun n => Fit n -> DSpec Tryz.prog axX axG 32 [.agg (zah n)] [] (fun v O => v = .agg (zah n) /\ O = [])) ?_ n
 clear n
 intro n ih0 hn
 have ih : ∀ m ∈ n.kids, DSpec Tryz.prog axX axG 32 [.agg (zah m)] [] (fun v O => v = .agg (zah m) /\ O = []) := fun m hm => ih0 m hm (hn.kid hm)
 have hk := hn.self.1
 have hc := hn.self.2
 refine DSpec.same (post := fun v O => Same v (.agg (zah n)) /\ O = []) ?_ fun v O h => ⟨_, h.1, rfl, h.2⟩
 rcases zbr n with he | he
 ·skip
  refine zac { glb := axG, ann := [(4, [4, 3])], nils := [(4, [(.slot 3, 28, 9)])] } true Tryz.func32 (by kernel_rfl) rfl ?_
  repeat' (
    (conv => whnf)
    first
     | exact zad (by kernel_rfl)
     | refine And.intro ?_ ?_
     | refine zaa ?_ ?_
     | (refine ⟨_, znu n.atom hc, ?_⟩; rintro v O' ⟨rfl, rfl⟩)
     | (refine ⟨_, ih (atN n.kids k) (zaY (by (simp only [zz] at *; omega))), ?_⟩; rintro v O' ⟨rfl, rfl⟩)
     | ((refine ⟨fun vs O _ => ∃ (k : Nat) (el : Nat -> List SV), k ≤ n.kids.length /\ NEls n.kids k el /\ vs = [ai k, .lst 2] /\ O = [.cells 28 (zcg n (zbY n.kids)), .cells 28 [ai 0, ai 0, ai 0, ai 0, ab false, au 0, .cv .nils, .cv (.str []), .cv .nils], .list 28 9 k el], fun vs O => match vs with | [.cv (.int _ k), _] => n.kids.length - k.toNat | _ => 0, ⟨0, _, Nat.zero_le _, NEls.zero, rfl, rfl⟩, ?_⟩; rintro vs O _ ⟨k, el, hk1, hj, rfl, rfl⟩))
     | intro _)
  all_goals first
   | rfl
   | omega
   | (simp only [zz] at *; omega)
   | exact ⟨k + 1, _, by (simp only [zz] at *; omega), hj.snoc rfl rfl, rfl, rfl⟩
   | (rw [<- he]; exact zhH (by (simp only [zz] at *; omega)) hj)
   | exact zhH (by (simp only [zz] at *; omega)) hj
   | (exfalso; (simp only [zz] at *; omega))
   | skip
 ·rw [he]
  refine zac { glb := axG, ann := [(4, [4, 3])], nils := [(4, [(.slot 3, 28, 9)])] } true Tryz.func32 (by kernel_rfl) rfl ?_
  repeat' (
    (conv => whnf)
    first
     | exact zad (by kernel_rfl)
     | refine And.intro ?_ ?_
     | refine zaa ?_ ?_
     | (refine ⟨_, znu n.atom hc, ?_⟩; rintro v O' ⟨rfl, rfl⟩)
     | (refine ⟨_, ih (atN n.kids k) (zaY (by (simp only [zz] at *; omega))), ?_⟩; rintro v O' ⟨rfl, rfl⟩)
     | ((refine ⟨fun vs O _ => ∃ (k : Nat) (el : Nat -> List SV), k ≤ n.kids.length /\ NEls n.kids k el /\ vs = [ai k, .lst 2] /\ O = [.cells 28 (zcg n (fun i => zah (atN n.kids i))), .cells 28 [ai 0, ai 0, ai 0, ai 0, ab false, au 0, .cv .nils, .cv (.str []), .cv .nils], .list 28 9 k el], fun vs O => match vs with | [.cv (.int _ k), _] => n.kids.length - k.toNat | _ => 0, ⟨0, _, Nat.zero_le _, NEls.zero, rfl, rfl⟩, ?_⟩; rintro vs O _ ⟨k, el, hk1, hj, rfl, rfl⟩))
     | intro _)
  all_goals first
   | rfl
   | omega
   | (simp only [zz] at *; omega)
   | exact ⟨k + 1, _, by (simp only [zz] at *; omega), hj.snoc rfl rfl, rfl, rfl⟩
   | (rw [<- he]; exact zhH (by (simp only [zz] at *; omega)) hj)
   | exact zhH (by (simp only [zz] at *; omega)) hj
   | (exfalso; (simp only [zz] at *; omega))
theorem zq0 (q : QueryM) (hq : QFit q) : DSpec Tryz.prog axX axG 7 [.agg (zaj q)] [] (fun v O => v = .agg (zaj q) /\ O = []) := by
 refine DSpec.same (post := fun v O => Same v (.agg (zaj q)) /\ O = []) ?_ fun v O h => ⟨_, h.1, rfl, h.2⟩
 have h1 := hq.hv
 have h2 := hq.em
 refine zac { glb := axG } true Tryz.func7 (by kernel_rfl) rfl ?_
 repeat' (
   (conv => whnf)
   first
    | exact zad (by kernel_rfl)
    | refine And.intro ?_ ?_
    | refine zaa ?_ ?_
    | (refine ⟨_, zsf q.p hq.fit, ?_⟩; rintro v O' ⟨rfl, rfl⟩)
    | intro _)
 all_goals first
  | rfl
  | omega
  | exact .agg (.cons (.refl _) (.cons (.refl _) (.cons (.refl _) (.cons (.refl _) (.cons (.refl _) (.cons (.refl _) (.cons (.refl _) (.cons (.refl _) (.cons (.refl _) (.cons (.refl _) (.cons zAL (.cons zAL .nil))))))))))))
def zbd (f : NodeM -> Int) : List NodeM -> Int -> Int
 | [], o => o
 | m :: r, o => bif decide (o ≤ 40) then zbd f r (o + f m) else o
def zwE (n : NodeM) : Bool := (decide ((n.kids.length : Int) > 40) || decide ((n.atom.cs.length : Int) > 10)) || decide (((nm n.atom.name).length : Int) > 20)
def zhf (f : NodeM -> Int) (n : NodeM) : Int := bif zwE n then 1000 else zbd f n.kids 1
def zcz : Nat -> NodeM -> Int
 | 0, _ => 1000
 | d + 1, n => zhf (zcz d) n
theorem zma {f : NodeM -> Int} {B : Int} (hf : ∀ m, 1 ≤ f m /\ f m ≤ B) : ∀ {l : List NodeM} {o : Int}, 1 ≤ o -> o ≤ 40 + B -> o ≤ zbd f l o /\ zbd f l o ≤ 40 + B
 | [], o, h1, h2 => ⟨Int.le_refl _, h2⟩
 | m :: r, o, h1, h2 => by
  unfold zbd
  cases h : decide (o ≤ 40) with
  | true =>
   have hm := hf m
   have ho : o ≤ 40 := by simpa using h
   have := zma hf (l := r) (o := o + f m) (by omega) (by omega)
   exact ⟨by simp only [cond_true]; omega, this.2⟩
  | false => exact ⟨Int.le_refl _, h2⟩
theorem zir : ∀ (d : Nat) (m : NodeM), 1 ≤ zcz d m /\ zcz d m ≤ 1000 + 40 * d
 | 0, m => by unfold zcz; omega
 | d + 1, m => by
  unfold zcz zhf
  cases zwE m with
  | true => simp only [cond_true]; omega
  | false =>
   have := zma (f := zcz d) (B := 1000 + 40 * d) (zir d) (l := m.kids) (o := 1) (by omega) (by omega)
   simp only [cond_false]; omega
theorem zkg {f : NodeM -> Int} (hf : ∀ m, 1 ≤ f m) : ∀ {l : List NodeM} {o : Int}, zbd f l o ≤ 40 -> 1 ≤ o -> (o ≤ zbd f l o) /\ ∀ m ∈ l, f m ≤ 40
 | [], o, h, h1 => ⟨Int.le_refl _, fun m hm => by cases hm⟩
 | m :: r, o, h, h1 => by
  unfold zbd at h ⊢
  cases hq : decide (o ≤ 40) with
  | true =>
   rw [hq] at h
   have hm := hf m
   obtain ⟨h2, h3⟩ := zkg hf (l := r) (o := o + f m) h (by omega)
   have h : zbd f r (o + f m) ≤ 40 := h
   refine ⟨by simp only [cond_true]; omega, fun x hx => ?_⟩
   rcases List.mem_cons.1 hx with rfl | hx
   ·omega
   ·exact h3 x hx
  | false =>
   rw [hq] at h
   have h : o ≤ 40 := h
   simp at hq; omega
theorem zj8 {f : NodeM -> Int} {X : Type} {G : NodeM -> List X} : ∀ {l : List NodeM} {o : Int}, (∀ m ∈ l, ((G m).length : Int) ≤ f m) -> zbd f l o ≤ 40 -> o + ((l.flatMap G).length : Int) ≤ zbd f l o
 | [], o, _, h => by simp [zbd]
 | m :: r, o, hG, h => by
  unfold zbd at h ⊢
  cases hq : decide (o ≤ 40) with
  | true =>
   rw [hq] at h
   have hm := hG m List.mem_cons_self
   have := zj8 (l := r) (o := o + f m) (fun x hx => hG x (List.mem_cons_of_mem _ hx)) h
   rw [List.flatMap_cons, List.length_append]
   simp only [cond_true]; omega
  | false =>
   rw [hq] at h
   have h : o ≤ 40 := h
   simp at hq; omega
theorem zns : ∀ (d : Nat) (n : NodeM), zcz d n ≤ 40 -> n.dep ≤ d /\ (∀ g, ((zaL g n).length : Int) ≤ zcz d n) /\ Fit n
 | 0, n, h => by unfold zcz at h; omega
 | d + 1, n, h => by
  unfold zcz zhf at h ⊢
  cases hb : zwE n with
  | true => rw [hb] at h; simp only [cond_true] at h; omega
  | false =>
   rw [hb] at h
   simp only [cond_false] at h ⊢
   obtain ⟨_, hall⟩ := zkg (fun m => (zir d m).1) h (by omega)
   have ih := fun m hm => zns d m (hall m hm)
   refine ⟨?_, fun g => ?_, ?_⟩
   ·rw [zbI]
    by_cases hk : n.kids = []
    ·rw [hk, depL]; omega
    ·obtain ⟨m, hm, he⟩ := zld hk
     have := (ih m hm).1; omega
   ·rw [zbg, List.length_cons]
    have := zj8 (G := zaL (g + 1)) (fun m hm => (ih m hm).2.1 _) h
    omega
   ·intro g p hp
    rw [zbg] at hp
    rcases List.mem_cons.1 hp with rfl | hp
    ·unfold zwE at hb
     simp at hb
     show n.kids.length ≤ _ /\ n.atom.cs.length ≤ _
     omega
    ·obtain ⟨m, hm, hp⟩ := List.mem_flatMap.1 hp
     exact (ih m hm).2.2 _ p hp
theorem zqM {n : NodeM} (h : zcz 8 n ≤ 40) : NFit n := by
 obtain ⟨h1, h2, h3⟩ := zns 8 n h
 have := h2 1
 exact ⟨h3, by omega, by omega⟩
theorem zi0 {f : NodeM -> Int} {l : List NodeM} {k : Nat} {o : Int} (hk : k < l.length) (ho : o ≤ 40) : zbd f (l.drop k) o = zbd f (l.drop (k + 1)) (o + f (atN l k)) := by
 rw [List.drop_eq_getElem_cons hk, zhb hk, zbd, show decide (o ≤ 40) = true by simpa using ho]; rfl
theorem zq2 {f : NodeM -> Int} {l : List NodeM} {k : Nat} {o : Int} (h : l.length ≤ k \/ 40 < o) : zbd f (l.drop k) o = o := by
 rcases h with h | h
 ·rw [List.drop_eq_nil_of_le h, zbd]
 ·cases l.drop k with
  | nil => rfl
  | cons m r => rw [zbd, show decide (o ≤ 40) = false by simp; omega]; rfl
theorem zmP {f : NodeM -> Int} {n : NodeM} (h : zwE n = true) : SV.cv (CV.int .i64 1000) = ai (zhf f n) := by unfold zhf; rw [h]; rfl
theorem zf1 {f : NodeM -> Int} {n : NodeM} {k : Nat} {o : Int} (h : zwE n = false) (hw : zbd f n.kids 1 = zbd f (n.kids.drop k) o) (he : n.kids.length ≤ k \/ 40 < o) : ai o = ai (zhf f n) := by unfold zhf; rw [h, cond_false, hw, zq2 he]
set_option maxHeartbeats 4000000 in
theorem zvh (f : NodeM -> Int) (hf : ∀ m, 1 ≤ f m /\ f m ≤ 1320) (D : Int) (hD : 1 ≤ D /\ D ≤ 8) (n : NodeM) (ih : ∀ m ∈ n.kids, DSpec Tryz.prog axX axG 56 [.agg (zah m), ai (D - 1)] [] (fun v O => v = ai (f m) /\ O = [])) :
  DSpec Tryz.prog axX axG 56 [.agg (zah n), ai D] [] (fun v O => v = ai (zhf f n) /\ O = []) := by
 rcases zbr n with he | he
 ·skip
  refine zac { glb := axG, ann := [(5, [6, 5])] } true Tryz.func56 (by kernel_rfl) rfl ?_
  repeat' (
    (conv => whnf)
    first
     | exact zad (by kernel_rfl)
     | refine And.intro ?_ ?_
     | refine zaa ?_ ?_
     | (refine ⟨_, ih (atN n.kids k) (zaY (by (simp only [zz] at *; omega))), ?_⟩; rintro v O' ⟨rfl, rfl⟩)
     | ((refine ⟨fun vs O _ => ∃ (k : Nat) (o : Int), k ≤ n.kids.length /\ 1 ≤ o /\ o ≤ 1360 /\ zbd f n.kids 1 = zbd f (n.kids.drop k) o /\ vs = [ai k, ai o] /\ O = [.cells 28 (zcg n (zbY n.kids))], fun vs O => match vs with | [.cv (.int _ k), _] => n.kids.length - k.toNat | _ => 0, ⟨0, 1, Nat.zero_le _, by decide, by decide, rfl, rfl, rfl⟩, ?_⟩; rintro vs O _ ⟨k, o, hk, ho1, ho2, hj, rfl, rfl⟩))
     | intro _)
  all_goals try have hfk := hf (atN n.kids k)
  all_goals try have hbig : zwE n = ((decide ((n.kids.length : Int) > 40) || decide ((n.atom.cs.length : Int) > 10)) || decide (((nm n.atom.name).length : Int) > 20)) := rfl
  all_goals first
   | rfl
   | omega
   | (simp only [zz] at *; omega)
   | (exfalso; (simp only [zz] at *; omega))
   | exact zmP (by rw [hbig]; (simp only [*, Bool.true_and, Bool.and_true, Bool.false_and, Bool.and_false, Bool.true_or, Bool.or_true, Bool.false_or, Bool.or_false, Bool.not_true, Bool.not_false, Bool.not_not, cond_true, cond_false]; first | done | rfl))
   | exact zf1 (by rw [hbig]; (simp only [*, Bool.true_and, Bool.and_true, Bool.false_and, Bool.and_false, Bool.true_or, Bool.or_true, Bool.false_or, Bool.or_false, Bool.not_true, Bool.not_false, Bool.not_not, cond_true, cond_false]; first | done | rfl)) hj (.inl (by (simp only [zz] at *; omega)))
   | exact zf1 (by rw [hbig]; (simp only [*, Bool.true_and, Bool.and_true, Bool.false_and, Bool.and_false, Bool.true_or, Bool.or_true, Bool.false_or, Bool.or_false, Bool.not_true, Bool.not_false, Bool.not_not, cond_true, cond_false]; first | done | rfl)) hj (.inr (by (simp only [zz] at *; omega)))
   | exact ⟨k + 1, _, by (simp only [zz] at *; omega), by (simp only [zz] at *; omega), by (simp only [zz] at *; omega), hj.trans (zi0 (by (simp only [zz] at *; omega)) (by (simp only [zz] at *; omega))), rfl, rfl⟩
   | skip
 ·rw [he]
  refine zac { glb := axG, ann := [(5, [6, 5])] } true Tryz.func56 (by kernel_rfl) rfl ?_
  repeat' (
    (conv => whnf)
    first
     | exact zad (by kernel_rfl)
     | refine And.intro ?_ ?_
     | refine zaa ?_ ?_
     | (refine ⟨_, ih (atN n.kids k) (zaY (by (simp only [zz] at *; omega))), ?_⟩; rintro v O' ⟨rfl, rfl⟩)
     | ((refine ⟨fun vs O _ => ∃ (k : Nat) (o : Int), k ≤ n.kids.length /\ 1 ≤ o /\ o ≤ 1360 /\ zbd f n.kids 1 = zbd f (n.kids.drop k) o /\ vs = [ai k, ai o] /\ O = [.cells 28 (zcg n (fun i => zah (atN n.kids i)))], fun vs O => match vs with | [.cv (.int _ k), _] => n.kids.length - k.toNat | _ => 0, ⟨0, 1, Nat.zero_le _, by decide, by decide, rfl, rfl, rfl⟩, ?_⟩; rintro vs O _ ⟨k, o, hk, ho1, ho2, hj, rfl, rfl⟩))
     | intro _)
  all_goals try have hfk := hf (atN n.kids k)
  all_goals try have hbig : zwE n = ((decide ((n.kids.length : Int) > 40) || decide ((n.atom.cs.length : Int) > 10)) || decide (((nm n.atom.name).length : Int) > 20)) := rfl
  all_goals first
   | rfl
   | omega
   | (simp only [zz] at *; omega)
   | (exfalso; (simp only [zz] at *; omega))
   | exact zmP (by rw [hbig]; (simp only [*, Bool.true_and, Bool.and_true, Bool.false_and, Bool.and_false, Bool.true_or, Bool.or_true, Bool.false_or, Bool.or_false, Bool.not_true, Bool.not_false, Bool.not_not, cond_true, cond_false]; first | done | rfl))
   | exact zf1 (by rw [hbig]; (simp only [*, Bool.true_and, Bool.and_true, Bool.false_and, Bool.and_false, Bool.true_or, Bool.or_true, Bool.false_or, Bool.or_false, Bool.not_true, Bool.not_false, Bool.not_not, cond_true, cond_false]; first | done | rfl)) hj (.inl (by (simp only [zz] at *; omega)))
   | exact zf1 (by rw [hbig]; (simp only [*, Bool.true_and, Bool.and_true, Bool.false_and, Bool.and_false, Bool.true_or, Bool.or_true, Bool.false_or, Bool.or_false, Bool.not_true, Bool.not_false, Bool.not_not, cond_true, cond_false]; first | done | rfl)) hj (.inr (by (simp only [zz] at *; omega)))
   | exact ⟨k + 1, _, by (simp only [zz] at *; omega), by (simp only [zz] at *; omega), by (simp only [zz] at *; omega), hj.trans (zi0 (by (simp only [zz] at *; omega)) (by (simp only [zz] at *; omega))), rfl, rfl⟩
theorem zvG (n : NodeM) : DSpec Tryz.prog axX axG 56 [.agg (zah n), ai 0] [] (fun v O => v = ai 1000 /\ O = []) := by
 refine zac { glb := axG, ann := [(5, [6, 5])] } true Tryz.func56 (by kernel_rfl) rfl ?_
 repeat' (
   (conv => whnf)
   first
    | exact zad (by kernel_rfl)
    | refine And.intro ?_ ?_
    | refine zaa ?_ ?_
    | intro _)
 all_goals first
  | rfl
  | (exfalso; (simp only [zz] at *; omega))
theorem zuq : ∀ (d : Nat) (hd : d ≤ 8) (n : NodeM), DSpec Tryz.prog axX axG 56 [.agg (zah n), ai (d : Int)] [] (fun v O => v = ai (zcz d n) /\ O = [])
 | 0, _, n => zvG n
 | d + 1, hd, n => zvh (zcz d) (fun m => by have := zir d m; omega) ((d + 1 : Nat) : Int) (by omega) n fun m _ => by
  rw [show ((d + 1 : Nat) : Int) - 1 = (d : Int) by omega]
  exact zuq d (by omega) m
def zhp (n : NodeM) : Bool := decide (zcz 8 n ≤ 40)
theorem zon (n : NodeM) : DSpec Tryz.prog axX axG 26 [.agg (zah n)] [] (fun v O => v = ab (zhp n) /\ O = []) := by
 have h8 : DSpec Tryz.prog axX axG 56 [.agg (zah n), ai 8] [] (fun v O => v = ai (zcz 8 n) /\ O = []) := zuq 8 (by omega) n
 refine zac { glb := axG } true Tryz.func26 (by kernel_rfl) rfl ?_
 repeat' (
   (conv => whnf)
   first
    | exact zad (by kernel_rfl)
    | refine And.intro ?_ ?_
    | refine zaa ?_ ?_
    | (refine ⟨_, h8, ?_⟩; rintro v O' ⟨rfl, rfl⟩)
    | intro _)
 all_goals first
  | rfl
def zsc (h : HaveM) : Bool := decide (((nm h.agg.name).length : Int) > 20)
def zus (a : AggM) : Bool := decide (((nm a.name).length : Int) > 20)
def zcy (q : QueryM) : Bool := (zhp q.p && (!decide ((q.hv.length : Int) > 10) && !decide ((q.em.length : Int) > 10))) && (!q.hv.any zsc && !q.em.any zus)
theorem zwt {A : Type} {d : A} {l : List A} {p : A -> Bool} {k : Nat} (hk : k < l.length) (h : p (l.getD k d) = true) : l.any p = true := by
 have := zck hk h; simpa using this.symm
theorem zwX {A : Type} {d : A} {l : List A} {p : A -> Bool} {k : Nat} (hk : l.length ≤ k) (h : ∀ j, j < k -> p (l.getD j d) = false) : l.any p = false := by
 have := zcp hk h; simpa using this.symm
theorem zvF {q : QueryM} (h : zhp q.p = false) : SV.cv (CV.bool false) = ab (zcy q) := by unfold zcy; rw [h]; rfl
theorem zwj {q : QueryM} (h : decide ((q.hv.length : Int) > 10) = true) : SV.cv (CV.bool false) = ab (zcy q) := by unfold zcy; rw [h]; cases zhp q.p <;> rfl
theorem zvl {q : QueryM} (h : decide ((q.em.length : Int) > 10) = true) : SV.cv (CV.bool false) = ab (zcy q) := by unfold zcy; rw [h]; cases zhp q.p <;> cases decide ((q.hv.length : Int) > 10) <;> rfl
theorem zvP {q : QueryM} {k : Nat} (hk : k < q.hv.length) (h : zsc (q.hv.getD k default) = true) : SV.cv (CV.bool false) = ab (zcy q) := by unfold zcy; rw [zwt hk h]; simp
theorem zvO {q : QueryM} {k : Nat} (hk : k < q.em.length) (h : zus (q.em.getD k default) = true) : SV.cv (CV.bool false) = ab (zcy q) := by unfold zcy; rw [zwt hk h]; simp
theorem zvu {q : QueryM} {k j : Nat} (h1 : zhp q.p = true) (h2 : decide ((q.hv.length : Int) > 10) = false) (h3 : decide ((q.em.length : Int) > 10) = false) (hk : q.hv.length ≤ k) (hj : ∀ i, i < k -> zsc (q.hv.getD i default) = false) (hk2 : q.em.length ≤ j) (hj2 : ∀ i, i < j -> zus (q.em.getD i default) = false) : SV.cv (CV.bool true) = ab (zcy q) := by
 unfold zcy; rw [h1, h2, h3, zwX hk hj, zwX hk2 hj2]; rfl
theorem zrE {q : QueryM} (h : zcy q = true) : QFit q /\ q.hv.length ≤ 10 /\ q.em.length ≤ 10 := by
 unfold zcy at h
 simp only [Bool.and_eq_true, Bool.not_eq_true', decide_eq_false_iff_not] at h
 obtain ⟨⟨h1, h2, h3⟩, _⟩ := h
 have h1 : zcz 8 q.p ≤ 40 := by simpa [zhp] using h1
 exact ⟨⟨zqM h1, by omega, by omega⟩, by omega, by omega⟩
set_option maxHeartbeats 4000000 in
theorem znq (q : QueryM) : DSpec Tryz.prog axX axG 5 [.agg (zaj q)] [] (fun v O => v = ab (zcy q) /\ O = []) := by
 refine zac { glb := axG, ann := [(4, [3]), (9, [4])] } true Tryz.func5 (by kernel_rfl) rfl ?_
 repeat' (
   (conv => whnf)
   first
    | exact zad (by kernel_rfl)
    | refine And.intro ?_ ?_
    | refine zaa ?_ ?_
    | (refine ⟨_, zon q.p, ?_⟩; rintro v O' ⟨rfl, rfl⟩)
    | ((have := hj1; refine ⟨fun vs O _ => ∃ k : Nat, k ≤ q.em.length /\ (∀ j, j < k -> zus (q.em.getD j default) = false) /\ vs = [ai k] /\ O = [.cells 32 (zaj q)], fun vs O => match vs with | [.cv (.int _ k)] => q.em.length - k.toNat | _ => 0, ⟨0, Nat.zero_le _, fun j h => absurd h (by omega), rfl, rfl⟩, ?_⟩; rintro vs O _ ⟨k2, hk2, hj2, rfl, rfl⟩))
    | ((refine ⟨fun vs O _ => ∃ k : Nat, k ≤ q.hv.length /\ (∀ j, j < k -> zsc (q.hv.getD j default) = false) /\ vs = [ai k] /\ O = [.cells 32 (zaj q)], fun vs O => match vs with | [.cv (.int _ k)] => q.hv.length - k.toNat | _ => 0, ⟨0, Nat.zero_le _, fun j h => absurd h (by omega), rfl, rfl⟩, ?_⟩; rintro vs O _ ⟨k, hk, hj1, rfl, rfl⟩))
    | intro _)
 all_goals try have hw1 : zsc (q.hv.getD k default) = decide (((nm (q.hv.getD ((k : Int).toNat) default).agg.name).length : Int) > 20) := rfl
 all_goals try have hw2 : zus (q.em.getD k2 default) = decide (((nm (q.em.getD ((k2 : Int).toNat) default).name).length : Int) > 20) := rfl
 all_goals first
  | rfl
  | omega
  | (simp only [zz] at *; omega)
  | (rename_i hz; exact zvF (by simpa using hz))
  | exact zwj (by assumption)
  | exact zvl (by assumption)
  | exact zvP (k := k) (by (simp only [zz] at *; omega)) (by rw [hw1]; (simp only [*, Bool.true_and, Bool.and_true, Bool.false_and, Bool.and_false, Bool.true_or, Bool.or_true, Bool.false_or, Bool.or_false, Bool.not_true, Bool.not_false, Bool.not_not, cond_true, cond_false]; first | done | rfl))
  | exact zvO (k := k2) (by (simp only [zz] at *; omega)) (by rw [hw2]; (simp only [*, Bool.true_and, Bool.and_true, Bool.false_and, Bool.and_false, Bool.true_or, Bool.or_true, Bool.false_or, Bool.or_false, Bool.not_true, Bool.not_false, Bool.not_not, cond_true, cond_false]; first | done | rfl))
  | exact ⟨k + 1, by (simp only [zz] at *; omega), zaO hj1 (by rw [hw1]; (simp only [*, Bool.true_and, Bool.and_true, Bool.false_and, Bool.and_false, Bool.true_or, Bool.or_true, Bool.false_or, Bool.or_false, Bool.not_true, Bool.not_false, Bool.not_not, cond_true, cond_false]; first | done | rfl)), rfl, rfl⟩
  | exact ⟨k2 + 1, by (simp only [zz] at *; omega), zaO hj2 (by rw [hw2]; (simp only [*, Bool.true_and, Bool.and_true, Bool.false_and, Bool.and_false, Bool.true_or, Bool.or_true, Bool.false_or, Bool.or_false, Bool.not_true, Bool.not_false, Bool.not_not, cond_true, cond_false]; first | done | rfl)), rfl, rfl⟩
  | exact zvu (by simpa using (show (!zhp q.p) = false by assumption)) (by assumption) (by assumption) (by (simp only [zz] at *; omega)) hj1 (by (simp only [zz] at *; omega)) hj2
end Go.Proofs.YtlfhikphdkpfgaaGreatDoor
