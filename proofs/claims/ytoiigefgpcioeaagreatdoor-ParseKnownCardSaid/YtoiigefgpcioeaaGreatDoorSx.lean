/-
  strings.Count and strings.Index at one byte, strings.Join: what stands for them in a run. Conditions: the program lays them as the library's bodies do.
-/
import Derived.Test.YtoiigefgpcioeaaGreatDoorCu
import Derived.Shelf.Strings.OnBuilder
import Derived.Shelf.Strings.Count
import Derived.Shelf.Strings.Search3
set_option linter.unusedSimpArgs false
set_option linter.unusedVariables false
namespace Go.Cx
open Go Go.Shelf Go.RowKit Go.Proofs

noncomputable def cnt1 (n : Nat) : List Nat → Nat
  | [] => 0
  | a :: r => match Nat.beq (a % 256) (n % 256) with
    | true => Nat.succ (cnt1 n r)
    | false => cnt1 n r
noncomputable def countC (_ : Mem) : List CV → Option CV
  | [.str s, .str [n]] => some (.int .i64 (.ofNat (cnt1 n s)))
  | _ => none
noncomputable def idx1 (n : Nat) : List Nat → Nat → Option Nat
  | [], _ => none
  | a :: r, k => match Nat.beq (a % 256) (n % 256) with
    | true => some k
    | false => idx1 n r (Nat.succ k)
noncomputable def indexC (_ : Mem) : List CV → Option CV
  | [.str s, .str [n]] => match idx1 n s 0 with
    | some k => some (.int .i64 (.ofNat k))
    | none => some (.int .i64 (.negSucc 0))
  | _ => none
noncomputable def strsC : List CV → Option (List (List Nat))
  | [] => some []
  | .str s :: r => match strsC r with
    | some l => some (s :: l)
    | none => none
  | _ :: _ => none
noncomputable def joinL (sep : List Nat) : List (List Nat) → List Nat
  | [] => []
  | s :: r => match r with
    | [] => s
    | _ :: _ => s ++ (sep ++ joinL sep r)
noncomputable def capOk : CV → Bool
  | .slc _ _ n c => Nat.ble n c
  | _ => true
noncomputable def joinC (m : Mem) : List CV → Option CV
  | [x, .str sep] => match elems m 1 x with
    | some (n, l) => match strsC l with
      | some ss => match capOk x && (Nat.ble n 1000000 && Nat.ble (joinL sep ss).length 1000000) with
        | true => some (.str (joinL sep ss))
        | false => none
      | none => none
    | none => none
  | _ => none

/-- What a function that stands for another must do. -/
def Ext1 (P : Program) (f : FuncId) (g : Mem → List CV → Option CV) : Prop := ∀ m args v, g m args = some v → (∀ vs w, (callFunc f vs).run P w = .ok (.enter f vs) w) ∧
  ∀ e vs w, denL e args = some vs → Mok e m w → (∀ g, g < 64 → e g = some ⟨g, 0, 0, 0⟩) → ∃ V, den e v = some V ∧ Calls P f vs.toArray w fun en w' => en = .returned V ∧ Below w.heap.size w w'

theorem ofNat_beq (a n : Nat) : (UInt8.ofNat a == UInt8.ofNat n) = Nat.beq (a % 256) (n % 256) := by
  rw [Bool.eq_iff_iff, beq_iff_eq, Nat.beq_eq, ← UInt8.toNat_inj]
  simp

theorem cnt1_eq (n : Nat) (s : List Nat) : cnt1 n s = Lib.countByte (s.map UInt8.ofNat) (UInt8.ofNat n) := by
  induction s with
  | nil => rfl
  | cons a r ih =>
    unfold cnt1
    simp only [Lib.countByte, List.map_cons, List.count_cons, ofNat_beq] at ih ⊢
    rw [ih]
    split <;> rename_i h <;> simp [h]

theorem idx1_eq (n : Nat) (s : List Nat) (k : Nat) : (match idx1 n s k with | some j => (j : Int) | none => -1) = if Lib.indexByte (s.map UInt8.ofNat) (UInt8.ofNat n) = -1 then -1 else Lib.indexByte (s.map UInt8.ofNat) (UInt8.ofNat n) + k := by
  induction s generalizing k with
  | nil => rfl
  | cons a r ih =>
    unfold idx1
    simp only [List.map_cons, Lib.indexByte, ofNat_beq]
    have hge := Lib.indexByte_ge (r.map UInt8.ofNat) (UInt8.ofNat n)
    cases hb : Nat.beq (a % 256) (n % 256) with
    | true => simp
    | false =>
      simp only [Bool.false_eq_true, if_false]
      rw [ih (k + 1)]
      simp only [beq_iff_eq]
      split
      · rename_i h4
        simp
      · rename_i h4
        rw [if_neg (by omega)]
        push_cast
        omega

theorem denL_two {e : Env} {x y : CV} {vs : List Value} (h : denL e [x, y] = some vs) : ∃ a b, den e x = some a ∧ den e y = some b ∧ vs = [a, b] := by
  simp only [denL, Option.bind_eq_some_iff, Option.map_eq_some_iff] at h
  obtain ⟨a, h1, l, ⟨b, h2, l2, h3, rfl⟩, rfl⟩ := h
  cases h3
  exact ⟨a, b, h1, h2, rfl⟩

variable {P : Program} {ρ : Ren}
theorem countC_ok (L : Lays.n138 P ρ) (he : ∀ vs w, (callFunc (ρ.f 138) vs).run P w = .ok (.enter (ρ.f 138) vs) w) : Ext1 P (ρ.f 138) countC := by
  intro m args v hg
  refine ⟨he, fun e vs w has hm hgl => ?_⟩
  unfold countC at hg
  split at hg
  · rename_i s n
    cases hg
    obtain ⟨a, b, h1, h2, rfl⟩ := denL_two has
    obtain rfl := den_str h1
    obtain rfl := den_str h2
    refine ⟨_, rfl, (Any.strings_Count_one L _ (UInt8.ofNat n) w).mono fun en w' hw => ?_⟩
    obtain ⟨h1, rfl⟩ := hw
    exact ⟨by rw [h1, cnt1_eq]; rfl, .refl _ _⟩
  · cases hg

theorem indexC_ok (L : Lays.n143 P ρ) (he : ∀ vs w, (callFunc (ρ.f 143) vs).run P w = .ok (.enter (ρ.f 143) vs) w) : Ext1 P (ρ.f 143) indexC := by
  intro m args v hg
  refine ⟨he, fun e vs w has hm hgl => ?_⟩
  unfold indexC at hg
  split at hg
  · rename_i s n
    obtain ⟨a, b, h1, h2, rfl⟩ := denL_two has
    obtain rfl := den_str h1
    obtain rfl := den_str h2
    have key := idx1_eq n s 0
    have hR : (match idx1 n s 0 with | some j => (j : Int) | none => -1) = Lib.indexByte (s.map UInt8.ofNat) (UInt8.ofNat n) := by
      rw [key]; split <;> simp [*]
    have hc : ∀ z : Int, z = Lib.indexByte (s.map UInt8.ofNat) (UInt8.ofNat n) → ∃ V, den e (.int .i64 z) = some V ∧ Calls P (ρ.f 143) #[.string ⟨(s.map UInt8.ofNat).toArray⟩, .string ⟨([n].map UInt8.ofNat).toArray⟩] w fun en w' => en = .returned V ∧ Below w.heap.size w w' := fun z hz => by
      refine ⟨_, rfl, (Any.strings_Index_one L _ (UInt8.ofNat n) w).mono fun en w' hw => ?_⟩
      obtain ⟨h1, rfl⟩ := hw
      exact ⟨by rw [h1, hz], .refl _ _⟩
    split at hg
    · rename_i k hk
      cases hg
      rw [hk] at hR
      exact hc _ hR
    · rename_i hk
      cases hg
      rw [hk] at hR
      exact hc _ hR
  · cases hg

theorem strsC_den {e : Env} : ∀ {l : List CV} {ss : List (List Nat)} {us : List Value}, strsC l = some ss → denL e l = some us → us = ss.map fun s => Value.string ⟨(s.map UInt8.ofNat).toArray⟩
  | [], ss, us, h, hu => by
    cases h; cases hu; rfl
  | x :: r, ss, us, h, hu => by
    simp only [denL, Option.bind_eq_some_iff, Option.map_eq_some_iff] at hu
    obtain ⟨a, h1, l, h2, rfl⟩ := hu
    cases x <;> first | (unfold strsC at h; cases h; done) | skip
    unfold strsC at h
    split at h
    · rename_i s2 hs
      cases h
      obtain rfl := den_str h1
      rw [strsC_den hs h2]
      rfl
    · cases h

theorem joinL_eq (sep : List Nat) : ∀ ss : List (List Nat), (joinL sep ss).map UInt8.ofNat = Lib.join (ss.map fun s => s.map UInt8.ofNat) (sep.map UInt8.ofNat)
  | [] => rfl
  | [s] => by rw [joinL]; simp [Lib.join_one]
  | s :: t :: r => by
    have ih := joinL_eq sep (t :: r)
    rw [joinL]
    simp only [List.map_append, ih]
    rw [List.map_cons, List.map_cons, Lib.join_cons, Lib.join_cons]
    simp [Lib.joinTail]

theorem elems_slice {e : Env} {m : Mem} {w : World} (hm : Mok e m w) {n : Nat} {x : CV} {l : List CV} {V : Value} (h : elems m 1 x = some (n, l)) (hx : den e x = some V) (hc : capOk x = true) : (n = 0 ∧ ∃ a c, V = .slice a 0 c) ∨ ∃ bk o c, V = .slice (some ⟨bk, o, none⟩) n c ∧ n ≤ c := by
  unfold elems at h
  split at h
  · cases h; cases hx; exact .inl ⟨rfl, _, _, rfl⟩
  · rename_i t off k c
    have hn : k = n := by
      have h' := h
      split at h' <;> first | cases h' | (split at h' <;> first | cases h' | skip) <;> first | rfl | skip
    subst hn
    simp only [den, Option.map_eq_some_iff] at hx
    obtain ⟨b, _, rfl⟩ := hx
    exact .inr ⟨_, _, _, rfl, Nat.le_of_ble_eq_true hc⟩
  · rename_i t k k2
    split at h
    · rename_i ty sz' cs ho
      split at h
      · rename_i hsz
        have hsz := Nat.eq_of_beq_eq_true hsz
        split at h
        · rename_i l' ht
          simp only [Option.some.injEq, Prod.mk.injEq] at h
          obtain ⟨rfl, rfl⟩ := h
          obtain ⟨b, lv, pre, suf, h1, h2, h3, h4, h5, h6, ⟨fr, h7, h7'⟩, h8, h9⟩ := hm _ _ ho
          simp only [den, Option.map_eq_some_iff] at hx
          obtain ⟨b', hb', rfl⟩ := hx
          obtain rfl : b = b' := by rw [h1] at hb'; cases hb'; rfl
          obtain ⟨k1, k2'⟩ := denL_part h5 ht
          refine .inr ⟨_, _, _, rfl, ?_⟩
          rw [List.length_append] at h8
          rw [hsz] at h8
          omega
        · cases h
      · cases h
    · cases h
  · simp only [Option.some.injEq, Prod.mk.injEq] at h
    obtain ⟨rfl, rfl⟩ := h
    simp only [den, Option.map_eq_some_iff] at hx
    obtain ⟨b, _, rfl⟩ := hx
    refine .inl ⟨rfl, ?_⟩
    split <;> exact ⟨_, _, rfl⟩
  · cases h; cases hx; exact .inl ⟨rfl, _, _, rfl⟩
  · cases h

theorem joinC_ok (L : Lays.n156 P ρ) (X : Builder.Extra P ρ) (he : ∀ vs w, (callFunc (ρ.f 156) vs).run P w = .ok (.enter (ρ.f 156) vs) w) : Ext1 P (ρ.f 156) joinC := by
  intro m args v hg
  refine ⟨he, fun e vs w has hm hgl => ?_⟩
  unfold joinC at hg
  split at hg
  · rename_i x sep
    split at hg
    · rename_i n l hl
      split at hg
      · rename_i ss hss
        split at hg
        · rename_i hb
          simp only [Bool.and_eq_true] at hb
          have b2 := Nat.le_of_ble_eq_true hb.2.1
          have b3 := Nat.le_of_ble_eq_true hb.2.2
          cases hg
          obtain ⟨a, b, h1, h2, rfl⟩ := denL_two has
          obtain rfl := den_str h2
          refine ⟨_, rfl, ?_⟩
          obtain ⟨us, k1, k2, k3, k4⟩ := elems_ok hm hl h1
          have hus := strsC_den hss k1
          have hlen : ss.length = n := by rw [hus] at k2; simpa using k2
          rcases elems_slice hm hl h1 hb.1 with ⟨rfl, a', c, rfl⟩ | ⟨bk, o, c, rfl, hc⟩
          · obtain rfl : ss = [] := List.length_eq_zero_iff.1 hlen
            refine (Any.strings_Join_none L X a' c _ w).mono fun en w' hw => ?_
            obtain ⟨h1, rfl⟩ := hw
            exact ⟨h1, .refl _ _⟩
          · rcases k4 with ⟨rfl, h0, rfl⟩ | ⟨ad, c', h0, hcell⟩
            · cases h0
            · cases h0
              by_cases hn : n = 0
              · subst hn
                obtain rfl : ss = [] := List.length_eq_zero_iff.1 hlen
                refine (Any.strings_Join_none L X _ c _ w).mono fun en w' hw => ?_
                obtain ⟨h1, rfl⟩ := hw
                exact ⟨h1, .refl _ _⟩
              · let xs : List ByteArray := ss.map fun s => ⟨(s.map UInt8.ofNat).toArray⟩
                have hxl : xs.length = n := by simp [xs, hlen]
                have hxm : xs.map (·.data.toList) = ss.map fun s => s.map UInt8.ofNat := by simp [xs]
                have hu2 : us = xs.map Value.string := by rw [hus]; simp [xs]
                have hcells : ∀ (j : Nat) x, xs[j]? = some x → w.cell? ⟨bk, o + j, none⟩ = some (.string x) := fun j x hj => by
                  have := hcell j (.string x) (by rw [hu2, List.getElem?_map, hj]; rfl)
                  rwa [Addr.add_lit] at this
                have hbk : bk < w.heap.size := by
                  have hx0 : ∃ x, xs[0]? = some x := by
                    cases hxs : xs with
                    | nil => rw [hxs] at hxl; simp at hxl; omega
                    | cons y ys => exact ⟨y, rfl⟩
                  obtain ⟨x0, hx0⟩ := hx0
                  have := hcells 0 x0 hx0
                  by_cases hlt : bk < w.heap.size
                  · exact hlt
                  · have hnone : w.heap[bk]? = none := Array.getElem?_eq_none (by omega)
                    simp [World.cell?, hnone] at this
                have hj := Any.strings_Join L X bk o c xs ⟨(sep.map UInt8.ofNat).toArray⟩ w hcells hbk (by omega) (by omega) (by
                  rw [hxm]
                  show (Lib.join _ (sep.map UInt8.ofNat)).length ≤ _
                  rw [← joinL_eq, List.length_map]; omega)
                rw [hxl] at hj
                refine hj.mono fun en w' hw => ⟨?_, hw.2⟩
                rw [hw.1, hxm, joinL_eq]
        · cases hg
      · cases hg
    · cases hg
  · cases hg
end Go.Cx
