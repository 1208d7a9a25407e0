/- rexmillref01.Ints, Few, SameBytes. Conditions: the slices lie in memory. -/
import Derived.Test.YtgdmkddegcecaaaGreatRead2
import Derived.Test.YtgdmkddegcecaaaGreatWireRef
namespace Go.Proofs.YtgdmkddegcecaaaGreat
open Go.RowKit

theorem BytesIn.keep {S : List Nat} {w w' : World} {a : Option Addr} {xs : List Int} (h : BytesIn w a xs) (k : Keeps S w w') (hs : ∀ b, a = some b → b.block ∉ S) : BytesIn w' a xs := fun h0 => by
  obtain ⟨b, off, h1, h2⟩ := h h0
  exact ⟨b, off, h1, fun j hj => k.cell (h2 j hj) (hs ⟨b, off, none⟩ h1)⟩
theorem IntsIn.take {w : World} {a : Option Addr} {xs : List Int} (h : IntsIn w a xs) (m : Nat) : IntsIn w a (xs.take m) := fun h0 => by
  have h1 : 0 < xs.length := by rw [List.length_take] at h0; omega
  obtain ⟨b, off, h2, h3⟩ := h h1
  refine ⟨b, off, h2, fun j hj => ?_⟩
  rw [List.length_take] at hj
  rw [h3 j (by omega)]
  have e1 : j < m := by omega
  simp [List.getD_eq_getElem?_getD, e1]
theorem BytesIn.take {w : World} {a : Option Addr} {xs : List Int} (h : BytesIn w a xs) (m : Nat) : BytesIn w a (xs.take m) := fun h0 => by
  have h1 : 0 < xs.length := by rw [List.length_take] at h0; omega
  obtain ⟨b, off, h2, h3⟩ := h h1
  refine ⟨b, off, h2, fun j hj => ?_⟩
  rw [List.length_take] at hj
  rw [h3 j (by omega)]
  have e1 : j < m := by omega
  simp [List.getD_eq_getElem?_getD, e1]
theorem BytesAt.to_in {w : World} {g c : Nat} {bs : List Int} (h : BytesAt w g c bs) : BytesIn w (some ⟨g, 0, none⟩) bs := fun _ =>
  ⟨g, 0, rfl, fun j hj => by rw [Nat.zero_add, SliceAt.cell h j (by simpa using hj)]; simp [hj]⟩

set_option maxRecDepth 100000 in
set_option maxHeartbeats 1000000 in
theorem ints_any (ao : Option Addr) (c most : Nat) (xs : List Int) (w : World) (hx : IntsIn w ao xs) (hm : most ≤ 1000) (hl : xs.length ≤ 9223372036854775807) (hc : xs.length ≤ c) :
    Calls Tryz.prog 4 #[.slice ao xs.length c, .int .i64 most] w fun e w' =>
      ∃ (a' : Option Nat) (c' : Nat), e = .returned (sv a' (xs.take most).length c') ∧ SliceAt w' 3 1 a' (xs.take most).length c' ((xs.take most).map (Value.int .i64)) ∧ Keeps [] w w' ∧ (∀ z, a' = some z → w.heap.size ≤ z) := by
  obtain ⟨i0, hi, hz0, hz1, hz2⟩ := info_parts infoI
  have Hi := Lib.hid hi
  have Hz0 := Lib.hid hz0
  have Hz1 := Lib.hid hz1
  have Hz2 := Lib.hid hz2
  have HX := Lib.hid (hx.take most)
  clear hi hz0 hz1 hz2 hx
  obtain ⟨ys, hys⟩ : ∃ ys, ys = xs.take most := ⟨_, rfl⟩
  rw [← hys] at HX ⊢
  have hyl : ys.length = min most xs.length := by rw [hys, List.length_take]
  clear hys
  have hfin : ∀ (g c' : Nat) (w2 : World), SliceAt w2 3 1 (some g) ys.length c' (ys.map (Value.int .i64)) → Keeps [] w w2 → w.heap.size ≤ g → (∃ (a' : Option Nat) (c'' : Nat), Ending.returned (.slice (some ⟨g, 0, none⟩) ys.length c') = .returned (sv a' ys.length c'') ∧ SliceAt w2 3 1 a' ys.length c'' (ys.map (Value.int .i64)) ∧ Keeps [] w w2 ∧ (∀ z, a' = some z → w.heap.size ≤ z)) := by
    intro g c' w2 h1 h2 h3
    exact ⟨some g, c', rfl, h1, h2, by intro z hz; simp at hz; subst hz; exact h3⟩
  have HF := Lib.hid hfin
  clear hfin
  by_cases h0 : ys.length = 0
  · obtain rfl := List.eq_nil_of_length_eq_zero h0
    by_cases c1 : (most : Int) < (xs.length : Int)
    · obtain rfl : most = 0 := by simp at hyl; omega
      clear hyl h0
      cases ao
      all_goals
        go_enter Tryz.func4, Tryz.ntmps4
        go_wp2
        go_ret
        exact ⟨none, 0, rfl, SliceAt.nil _ _ _, Keeps.refl _ _, by simp⟩
    · have hx0 : xs.length = 0 := by simp at hyl; omega
      rw [hx0] at c1 ⊢
      clear hyl h0 hx0
      cases ao
      all_goals
        go_enter Tryz.func4, Tryz.ntmps4
        go_wp2
        go_ret
        exact ⟨none, 0, rfl, SliceAt.nil _ _ _, Keeps.refl _ _, by simp⟩
  · obtain ⟨b, off, rfl, hcx⟩ := HX.out (by omega)
    have HC := Lib.hid hcx
    clear hcx
    have hnews : ∀ j u, (ys.map (Value.int .i64))[j]? = some u → w.cell? ((⟨b, off, none⟩ : Addr).add j) = some u := by
      intro j u hj
      have hj2 : j < ys.length := by
        have := (List.getElem?_eq_some_iff.1 hj).1
        simpa using this
      simp [hj2] at hj
      subst hj
      have := HC.out j hj2
      simp [hj2] at this
      rw [addr_add]
      exact this
    have HN := Lib.hid hnews
    have HO := Lib.hid (show ∀ u ∈ ys.map (Value.int .i64), u.oneCell' = true from fun u hu => by simp at hu; obtain ⟨x, _, rfl⟩ := hu; rfl)
    clear hnews
    by_cases c1 : (most : Int) < (xs.length : Int)
    · obtain rfl : most = ys.length := by omega
      clear hyl
      go_enter Tryz.func4, Tryz.ntmps4
      go_wp2_with (at_builtin; refine wpList_append_sl rfl (.tmp 6) (.tmp 12) 22 rfl 3 i0 _ 1 8 Tryz.underlying22 Hi.out Hz0.out Hz1.out Hz2.out rfl (by decide) none 0 0 [] rfl (SliceAt.nil _ _ _) ⟨b, off, none⟩ ys.length c (ys.map (Value.int .i64)) rfl (by simp) HN.out HO.out (by omega) (by omega) (by omega) ?hk)
      case hk =>
        intro g c' w2 hsl hk2 hg
        have hg2 : w.heap.size ≤ g := by simpa using hg
        have HE := Lib.hid (HF.out g c' w2 hsl hk2 hg2)
        clear hsl hk2 hg
        go_wp2
        go_ret
        exact HE.out
    · have hx0 : xs.length = ys.length := by omega
      rw [hx0] at c1 hc ⊢
      clear hyl hx0
      go_enter Tryz.func4, Tryz.ntmps4
      go_wp2_with (at_builtin; refine wpList_append_sl rfl (.tmp 6) (.tmp 12) 22 rfl 3 i0 _ 1 8 Tryz.underlying22 Hi.out Hz0.out Hz1.out Hz2.out rfl (by decide) none 0 0 [] rfl (SliceAt.nil _ _ _) ⟨b, off, none⟩ ys.length c (ys.map (Value.int .i64)) rfl (by simp) HN.out HO.out (by omega) (by omega) (by omega) ?hk)
      case hk =>
        intro g c' w2 hsl hk2 hg
        have hg2 : w.heap.size ≤ g := by simpa using hg
        have HE := Lib.hid (HF.out g c' w2 hsl hk2 hg2)
        clear hsl hk2 hg
        go_wp2
        go_ret
        exact HE.out

set_option maxRecDepth 100000 in
set_option maxHeartbeats 1000000 in
theorem few_any (ao : Option Addr) (c most : Nat) (xs : List Int) (w : World) (hx : BytesIn w ao xs) (hm : most ≤ 1000000) (hl : xs.length ≤ 9223372036854775807) (hc : xs.length ≤ c) :
    Calls Tryz.prog 13 #[.slice ao xs.length c, .int .i64 most] w fun e w' =>
      ∃ (a' : Option Nat) (c' : Nat), e = .returned (sv a' (xs.take most).length c') ∧ SliceAt w' 5 1 a' (xs.take most).length c' ((xs.take most).map (Value.int .u8)) ∧ Keeps [] w w' ∧ (∀ z, a' = some z → w.heap.size ≤ z) := by
  obtain ⟨i0, hi, hz0, hz1, hz2⟩ := info_parts infoU8
  have Hi := Lib.hid hi
  have Hz0 := Lib.hid hz0
  have Hz1 := Lib.hid hz1
  have Hz2 := Lib.hid hz2
  have HX := Lib.hid (hx.take most)
  clear hi hz0 hz1 hz2 hx
  obtain ⟨ys, hys⟩ : ∃ ys, ys = xs.take most := ⟨_, rfl⟩
  rw [← hys] at HX ⊢
  have hyl : ys.length = min most xs.length := by rw [hys, List.length_take]
  clear hys
  have hfin : ∀ (g c' : Nat) (w2 : World), SliceAt w2 5 1 (some g) ys.length c' (ys.map (Value.int .u8)) → Keeps [] w w2 → w.heap.size ≤ g → (∃ (a' : Option Nat) (c'' : Nat), Ending.returned (.slice (some ⟨g, 0, none⟩) ys.length c') = .returned (sv a' ys.length c'') ∧ SliceAt w2 5 1 a' ys.length c'' (ys.map (Value.int .u8)) ∧ Keeps [] w w2 ∧ (∀ z, a' = some z → w.heap.size ≤ z)) := by
    intro g c' w2 h1 h2 h3
    exact ⟨some g, c', rfl, h1, h2, by intro z hz; simp at hz; subst hz; exact h3⟩
  have HF := Lib.hid hfin
  clear hfin
  by_cases h0 : ys.length = 0
  · obtain rfl := List.eq_nil_of_length_eq_zero h0
    by_cases c1 : (most : Int) < (xs.length : Int)
    · obtain rfl : most = 0 := by simp at hyl; omega
      clear hyl h0
      cases ao
      all_goals
        go_enter Tryz.func13, Tryz.ntmps13
        go_wp2
        go_ret
        exact ⟨none, 0, rfl, SliceAt.nil _ _ _, Keeps.refl _ _, by simp⟩
    · have hx0 : xs.length = 0 := by simp at hyl; omega
      rw [hx0] at c1 ⊢
      clear hyl h0 hx0
      cases ao
      all_goals
        go_enter Tryz.func13, Tryz.ntmps13
        go_wp2
        go_ret
        exact ⟨none, 0, rfl, SliceAt.nil _ _ _, Keeps.refl _ _, by simp⟩
  · obtain ⟨b, off, rfl, hcx⟩ := HX.out (by omega)
    have HC := Lib.hid hcx
    clear hcx
    have hnews : ∀ j u, (ys.map (Value.int .u8))[j]? = some u → w.cell? ((⟨b, off, none⟩ : Addr).add j) = some u := by
      intro j u hj
      have hj2 : j < ys.length := by
        have := (List.getElem?_eq_some_iff.1 hj).1
        simpa using this
      simp [hj2] at hj
      subst hj
      have := HC.out j hj2
      simp [hj2] at this
      rw [addr_add]
      exact this
    have HN := Lib.hid hnews
    have HO := Lib.hid (show ∀ u ∈ ys.map (Value.int .u8), u.oneCell' = true from fun u hu => by simp at hu; obtain ⟨x, _, rfl⟩ := hu; rfl)
    clear hnews
    by_cases c1 : (most : Int) < (xs.length : Int)
    · obtain rfl : most = ys.length := by omega
      clear hyl
      go_enter Tryz.func13, Tryz.ntmps13
      go_wp2_with (at_builtin; refine wpList_append_sl rfl (.tmp 6) (.tmp 12) 23 rfl 5 i0 _ 1 1 Tryz.underlying23 Hi.out Hz0.out Hz1.out Hz2.out rfl (by decide) none 0 0 [] rfl (SliceAt.nil _ _ _) ⟨b, off, none⟩ ys.length c (ys.map (Value.int .u8)) rfl (by simp) HN.out HO.out (by omega) (by omega) (by omega) ?hk)
      case hk =>
        intro g c' w2 hsl hk2 hg
        have hg2 : w.heap.size ≤ g := by simpa using hg
        have HE := Lib.hid (HF.out g c' w2 hsl hk2 hg2)
        clear hsl hk2 hg
        go_wp2
        go_ret
        exact HE.out
    · have hx0 : xs.length = ys.length := by omega
      rw [hx0] at c1 hc ⊢
      clear hyl hx0
      go_enter Tryz.func13, Tryz.ntmps13
      go_wp2_with (at_builtin; refine wpList_append_sl rfl (.tmp 6) (.tmp 12) 23 rfl 5 i0 _ 1 1 Tryz.underlying23 Hi.out Hz0.out Hz1.out Hz2.out rfl (by decide) none 0 0 [] rfl (SliceAt.nil _ _ _) ⟨b, off, none⟩ ys.length c (ys.map (Value.int .u8)) rfl (by simp) HN.out HO.out (by omega) (by omega) (by omega) ?hk)
      case hk =>
        intro g c' w2 hsl hk2 hg
        have hg2 : w.heap.size ≤ g := by simpa using hg
        have HE := Lib.hid (HF.out g c' w2 hsl hk2 hg2)
        clear hsl hk2 hg
        go_wp2
        go_ret
        exact HE.out

set_option maxHeartbeats 1000000 in
theorem sameb_any (ao bo : Option Addr) (c c' : Nat) (xs ys : List Int) (w : World) (hx : BytesIn w ao xs) (hy : BytesIn w bo ys) (hl : xs.length ≤ 1000000000000) (hl2 : ys.length ≤ 1000000000000) :
    Calls Tryz.prog 9 #[.slice ao xs.length c, .slice bo ys.length c'] w fun e w' => e = .returned (.bool (decide (xs = ys))) ∧ ∃ n, w' = w.drewN n := by
  obtain ⟨r, hr⟩ : ∃ r, r = decide (xs = ys) := ⟨_, rfl⟩
  rw [← hr]
  have HR := Lib.hid hr
  clear hr
  have HX := Lib.hid hx
  have HY := Lib.hid hy
  clear hx hy
  by_cases hne : xs.length = ys.length
  · have HNE := Lib.hid hne
    rw [← hne]
    clear hne
    go_enter Tryz.func9, Tryz.ntmps9
    go_wp2
    go_loopw [5] (fun i wr => ∃ k : Nat, k ≤ xs.length ∧ i = .int .i64 k ∧ xs.take k = ys.take k ∧ ∃ q, wr = w.drewN q) (fun i _ => xs.length - (intOf i).toNat)
    case atStart => exact ⟨0, Nat.zero_le _, rfl, rfl, 0, rfl⟩
    case round =>
      obtain ⟨k, hk, rfl, ht, q, rfl⟩ := hrel
      have HT := Lib.hid ht
      clear ht
      by_cases hlt : k < xs.length
      · obtain ⟨b, off, rfl, hcx⟩ := HX.out (by omega)
        obtain ⟨b2, off2, rfl, hcy⟩ := HY.out (by have := HNE.out; omega)
        have dx := hcx k hlt
        have dy := hcy k (by have := HNE.out; omega)
        obtain ⟨x, hx⟩ : ∃ x, x = xs.getD k 0 := ⟨_, rfl⟩
        obtain ⟨y, hy⟩ : ∃ y, y = ys.getD k 0 := ⟨_, rfl⟩
        rw [← hx] at dx
        rw [← hy] at dy
        have HXX := Lib.hid hx
        have HYY := Lib.hid hy
        clear hcx hcy hx hy
        by_cases hxy : x = y
        · have hb : (x != y) = false := by simp [hxy]
          have HXY := Lib.hid hxy
          clear hxy
          go_wp2
          go_quiet (fail)
          go_wp2
          go_roundw
          case rel => exact ⟨k + 1, by omega, by go_num, take_eq_succ HT.out hlt (by have := HNE.out; omega) (by rw [← HXX.out, ← HYY.out]; exact HXY.out), _, rfl⟩
          case measure => simp [intOf]; omega
        · have hb : (x != y) = true := by simp [hxy]
          have hrf : r = false := by
            rw [HR.out]
            simp only [decide_eq_false_iff_not]
            rintro rfl
            exact hxy (by rw [HXX.out, HYY.out])
          have HRF := Lib.hid hrf
          clear hxy hrf
          go_wp2
          go_quiet (fail)
          go_wp2
          go_ret
          exact ⟨by rw [HRF.out]; rfl, q + nq, by rw [World.drewN_drewN]⟩
      · have hrt : r = true := by
          rw [HR.out]
          have h1 := HT.out
          rw [List.take_of_length_le (by omega), List.take_of_length_le (by have := HNE.out; omega)] at h1
          simp [h1]
        have HRT := Lib.hid hrt
        clear hrt
        go_wp2
        go_ret
        exact ⟨by rw [HRT.out]; rfl, _, rfl⟩
  · have hb : ((xs.length : Int) != (ys.length : Int)) = true := by simp; omega
    have hrf : r = false := by
      rw [HR.out]
      simp only [decide_eq_false_iff_not]
      rintro rfl
      exact hne rfl
    have HRF := Lib.hid hrf
    clear hne hrf
    go_enter Tryz.func9, Tryz.ntmps9
    go_wp2
    go_ret
    exact ⟨by rw [HRF.out]; rfl, 0, rfl⟩

end Go.Proofs.YtgdmkddegcecaaaGreat
