/- rexmillref01.SameInts and Around. Conditions: the slices lie in memory as IntsIn says. -/
import Derived.Test.YtgdmkddegcecaaaGreatProg
import Derived.Test.YtgdmkddegcecaaaGreatSlice
import Derived.BigQuiet
import Derived.Deep.LoopGhost
namespace Go.Proofs.YtgdmkddegcecaaaGreat
open Go.RowKit

/-- A slice that reads as xs, wherever it lies. -/
def IntsIn (w : World) (ao : Option Addr) (xs : List Int) : Prop := 0 < xs.length → ∃ b off, ao = some ⟨b, off, none⟩ ∧ ∀ j, j < xs.length → w.cell? ⟨b, off + j, none⟩ = some (.int .i64 (xs.getD j 0))
theorem Ints.to_in {E : Nat} {w : World} {b : Nat} {xs : List Int} (h : Ints E w b xs) : IntsIn w (some ⟨b, 0, none⟩) xs := fun _ => ⟨b, 0, rfl, fun j hj => by rw [Nat.zero_add, h.cell j hj]; simp [hj]⟩
theorem SliceAt.to_in {w : World} {e : Nat} {a : Option Nat} {c : Nat} {xs : List Int} {n : Nat} (h : SliceAt w e 1 a n c (xs.map (Value.int .i64))) : IntsIn w (a.map fun g => ⟨g, 0, none⟩) xs := fun h0 => by
  cases a with
  | none => exfalso; have := h.1; obtain ⟨_, h2, _⟩ := h; simp at this; omega
  | some g => exact ⟨g, 0, rfl, fun j hj => by rw [Nat.zero_add, h.cell j (by simpa using hj)]; simp [hj]⟩
theorem IntsIn.drewN {w : World} {ao : Option Addr} {xs : List Int} (h : IntsIn w ao xs) (n : Nat) : IntsIn (w.drewN n) ao xs := h

theorem take_eq_succ {xs ys : List Int} {k : Nat} (h : xs.take k = ys.take k) (h1 : k < xs.length) (h2 : k < ys.length) (h3 : xs.getD k 0 = ys.getD k 0) : xs.take (k + 1) = ys.take (k + 1) := by
  rw [List.take_succ_eq_append_getElem h1, List.take_succ_eq_append_getElem h2, h]
  simp [h1, h2] at h3
  rw [h3]

set_option maxHeartbeats 1000000 in
theorem same_any (ao bo : Option Addr) (c c' : Nat) (xs ys : List Int) (w : World) (hx : IntsIn w ao xs) (hy : IntsIn w bo ys) (hl : xs.length ≤ 1000000000000) (hl2 : ys.length ≤ 1000000000000) :
    Calls Tryz.prog 12 #[.slice ao xs.length c, .slice bo ys.length c'] w fun e w' => e = .returned (.bool (decide (xs = ys))) ∧ ∃ n, w' = w.drewN n := by
  obtain ⟨r, hr⟩ : ∃ r, r = decide (xs = ys) := ⟨_, rfl⟩
  rw [← hr]
  have HR := Lib.hid hr
  clear hr
  have HX := Lib.hid hx
  have HY := Lib.hid hy
  clear hx hy
  by_cases hne : xs.length = ys.length
  · have HNE := Lib.hid hne
    rw [← hne]
    clear hne
    go_enter Tryz.func12, Tryz.ntmps12
    go_wp2
    go_loopw [5] (fun i wr => ∃ k : Nat, k ≤ xs.length ∧ i = .int .i64 k ∧ xs.take k = ys.take k ∧ ∃ q, wr = w.drewN q) (fun i _ => xs.length - (intOf i).toNat)
    case atStart => exact ⟨0, Nat.zero_le _, rfl, rfl, 0, rfl⟩
    case round =>
      obtain ⟨k, hk, rfl, ht, q, rfl⟩ := hrel
      have HT := Lib.hid ht
      clear ht
      by_cases hlt : k < xs.length
      · obtain ⟨b, off, rfl, hcx⟩ := HX.out (by omega)
        obtain ⟨b2, off2, rfl, hcy⟩ := HY.out (by have := HNE.out; omega)
        have dx := hcx k hlt
        have dy := hcy k (by have := HNE.out; omega)
        obtain ⟨x, hx⟩ : ∃ x, x = xs.getD k 0 := ⟨_, rfl⟩
        obtain ⟨y, hy⟩ : ∃ y, y = ys.getD k 0 := ⟨_, rfl⟩
        rw [← hx] at dx
        rw [← hy] at dy
        have HXX := Lib.hid hx
        have HYY := Lib.hid hy
        clear hcx hcy hx hy
        by_cases hxy : x = y
        · have hb : (x != y) = false := by simp [hxy]
          have HXY := Lib.hid hxy
          clear hxy
          go_wp2
          go_quiet (fail)
          go_wp2
          go_roundw
          case rel => exact ⟨k + 1, by omega, by go_num, take_eq_succ HT.out hlt (by have := HNE.out; omega) (by rw [← HXX.out, ← HYY.out]; exact HXY.out), _, rfl⟩
          case measure => simp [intOf]; omega
        · have hb : (x != y) = true := by simp [hxy]
          have hrf : r = false := by
            rw [HR.out]
            simp only [decide_eq_false_iff_not]
            rintro rfl
            exact hxy (by rw [HXX.out, HYY.out])
          have HRF := Lib.hid hrf
          clear hxy hrf
          go_wp2
          go_quiet (fail)
          go_wp2
          go_ret
          exact ⟨by rw [HRF.out]; rfl, q + nq, by rw [World.drewN_drewN]⟩
      · have hrt : r = true := by
          rw [HR.out]
          have h1 := HT.out
          rw [List.take_of_length_le (by omega), List.take_of_length_le (by have := HNE.out; omega)] at h1
          simp [h1]
        have HRT := Lib.hid hrt
        clear hrt
        go_wp2
        go_ret
        exact ⟨by rw [HRT.out]; rfl, _, rfl⟩
  · have hb : ((xs.length : Int) != (ys.length : Int)) = true := by simp; omega
    have hrf : r = false := by
      rw [HR.out]
      simp only [decide_eq_false_iff_not]
      rintro rfl
      exact hne rfl
    have HRF := Lib.hid hrf
    clear hne hrf
    go_enter Tryz.func12, Tryz.ntmps12
    go_wp2
    go_ret
    exact ⟨by rw [HRF.out]; rfl, 0, rfl⟩

/-- A number brought into 0 .. n-1. -/
def aroundF (x n : Int) : Int := (if x < 0 then -(x + 1) else x) % n
theorem aroundF_bd (x n : Int) (hn : 0 < n) : 0 ≤ aroundF x n ∧ aroundF x n < n := by
  unfold aroundF
  exact ⟨Int.emod_nonneg _ (by omega), Int.emod_lt_of_pos _ hn⟩

set_option maxHeartbeats 400000 in
theorem around_any (x n : Int) (w : World) (hn : 0 < n) (hx : -9223372036854775808 ≤ x ∧ x ≤ 9223372036854775807) :
    Calls Tryz.prog 14 #[.int .i64 x, .int .i64 n] w fun e w' => e = .returned (.int .i64 (aroundF x n)) ∧ w = w' := by
  obtain ⟨r, hr⟩ : ∃ r, r = aroundF x n := ⟨_, rfl⟩
  rw [← hr]
  have HR := Lib.hid hr
  clear hr
  obtain ⟨x0, x1⟩ := hx
  by_cases h : x < 0
  · go_enter Tryz.func14, Tryz.ntmps14
    go_wp2
    go_ret
    refine ⟨?_, rfl⟩
    rw [HR.out, aroundF, if_pos h]
    show Ending.returned (.int .i64 (-(x + 1).tmod n)) = _
    rw [← Int.neg_tmod, Int.tmod_eq_emod_of_nonneg (by omega)]
  · go_enter Tryz.func14, Tryz.ntmps14
    go_wp2
    go_ret
    exact ⟨by rw [HR.out, aroundF, if_neg (by omega)]; rfl, rfl⟩

end Go.Proofs.YtgdmkddegcecaaaGreat
