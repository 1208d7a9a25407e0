/- slices.swapRangeCmpFunc and rotateCmpFunc at int: what they do to a row. Conditions: the row lies in memory; the ranges lie within it. -/
import Derived.Test.YtdpmkbiibmjbfaaIns
namespace Go.Proofs.Ytdpmkbiibmjbfaa
open Go.RowKit

/-- n places from a on and from b on exchanged. -/
def swpR (xs : List Int) (a b : Nat) : Nat → List Int
  | 0 => xs
  | n + 1 => swp (swpR xs a b n) (a + n) (b + n)
theorem swpR_length (xs : List Int) (a b n : Nat) : (swpR xs a b n).length = xs.length := by
  induction n with
  | zero => rfl
  | succ n ih => rw [swpR, swp_length, ih]
theorem swpR_get (xs : List Int) (a b n : Nat) (h1 : a + n ≤ b) (h2 : b + n ≤ xs.length) (k : Nat) :
    (swpR xs a b n).getD k 0 = if a ≤ k ∧ k < a + n then xs.getD (k - a + b) 0 else if b ≤ k ∧ k < b + n then xs.getD (k - b + a) 0 else xs.getD k 0 := by
  induction n generalizing k with
  | zero => rw [swpR, if_neg (by omega), if_neg (by omega)]
  | succ n ih =>
    rw [swpR, swp_get _ _ _ _ (by rw [swpR_length]; omega) (by rw [swpR_length]; omega)]
    have ih' := fun k => ih (by omega) (by omega) k
    by_cases e1 : k = b + n
    · rw [if_pos e1, ih', if_neg (by omega), if_neg (by omega), if_neg (by omega), if_pos (by omega)]
      congr 1; omega
    · rw [if_neg e1]
      by_cases e2 : k = a + n
      · rw [if_pos e2, ih', if_neg (by omega), if_neg (by omega), if_pos (by omega)]
        congr 1; omega
      · rw [if_neg e2, ih']
        by_cases c1 : a ≤ k ∧ k < a + n
        · rw [if_pos c1, if_pos (by omega)]
        · rw [if_neg c1]
          by_cases c2 : b ≤ k ∧ k < b + n
          · rw [if_pos c2, if_neg (by omega), if_pos (by omega)]
          · rw [if_neg c2, if_neg (by omega), if_neg (by omega)]
theorem swpR_perm (xs : List Int) (a b n : Nat) (h1 : a + n ≤ xs.length) (h2 : b + n ≤ xs.length) : (swpR xs a b n).Perm xs := by
  induction n with
  | zero => exact .refl _
  | succ n ih => exact (swp_perm _ _ _ (by rw [swpR_length]; omega) (by rw [swpR_length]; omega)).trans (ih (by omega) (by omega))

/-- What the place k of the rotated row holds. -/
def rotF (xs : List Int) (a m b k : Nat) : Int := if k < a + (b - m) then xs.getD (k - a + m) 0 else xs.getD (k - (b - m)) 0

/-- The loop of rotate: what is done, and how what is left hangs together. -/
structure RotI (xs zs : List Int) (a m b i j : Nat) : Prop where
  i0 : 0 < i
  j0 : 0 < j
  ia : a + i ≤ m
  jb : m + j ≤ b
  perm : zs.Perm xs
  out : ∀ k, k < a ∨ b ≤ k → zs.getD k 0 = xs.getD k 0
  lo : ∀ k, a ≤ k → k + i < m → zs.getD k 0 = rotF xs a m b k
  hi : ∀ k, m + j ≤ k → k < b → zs.getD k 0 = rotF xs a m b k
  l : ∀ k, m ≤ k + i → k + i < m + j → rotF xs a m b k = zs.getD (k + i) 0
  r : ∀ k, m + j ≤ k + i → k < m + j → rotF xs a m b k = zs.getD (k - j) 0

theorem RotI.start (xs : List Int) (a m b : Nat) (h1 : a < m) (h2 : m < b) : RotI xs xs a m b (m - a) (b - m) := by
  refine ⟨by omega, by omega, by omega, by omega, .refl _, fun _ _ => rfl, fun k h3 h4 => by omega, fun k h3 h4 => by omega, fun k h3 h4 => ?_, fun k h3 h4 => ?_⟩
  · rw [rotF, if_pos (by omega)]; congr 1; omega
  · rw [rotF, if_neg (by omega)]
theorem RotI.more {xs zs : List Int} {a m b i j : Nat} (h : RotI xs zs a m b i j) (hb : b ≤ zs.length) (hij : j < i) : RotI xs (swpR zs (m - i) m j) a m b (i - j) j := by
  have hg := swpR_get zs (m - i) m j (by have := h.ia; omega) (by have := h.jb; omega)
  have h1 := h.ia
  have h2 := h.jb
  have h3 := h.j0
  refine ⟨by omega, h3, by omega, h2, (swpR_perm _ _ _ _ (by omega) (by omega)).trans h.perm, fun k hk => ?_, fun k hk hk2 => ?_, fun k hk hk2 => ?_, fun k hk hk2 => ?_, fun k hk hk2 => ?_⟩
  · rw [hg, if_neg (by omega), if_neg (by omega)]; exact h.out k hk
  · rw [hg]
    by_cases c : m ≤ k + i
    · rw [if_pos (by omega), h.l k (by omega) (by omega)]; congr 1; omega
    · rw [if_neg (by omega), if_neg (by omega)]; exact h.lo k hk (by omega)
  · rw [hg, if_neg (by omega), if_neg (by omega)]; exact h.hi k hk hk2
  · rw [hg, h.r k (by omega) (by omega)]
    by_cases c : k + i < m + j + j
    · rw [if_neg (by omega)]
      by_cases c2 : m ≤ k + (i - j)
      · rw [if_pos (by omega)]; congr 1; omega
      · omega
    · omega
  · rw [hg, h.r k (by omega) (by omega)]
    rw [if_neg (by omega), if_neg (by omega)]
theorem RotI.less {xs zs : List Int} {a m b i j : Nat} (h : RotI xs zs a m b i j) (hb : b ≤ zs.length) (hij : i < j) : RotI xs (swpR zs (m - i) (m + j - i) i) a m b i (j - i) := by
  have hg := swpR_get zs (m - i) (m + j - i) i (by have := h.ia; omega) (by have := h.jb; have := h.ia; omega)
  have h1 := h.ia
  have h2 := h.jb
  have h3 := h.i0
  refine ⟨h3, by omega, h1, by omega, (swpR_perm _ _ _ _ (by omega) (by omega)).trans h.perm, fun k hk => ?_, fun k hk hk2 => ?_, fun k hk hk2 => ?_, fun k hk hk2 => ?_, fun k hk hk2 => ?_⟩
  · rw [hg, if_neg (by omega), if_neg (by omega)]; exact h.out k hk
  · rw [hg, if_neg (by omega), if_neg (by omega)]; exact h.lo k hk hk2
  · rw [hg, if_neg (by omega)]
    by_cases c : k < m + j
    · rw [if_pos (by omega), h.r k (by omega) c]; congr 1; omega
    · rw [if_neg (by omega)]; exact h.hi k (by omega) hk2
  · rw [hg, h.l k (by omega) (by omega)]
    rw [if_neg (by omega), if_neg (by omega)]
  · rw [hg, h.l k (by omega) (by omega)]
    rw [if_pos (by omega)]; congr 1; omega
theorem RotI.done {xs zs : List Int} {a m b i : Nat} (h : RotI xs zs a m b i i) (hb : b ≤ zs.length) : (swpR zs (m - i) m i).Perm xs ∧ (∀ k, k < a ∨ b ≤ k → (swpR zs (m - i) m i).getD k 0 = xs.getD k 0) ∧ ∀ k, a ≤ k → k < b → (swpR zs (m - i) m i).getD k 0 = rotF xs a m b k := by
  have hg := swpR_get zs (m - i) m i (by have := h.ia; omega) (by have := h.jb; omega)
  have h1 := h.ia
  have h2 := h.jb
  have h3 := h.i0
  refine ⟨(swpR_perm _ _ _ _ (by omega) (by omega)).trans h.perm, fun k hk => ?_, fun k hk hk2 => ?_⟩
  · rw [hg, if_neg (by omega), if_neg (by omega)]; exact h.out k hk
  · rw [hg]
    by_cases c1 : k + i < m
    · rw [if_neg (by omega), if_neg (by omega)]; exact h.lo k hk c1
    · by_cases c2 : k < m
      · rw [if_pos (by omega), h.l k (by omega) (by omega)]; congr 1; omega
      · rw [if_neg (by omega)]
        by_cases c3 : k < m + i
        · rw [if_pos (by omega), h.r k (by omega) c3]; congr 1; omega
        · rw [if_neg (by omega)]; exact h.hi k (by omega) hk2

set_option maxHeartbeats 2000000 in
theorem swapRange_any (g : Nat) (E : Nat) (xs : List Int) (c a b n : Nat) (fn : Value) (w : World) (hI : Ints E w g xs) (h1 : a + n ≤ b) (h2 : b + n ≤ xs.length) (hxl : xs.length ≤ 1000) :
    Calls Try.prog 44 #[.slice (some ⟨g, 0, none⟩) xs.length c, .int .i64 a, .int .i64 b, .int .i64 n, fn] w fun e w' =>
      e = .returned (.tuple #[]) ∧ Ints E w' g (swpR xs a b n) ∧ Keeps [g] w w' := by
  have HI := Lib.hid hI
  clear hI
  go_enter Try.func44, Try.ntmps44
  go_wp2
  go_loopw [10] (fun i wr => ∃ k : Nat, k ≤ n ∧ i = .int .i64 k ∧ Ints E wr g (swpR xs a b k) ∧ Keeps [g] w wr) (fun i _ => n - (intOf i).toNat)
  case atStart => exact ⟨0, Nat.zero_le _, rfl, HI.out, Keeps.refl _ _⟩
  case round =>
    obtain ⟨k, hk, rfl, hI, hK⟩ := hrel
    by_cases hlt : k < n
    · have hl := swpR_length xs a b k
      have d1 := hI.cellG (a + k) (by omega)
      have d2 := hI.cellG (b + k) (by omega)
      have f1 := hI.fz (a + k)
      have f2 := hI.fz (b + k)
      have hsw := hI.swp (a + k) (b + k)
      obtain ⟨x1, hx1⟩ : ∃ x, x = (swpR xs a b k).getD (a + k) 0 := ⟨_, rfl⟩
      obtain ⟨x2, hx2⟩ : ∃ x, x = (swpR xs a b k).getD (b + k) 0 := ⟨_, rfl⟩
      rw [← hx1] at d1 hsw
      rw [← hx2] at d2 hsw
      have HSW := Lib.hid hsw
      have HK := Lib.hid hK
      have hne : a + k ≠ b + k := by omega
      have hne2 : ¬ a + k = b + k := by omega
      have hne3 : ¬ b + k = a + k := by omega
      clear hI hK hsw hl hx1 hx2
      go_wp2
      go_region
      go_wp2
      go_roundw
      case rel => exact ⟨k + 1, by omega, by go_num, HSW.out, (HK.out.drew.setCell (by simp) _).setCell (by simp) _⟩
      case measure => simp [intOf]; omega
    · obtain rfl : k = n := by omega
      have HI := Lib.hid hI
      have HK := Lib.hid hK
      clear hI hK
      go_wp2
      go_end0
      exact ⟨rfl, HI.out, HK.out⟩

set_option maxHeartbeats 2000000 in
theorem rotate_any (g : Nat) (E : Nat) (xs : List Int) (c a m b : Nat) (fn : Value) (w : World) (hI : Ints E w g xs) (h1 : a < m) (h2 : m < b) (h3 : b ≤ xs.length) (hxl : xs.length ≤ 1000) :
    Calls Try.prog 43 #[.slice (some ⟨g, 0, none⟩) xs.length c, .int .i64 a, .int .i64 m, .int .i64 b, fn] w fun e w' =>
      e = .returned (.tuple #[]) ∧ ∃ ys, Ints E w' g ys ∧ ys.Perm xs ∧ (∀ k, k < a ∨ b ≤ k → ys.getD k 0 = xs.getD k 0) ∧ (∀ k, a ≤ k → k < b → ys.getD k 0 = rotF xs a m b k) ∧ Keeps [g] w w' := by
  have HI := Lib.hid hI
  clear hI
  go_enter Try.func43, Try.ntmps43
  go_wp2
  go_loopw [10, 11] (fun i j wr => ∃ (ni nj : Nat) (zs : List Int), i = .int .i64 ni ∧ j = .int .i64 nj ∧ RotI xs zs a m b ni nj ∧ Ints E wr g zs ∧ Keeps [g] w wr) (fun i j _ => (intOf i).toNat + (intOf j).toNat)
  case atStart => exact ⟨m - a, b - m, xs, by go_num, by go_num, RotI.start xs a m b h1 h2, HI.out, Keeps.refl _ _⟩
  case round =>
    obtain ⟨ni, nj, zs, rfl, rfl, hR, hI, hK⟩ := hrel
    have hzl : zs.length = xs.length := hR.perm.length_eq
    have hi0 := hR.i0
    have hj0 := hR.j0
    have hia := hR.ia
    have hjb := hR.jb
    rcases Nat.lt_trichotomy ni nj with h | h | h
    · have hs := swapRange_any g E zs c (m - ni) (m + nj - ni) ni fn wr hI (by omega) (by omega) (by omega)
      rw [hzl] at hs
      have hR2 := hR.less (by omega) h
      have e1 : ((m - ni : Nat) : Int) = (m : Int) - ni := by omega
      have e2 : ((m + nj - ni : Nat) : Int) = (m : Int) + nj - ni := by omega
      rw [e1, e2] at hs
      have HS := Lib.hid hs
      have HR2 := Lib.hid hR2
      have HK := Lib.hid hK
      have hne : ((ni : Int) != (nj : Int)) = true := by simp; omega
      have hne2 : (ni != nj) = true := by simp; omega
      clear hs hR2 hK hI hR hzl e1 e2
      go_wp2_with fail
      refine Calls.mono HS.out ?_
      rintro e w1 ⟨rfl, hI1, hk1⟩
      have HI1 := Lib.hid hI1
      have HK1 := Lib.hid (HK.out.trans hk1)
      clear hI1 hk1
      go_wp2
      go_roundw
      case rel => exact ⟨ni, nj - ni, _, rfl, by go_num, HR2.out, HI1.out, HK1.out⟩
      case measure => simp [intOf]; omega
    · subst h
      have hs := swapRange_any g E zs c (m - ni) m ni fn wr hI (by omega) (by omega) (by omega)
      rw [hzl] at hs
      have hR2 := hR.done (by omega)
      have e1 : ((m - ni : Nat) : Int) = (m : Int) - ni := by omega
      rw [e1] at hs
      have HS := Lib.hid hs
      have HR2 := Lib.hid hR2
      have HK := Lib.hid hK
      clear hs hR2 hK hI hR hzl e1
      go_wp2_with fail
      refine Calls.mono HS.out ?_
      rintro e w1 ⟨rfl, hI1, hk1⟩
      have HI1 := Lib.hid hI1
      have HK1 := Lib.hid (HK.out.trans hk1)
      clear hI1 hk1
      go_wp2
      go_end0
      exact ⟨rfl, _, HI1.out, HR2.out.1, HR2.out.2.1, HR2.out.2.2, HK1.out⟩
    · have hs := swapRange_any g E zs c (m - ni) m nj fn wr hI (by omega) (by omega) (by omega)
      rw [hzl] at hs
      have hR2 := hR.more (by omega) h
      have e1 : ((m - ni : Nat) : Int) = (m : Int) - ni := by omega
      rw [e1] at hs
      have HS := Lib.hid hs
      have HR2 := Lib.hid hR2
      have HK := Lib.hid hK
      have hne : ((ni : Int) != (nj : Int)) = true := by simp; omega
      have hne2 : (ni != nj) = true := by simp; omega
      clear hs hR2 hK hI hR hzl e1
      go_wp2_with fail
      refine Calls.mono HS.out ?_
      rintro e w1 ⟨rfl, hI1, hk1⟩
      have HI1 := Lib.hid hI1
      have HK1 := Lib.hid (HK.out.trans hk1)
      clear hI1 hk1
      go_wp2
      go_roundw
      case rel => exact ⟨ni - nj, nj, _, by go_num, rfl, HR2.out, HI1.out, HK1.out⟩
      case measure => simp [intOf]; omega

end Go.Proofs.Ytdpmkbiibmjbfaa
