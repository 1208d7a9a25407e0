/- slices.stableCmpFunc and SortStableFunc at int with the closure of Shares, for up to 1000 numbers. Conditions: the row and what the closure has captured lie in memory. -/
import Derived.Test.YtdpmkbiibmjbfaaMerge3
import Derived.Test.YtdpmkbiibmjbfaaSort
namespace Go.Proofs.Ytdpmkbiibmjbfaa
open Go.RowKit

/-- Up to e the blocks of length s are in order. -/
def Blk (key : Int → Int) (xs : List Int) (s e : Nat) : Prop := ∀ j p q, s * j ≤ p → p < q → q < s * (j + 1) → q < e → key (xs.getD q 0) ≤ key (xs.getD p 0)
theorem Blk.add {key : Int → Int} {xs ys : List Int} {s k a e : Nat} (h : Blk key xs s a) (ha : a = s * k) (t : Turned xs ys a e) (he : e ≤ s * (k + 1)) (d : Desc key ys a e) : Blk key ys s e := by
  subst ha
  intro j p q h1 h2 h3 h4
  by_cases c : q < s * k
  · rw [t.out p (.inl (by omega)), t.out q (.inl c)]; exact h j p q h1 h2 h3 c
  · have a1 : k < j + 1 := Nat.lt_of_mul_lt_mul_left (a := s) (by omega)
    have a2 : j < k + 1 := Nat.lt_of_mul_lt_mul_left (a := s) (by omega)
    obtain rfl : j = k := by omega
    exact d p q h1 h2 h4
theorem Blk.desc {key : Int → Int} {xs : List Int} {s e : Nat} (h : Blk key xs s e) (he : e ≤ s) : Desc key xs 0 e :=
  fun p q _ h2 h3 => h 0 p q (by simp) h2 (by simp; omega) h3
/-- From a on to n the blocks of length s are in order. -/
def BlkF (key : Int → Int) (xs : List Int) (s a n : Nat) : Prop := ∀ j p q, s * j ≤ p → p < q → q < s * (j + 1) → q < n → a ≤ p → key (xs.getD q 0) ≤ key (xs.getD p 0)
theorem Blk.from {key : Int → Int} {xs : List Int} {s n : Nat} (h : Blk key xs s n) : BlkF key xs s 0 n := fun j p q h1 h2 h3 h4 _ => h j p q h1 h2 h3 h4
theorem BlkF.take {key : Int → Int} {xs : List Int} {s a n : Nat} (h : BlkF key xs s a n) (j lo hi : Nat) (h1 : s * j = lo) (h2 : hi ≤ lo + s) (h3 : hi ≤ n) (h4 : a ≤ lo) : Desc key xs lo hi := by
  intro p q p1 p2 p3
  have : s * (j + 1) = s * j + s := Nat.mul_succ _ _
  exact h j p q (by omega) p2 (by omega) (by omega) (by omega)
theorem BlkF.keep {key : Int → Int} {xs ys : List Int} {s a b n : Nat} (h : BlkF key xs s a n) (t : Turned xs ys a b) (hab : a ≤ b) : BlkF key ys s b n := by
  intro j p q h1 h2 h3 h4 h5
  rw [t.out p (.inr h5), t.out q (.inr (by omega))]
  exact h j p q h1 h2 h3 h4 (by omega)

set_option maxRecDepth 100000 in
set_option maxHeartbeats 2000000 in
theorem stable_any (g p q s bw off cap : Nat) (total sum : Int) (ws xs : List Int) (c : Nat) (w : World) (hE : CmpEnv w p q s bw off cap total sum ws) (hI : Ints 3 w g xs)
    (hd : g ∉ [p, q, s, bw]) (hr : ∀ x ∈ xs, 0 ≤ x ∧ x < ws.length) (hst : Stab (keyOf total sum ws) xs) (n : Nat) (hn : n = xs.length) (hxl : n ≤ 1000) :
    Calls Try.prog 38 #[.slice (some ⟨g, 0, none⟩) xs.length c, .int .i64 n, .func (.func 29) #[] #[.pointer (some ⟨p, 0, none⟩), .pointer (some ⟨q, 0, none⟩), .pointer (some ⟨s, 0, none⟩)]] w fun e w' =>
      e = .returned (.tuple #[]) ∧ ∃ ys, Ints 3 w' g ys ∧ Turned xs ys 0 n ∧ Stab (keyOf total sum ws) ys ∧ Desc (keyOf total sum ws) ys 0 n ∧ Keeps [g] w w' := by
  have hek : ∀ w', Keeps [g] w w' → CmpEnv w' p q s bw off cap total sum ws := fun w' hK => hE.keep hK (by intro h; simp at h; exact hd (by simp [h])) (by intro h; simp at h; exact hd (by simp [h])) (by intro h; simp at h; exact hd (by simp [h])) (by intro h; simp at h; exact hd (by simp [h]))
  have hrz : ∀ ys : List Int, ys.Perm xs → ∀ x ∈ ys, 0 ≤ x ∧ x < ws.length := fun ys hp x hx => hr x (hp.mem_iff.1 hx)
  have HEK := Lib.hid hek
  have HRZ := Lib.hid hrz
  have HN := Lib.hid hn
  have HI := Lib.hid hI
  have HD := Lib.hid hd
  have HST := Lib.hid hst
  clear hE hI hd hr hst hn hek hrz
  go_enter Try.func38, Try.ntmps38
  go_wp2
  go_loopw [7, 8] (fun i j wr => ∃ (k a b : Nat) (ys : List Int), i = .int .i64 a ∧ j = .int .i64 b ∧ a = 20 * k ∧ b = a + 20 ∧ a ≤ n ∧ Ints 3 wr g ys ∧ Turned xs ys 0 n ∧ Stab (keyOf total sum ws) ys ∧ Blk (keyOf total sum ws) ys 20 a ∧ Keeps [g] w wr) (fun i _ _ => n - (intOf i).toNat)
  case atStart => exact ⟨0, 0, 20, xs, rfl, rfl, by omega, by omega, by omega, HI.out, Turned.refl _ _ _, HST.out, fun j p q h1 h2 h3 h4 => by omega, Keeps.refl _ _⟩
  case round =>
    obtain ⟨k, a, b, ys, rfl, rfl, hak, hba, han, hI, hT, hS, hB, hK⟩ := hrel
    have hl := hT.len
    have HL := Lib.hid (hT.len.trans HN.out.symm)
    have HI1 := Lib.hid hI
    have HT := Lib.hid hT
    have HS := Lib.hid hS
    have HB := Lib.hid hB
    have HK := Lib.hid hK
    have HAK := Lib.hid hak
    have HBA := Lib.hid hba
    have hba1 : b ≤ a + 20 := by omega
    have hba2 : a + 20 ≤ b := by omega
    clear hI hT hS hB hK hak hba
    by_cases hbn : b ≤ n
    · have hs := isort_any g p q s bw off cap total sum ws ys c a b wr (HEK.out _ HK.out) HI1.out HD.out (HRZ.out _ HT.out.perm) HS.out (by omega) (by have := HL.out; omega) (by have := HL.out; omega)
      rw [hl] at hs
      have HSr := Lib.hid hs
      clear hs hl
      go_wp2_with fail
      refine Calls.mono HSr.out ?_
      rintro e w1 ⟨rfl, zs, z1, z2, z3, z4, z5⟩
      have Z1 := Lib.hid z1
      have Z2 := Lib.hid z2
      have Z3 := Lib.hid z3
      have Z4 := Lib.hid z4
      have Z5 := Lib.hid (HK.out.trans z5)
      clear z1 z2 z3 z4 z5
      go_wp2
      go_roundw
      case rel => exact ⟨k + 1, b, b + 20, zs, rfl, by go_num, by have := HAK.out; omega, rfl, hbn, Z1.out, HT.out.trans (Z2.out.mono (by omega) hbn), Z3.out, HB.out.add HAK.out Z2.out (by have := HAK.out; omega) Z4.out, Z5.out⟩
      case measure => simp [intOf]; omega
    · have hs := isort_any g p q s bw off cap total sum ws ys c a n wr (HEK.out _ HK.out) HI1.out HD.out (HRZ.out _ HT.out.perm) HS.out (by omega) (by have := HL.out; omega) (by have := HL.out; omega)
      rw [hl] at hs
      have HSr := Lib.hid hs
      clear hs hl
      go_wp2_with fail
      refine Calls.mono HSr.out ?_
      rintro e w1 ⟨rfl, zs, z1, z2, z3, z4, z5⟩
      have Z1 := Lib.hid z1
      have Z2 := Lib.hid (HT.out.trans (z2.mono (by omega) (Nat.le_refl _)))
      have Z3 := Lib.hid z3
      have Z4 := Lib.hid (HB.out.add HAK.out z2 (by have := HAK.out; omega) z4)
      have Z5 := Lib.hid (HK.out.trans z5)
      clear z1 z2 z3 z4 z5 HI1 HT HS HB HK HSr HL
      go_wp2
      obtain ⟨wo, hwo⟩ : ∃ wo : World, wo = w1 := ⟨_, rfl⟩
      go_loopw [6, 7, 8, 9] (fun s6 _ _ _ wx => ∃ (bs : Nat) (us : List Int), s6 = .int .i64 bs ∧ 1 ≤ bs ∧ bs ≤ 2000 ∧ Ints 3 wx g us ∧ Turned xs us 0 n ∧ Stab (keyOf total sum ws) us ∧ Blk (keyOf total sum ws) us bs n ∧ Keeps [g] w wx) (fun s6 _ _ _ _ => n - (intOf s6).toNat)
      case atStart => exact ⟨20, zs, rfl, by omega, by omega, Z1.out, Z2.out, Z3.out, Z4.out, Z5.out⟩
      case round =>
        obtain ⟨bs, us, rfl, hb1, hb2, hI, hT, hS, hB, hK⟩ := hrel
        have HIu := Lib.hid hI
        have HTu := Lib.hid hT
        have HSu := Lib.hid hS
        have HBu := Lib.hid hB
        have HKu := Lib.hid hK
        clear hI hT hS hB hK Z1 Z2 Z3 Z4 Z5
        by_cases hbs : bs < n
        · go_wp2
          obtain ⟨wo2, hwo2⟩ : ∃ wo2 : World, wo2 = wr := ⟨_, rfl⟩
          go_loopw [7, 8] (fun i j wi => ∃ (k2 a2 b2 : Nat) (vs : List Int), i = .int .i64 a2 ∧ j = .int .i64 b2 ∧ a2 = 2 * bs * k2 ∧ b2 = a2 + 2 * bs ∧ a2 ≤ n ∧ Ints 3 wi g vs ∧ Turned xs vs 0 n ∧ Stab (keyOf total sum ws) vs ∧ Blk (keyOf total sum ws) vs (2 * bs) a2 ∧ BlkF (keyOf total sum ws) vs bs a2 n ∧ Keeps [g] w wi) (fun i _ _ => n - (intOf i).toNat)
          case atStart => exact ⟨0, 0, 2 * bs, us, rfl, by go_num, by simp, by omega, by omega, HIu.out, HTu.out, HSu.out, fun j p q h1 h2 h3 h4 => by omega, HBu.out.from, HKu.out⟩
          case round =>
            obtain ⟨k2, a2, b2, vs, rfl, rfl, hak, hba, han2, hI, hT, hS, hB, hF, hK⟩ := hrel
            have hl := hT.len
            have hll : vs.length = n := hT.len.trans HN.out.symm
            have e0 : bs * (2 * k2) = a2 := by rw [hak, Nat.mul_comm 2 bs, Nat.mul_assoc]
            have e2 : 2 * bs * (k2 + 1) = a2 + 2 * bs := by rw [Nat.mul_succ, ← hak]
            have e3 : bs * (2 * k2 + 1) = a2 + bs := by rw [Nat.mul_succ, e0]
            have hcast : ((a2 + bs : Nat) : Int) = (a2 : Int) + bs := by omega
            have hba1 : b2 ≤ a2 + 2 * bs := by omega
            have hba2 : a2 + 2 * bs ≤ b2 := by omega
            by_cases hbn2 : b2 ≤ n
            · have hs := merge_any g p q s bw off cap total sum ws HD.out n vs c a2 (a2 + bs) b2 wr (by omega) (HEK.out _ hK) hI (HRZ.out _ hT.perm) hS (by omega) (by omega) (by omega) (by omega) (hF.take (2 * k2) _ _ e0 (by omega) (by omega) (by omega)) (hF.take (2 * k2 + 1) _ _ e3 (by omega) (by omega) (by omega))
              rw [hl, hcast] at hs
              have HSr := Lib.hid hs
              have HT := Lib.hid hT
              have HB := Lib.hid hB
              have HF := Lib.hid hF
              have HK := Lib.hid hK
              have HAK := Lib.hid hak
              have HE2 := Lib.hid e2
              clear hs hI hT hS hB hF hK hak hba e0 e2 e3 hl hll hcast
              go_wp2_with fail
              refine Calls.mono HSr.out ?_
              rintro e w1 ⟨rfl, zs, z1, z2, z3, z4, z5⟩
              have Z1 := Lib.hid z1
              have Z2 := Lib.hid z2
              have Z3 := Lib.hid z3
              have Z4 := Lib.hid z4
              have Z5 := Lib.hid (HK.out.trans z5)
              clear z1 z2 z3 z4 z5
              go_wp2
              go_roundw
              case rel => exact ⟨k2 + 1, b2, b2 + 2 * bs, zs, rfl, by go_num, by rw [HE2.out]; omega, rfl, hbn2, Z1.out, HT.out.trans (Z2.out.mono (by omega) hbn2), Z3.out, HB.out.add HAK.out Z2.out (by rw [HE2.out]; exact hba1) Z4.out, HF.out.keep Z2.out (by omega), Z5.out⟩
              case measure => simp [intOf]; omega
            · by_cases hmn : a2 + bs < n
              · have hs := merge_any g p q s bw off cap total sum ws HD.out n vs c a2 (a2 + bs) n wr (by omega) (HEK.out _ hK) hI (HRZ.out _ hT.perm) hS (by omega) (by omega) (by omega) (by omega) (hF.take (2 * k2) _ _ e0 (by omega) (by omega) (by omega)) (hF.take (2 * k2 + 1) _ _ e3 (by omega) (by omega) (by omega))
                rw [hl, hcast] at hs
                have HSr := Lib.hid hs
                have HT := Lib.hid hT
                have HB := Lib.hid hB
                have HK := Lib.hid hK
                have HAK := Lib.hid hak
                have HE2 := Lib.hid e2
                have hmn' : (a2 : Int) + bs < n := by omega
                clear hs hI hT hS hB hF hK hak hba e0 e2 e3 hl hll hcast
                go_wp2_with fail
                refine Calls.mono HSr.out ?_
                rintro e w1 ⟨rfl, zs, z1, z2, z3, z4, z5⟩
                have Z1 := Lib.hid z1
                have Z2 := Lib.hid (HT.out.trans (z2.mono (by omega) (Nat.le_refl _)))
                have Z3 := Lib.hid z3
                have Z4 := Lib.hid (HB.out.add HAK.out z2 (by rw [HE2.out]; omega) z4)
                have Z5 := Lib.hid (HK.out.trans z5)
                clear z1 z2 z3 z4 z5
                go_wp2
                go_roundw
                case rel => exact ⟨2 * bs, zs, by go_num, by omega, by omega, Z1.out, Z2.out, Z3.out, Z4.out, Z5.out⟩
                case measure => simp [intOf]; omega
              · have hd := hF.take (2 * k2) a2 n e0 (by omega) (by omega) (by omega)
                have Z4 := Lib.hid (hB.add hak (Turned.refl vs a2 n) (by rw [e2]; omega) hd)
                have HI := Lib.hid hI
                have HT := Lib.hid hT
                have HS := Lib.hid hS
                have HK := Lib.hid hK
                have hmn' : ¬ ((a2 : Int) + bs < n) := by omega
                clear hd hI hT hS hB hF hK hak hba e0 e2 e3 hl hll hcast
                go_wp2
                go_roundw
                case rel => exact ⟨2 * bs, vs, by go_num, by omega, by omega, HI.out, HT.out, HS.out, Z4.out, HK.out⟩
                case measure => simp [intOf]; omega
        · go_wp2
          go_end0
          exact ⟨rfl, us, HIu.out, HTu.out, HSu.out, HBu.out.desc (by omega), HKu.out⟩

set_option maxHeartbeats 1000000 in
theorem sorts_any (n : Nat) (hn : n ≤ 1000) : SortsAt n := by
  intro g p q s bw off cap total sum ws xs c w hE hI hd hr hst hl
  have h0 := stable_any g p q s bw off cap total sum ws xs c w hE hI hd hr hst n hl.symm hn
  have H0 := Lib.hid h0
  have HL := Lib.hid hl
  clear hE hI hd hr hst hl h0
  go_enter Try.func28, Try.ntmps28
  go_wp2_with fail
  rw [HL.out]
  have h0 := H0.out
  rw [HL.out] at h0
  refine Calls.mono h0 ?_
  rintro e w1 ⟨rfl, h1⟩
  have H1 := Lib.hid h1
  clear h1 h0
  go_wp2
  go_end0
  exact ⟨rfl, H1.out⟩

end Go.Proofs.Ytdpmkbiibmjbfaa
