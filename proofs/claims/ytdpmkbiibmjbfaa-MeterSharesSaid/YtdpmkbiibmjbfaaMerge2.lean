/- slices.symMergeCmpFunc at int with the closure of Shares, the right part being one element. Conditions: the row and what the closure has captured lie in memory; the two parts are in order. -/
import Derived.Test.YtdpmkbiibmjbfaaMerge
namespace Go.Proofs.Ytdpmkbiibmjbfaa
open Go.RowKit

set_option maxRecDepth 100000 in
set_option maxHeartbeats 2000000 in
theorem merge_right (g p q s bw off cap : Nat) (total sum : Int) (ws : List Int) (xs : List Int) (c a m : Nat) (w : World) (hE : CmpEnv w p q s bw off cap total sum ws) (hI : Ints 3 w g xs)
    (hd : g ∉ [p, q, s, bw]) (hr : ∀ x ∈ xs, 0 ≤ x ∧ x < ws.length) (hst : Stab (keyOf total sum ws) xs) (hab : a + 1 < m) (hb : m + 1 ≤ xs.length) (hxl : xs.length ≤ 1000) (hds : Desc (keyOf total sum ws) xs a m) :
    Calls Try.prog 42 #[.slice (some ⟨g, 0, none⟩) xs.length c, .int .i64 a, .int .i64 m, .int .i64 (m + 1 : Nat), .func (.func 29) #[] #[.pointer (some ⟨p, 0, none⟩), .pointer (some ⟨q, 0, none⟩), .pointer (some ⟨s, 0, none⟩)]] w fun e w' =>
      e = .returned (.tuple #[]) ∧ ∃ ys, Ints 3 w' g ys ∧ Turned xs ys a (m + 1) ∧ Stab (keyOf total sum ws) ys ∧ Desc (keyOf total sum ws) ys a (m + 1) ∧ Keeps [g] w w' := by
  have HE := Lib.hid hE
  have HI := Lib.hid hI
  have HD := Lib.hid hd
  have HR := Lib.hid hr
  have HST := Lib.hid hst
  have HDS := Lib.hid hds
  clear hE hI hd hr hst hds
  obtain ⟨b, hm⟩ : ∃ b, b = m + 1 := ⟨_, rfl⟩
  rw [← hm]
  have hma1 : ((m : Int) - (a : Int) == 1) = false := by simp; omega
  have hma2 : ((b : Int) - (m : Int) == 1) = true := by simp; omega
  have hma3 : m + 1 ≤ b := by omega
  have hma4 : b ≤ m + 1 := by omega
  have hbl : b ≤ xs.length := by omega
  have HM := Lib.hid hm
  clear hm
  go_enter Try.func42, Try.ntmps42
  go_wp2
  go_loopw [14, 15] (fun i j wr => ∃ ni nj : Nat, i = .int .i64 ni ∧ j = .int .i64 nj ∧ a ≤ ni ∧ ni ≤ nj ∧ nj ≤ m ∧ (∀ k, a ≤ k → k < ni → keyOf total sum ws (xs.getD m 0) ≤ keyOf total sum ws (xs.getD k 0)) ∧
    (∀ k, nj ≤ k → k < m → keyOf total sum ws (xs.getD k 0) < keyOf total sum ws (xs.getD m 0)) ∧ Ints 3 wr g xs ∧ Keeps [g] w wr) (fun i j _ => (intOf j).toNat - (intOf i).toNat)
  case atStart => exact ⟨a, m, rfl, rfl, by omega, by omega, by omega, fun k h1 h2 => by omega, fun k h1 h2 => by omega, HI.out, Keeps.refl _ _⟩
  case round =>
    obtain ⟨ni, nj, rfl, rfl, h1, h2, h3, hlo, hhi, hI, hK⟩ := hrel
    have HLO := Lib.hid hlo
    have HHI := Lib.hid hhi
    have HIr := Lib.hid hI
    have HKr := Lib.hid hK
    have hEr := HE.out.keep hK (by intro h; simp at h; exact HD.out (by simp [h])) (by intro h; simp at h; exact HD.out (by simp [h])) (by intro h; simp at h; exact HD.out (by simp [h])) (by intro h; simp at h; exact HD.out (by simp [h]))
    have HEr := Lib.hid hEr
    clear hlo hhi hI hK hEr
    by_cases hlt : ni < nj
    · go_upto_region 17 with fail
      obtain ⟨h, hh⟩ : ∃ h : Nat, ((ni : Int) + nj) / 2 = h := ⟨(ni + nj) / 2, by omega⟩
      have hb1 : ni ≤ h := by omega
      have hb2 : h < nj := by omega
      rw [hh]
      clear hh
      have d1 := HIr.out.cellG h (by omega)
      have d0 := HIr.out.cellG m (by omega)
      have f1 := HIr.out.fz h
      have f0 := HIr.out.fz m
      obtain ⟨r10, r11⟩ := HR.out (xs.getD h 0) (mem_getD (by omega))
      obtain ⟨r00, r01⟩ := HR.out (xs.getD m 0) (mem_getD (by omega))
      have hup : ∀ k, a ≤ k → k ≤ h → keyOf total sum ws (xs.getD h 0) ≤ keyOf total sum ws (xs.getD k 0) := fun k k1 k2 => by
        by_cases e : k = h
        · rw [e]; exact Int.le_refl _
        · exact HDS.out k h k1 (by omega) (by omega)
      have hdn : ∀ k, h ≤ k → k < m → keyOf total sum ws (xs.getD k 0) ≤ keyOf total sum ws (xs.getD h 0) := fun k k1 k2 => by
        by_cases e : k = h
        · rw [e]; exact Int.le_refl _
        · exact HDS.out h k (by omega) (by omega) k2
      have HUP := Lib.hid hup
      have HDN := Lib.hid hdn
      obtain ⟨x1, hx1⟩ : ∃ x, x = xs.getD h 0 := ⟨_, rfl⟩
      obtain ⟨x0, hx0⟩ : ∃ x, x = xs.getD m 0 := ⟨_, rfl⟩
      rw [← hx1] at d1 r10 r11
      rw [← hx0] at d0 r00 r01
      have HX1 := Lib.hid hx1
      have HX0 := Lib.hid hx0
      clear hup hdn hx1 hx0
      by_cases hc : keyOf total sum ws x1 < keyOf total sum ws x0
      · have hcb : cmpI (keyOf total sum ws x1) (keyOf total sum ws x0) = -1 := by simp [cmpI, hc]
        have HCB := Lib.hid hcb
        have HC := Lib.hid hc
        clear hcb hc
        go_quiet ((go_at_call 29; exact Calls.quiet_of (HCB.out ▸ cmp_any p q s bw off cap total sum ws x0 x1 _ (HEr.out.drewN _) r00 r01 r10 r11)))
        go_wp2
        go_roundw
        case rel =>
          have hk := HC.out
          rw [HX1.out, HX0.out] at hk
          exact ⟨ni, h, rfl, rfl, h1, by omega, by omega, HLO.out, fun k k1 k2 => by have := HDN.out k k1 k2; omega, HIr.out.drewN _, HKr.out.drewN _⟩
        case measure => simp [intOf]; omega
      · obtain ⟨cv, hcv⟩ : ∃ cv, cv = cmpI (keyOf total sum ws x1) (keyOf total sum ws x0) := ⟨_, rfl⟩
        have hcb' : ¬ cv < 0 := by rw [hcv, cmpI_neg]; exact hc
        have HC := Lib.hid hc
        have HCV := Lib.hid hcv.symm
        clear hc hcv
        go_quiet ((go_at_call 29; exact Calls.quiet_of (HCV.out ▸ cmp_any p q s bw off cap total sum ws x0 x1 _ (HEr.out.drewN _) r00 r01 r10 r11)))
        go_wp2
        go_roundw
        case rel =>
          have hk := HC.out
          rw [HX1.out, HX0.out] at hk
          exact ⟨h + 1, nj, by go_num, rfl, by omega, by omega, h3, fun k k1 k2 => by have := HUP.out k k1 (by omega); omega, HHI.out, HIr.out.drewN _, HKr.out.drewN _⟩
        case measure => simp [intOf]; omega
    · obtain rfl : ni = nj := by omega
      go_wp2
      obtain ⟨wo, hwo⟩ : ∃ wo : World, wo = wr := ⟨_, rfl⟩
      go_loopw [17] (fun i wi => ∃ (k : Nat) (ys : List Int), ni ≤ k ∧ k ≤ m ∧ i = .int .i64 k ∧ RideB (keyOf total sum ws) xs ys a m k ∧ Ints 3 wi g ys ∧ Keeps [g] w wi) (fun i _ => (intOf i).toNat)
      case atStart => exact ⟨m, xs, by omega, by omega, rfl, RideB.start HST.out, HIr.out, HKr.out⟩
      case round =>
        obtain ⟨k, ys, hk1, hk2, rfl, hR, hI, hK⟩ := hrel
        have hl := hR.turned.len
        have HRd := Lib.hid hR
        have HIz := Lib.hid hI
        have HKz := Lib.hid hK
        by_cases hkk : ni < k
        · obtain ⟨k, rfl⟩ : ∃ n, k = n + 1 := ⟨k - 1, by omega⟩
          have hg1 : (ni : Int) < (k : Int) + 1 := by omega
          have hg2 : ni ≤ k := by omega
          have d1 := hI.cellG (k + 1) (by omega)
          have d0 := hI.cellG k (by omega)
          have f1 := hI.fz (k + 1)
          have f0 := hI.fz k
          have hsw := hI.swp (k + 1) k
          obtain ⟨x1, hx1⟩ : ∃ x, x = ys.getD (k + 1) 0 := ⟨_, rfl⟩
          obtain ⟨x0, hx0⟩ : ∃ x, x = ys.getD k 0 := ⟨_, rfl⟩
          rw [← hx1] at d1 hsw
          rw [← hx0] at d0 hsw
          have HSW := Lib.hid hsw
          clear hI hK hR hsw hx1 hx0
          go_wp2
          go_region
          go_wp2
          go_roundw
          case rel => exact ⟨k, swp ys (k + 1) k, by omega, by omega, by go_num, HRd.out.step h1 hg2 (by omega) hb HHI.out, HSW.out, (HKz.out.drew.setCell (by simp) _).setCell (by simp) _⟩
          case measure => simp [intOf]
        · obtain rfl : k = ni := by omega
          clear hI hK hR
          go_wp2
          refine bodyPost_ret (results_none rfl _ _ _) rfl ?_
          rw [HM.out]
          exact ⟨rfl, ys, HIz.out, HRd.out.turned, HRd.out.stab, HRd.out.done h1 hk2 HDS.out HLO.out HHI.out, HKz.out⟩

end Go.Proofs.Ytdpmkbiibmjbfaa
