/- slices.symMergeCmpFunc at int with the closure of Shares, at any two parts. Conditions: the row and what the closure has captured lie in memory; the two parts are in order. -/
import Derived.Test.YtdpmkbiibmjbfaaMerge2
import Derived.Test.YtdpmkbiibmjbfaaHalf
namespace Go.Proofs.Ytdpmkbiibmjbfaa
open Go.RowKit

set_option maxRecDepth 100000 in
set_option maxHeartbeats 4000000 in
theorem merge_any (g p q s bw off cap : Nat) (total sum : Int) (ws : List Int) (hd : g ∉ [p, q, s, bw]) : ∀ (n : Nat) (xs : List Int) (c a m b : Nat) (w : World), b ≤ a + n → CmpEnv w p q s bw off cap total sum ws → Ints 3 w g xs →
    (∀ x ∈ xs, 0 ≤ x ∧ x < ws.length) → Stab (keyOf total sum ws) xs → a < m → m < b → b ≤ xs.length → xs.length ≤ 1000 → Desc (keyOf total sum ws) xs a m → Desc (keyOf total sum ws) xs m b →
    Calls Try.prog 42 #[.slice (some ⟨g, 0, none⟩) xs.length c, .int .i64 a, .int .i64 m, .int .i64 b, .func (.func 29) #[] #[.pointer (some ⟨p, 0, none⟩), .pointer (some ⟨q, 0, none⟩), .pointer (some ⟨s, 0, none⟩)]] w fun e w' =>
      e = .returned (.tuple #[]) ∧ ∃ ys, Ints 3 w' g ys ∧ Turned xs ys a b ∧ Stab (keyOf total sum ws) ys ∧ Desc (keyOf total sum ws) ys a b ∧ Keeps [g] w w' := by
  intro n
  induction n with
  | zero => intro xs c a m b w hn; intros; omega
  | succ n ih =>
    intro xs c a m b w hn hE hI hr hst ham hmb hb hxl hd1 hd2
    by_cases hm1 : m = a + 1
    · subst hm1
      exact merge_left g p q s bw off cap total sum ws xs c a b w hE hI hd hr hst hmb hb hxl hd2
    by_cases hb1 : b = m + 1
    · subst hb1
      exact merge_right g p q s bw off cap total sum ws xs c a m w hE hI hd hr hst (by omega) hb hxl hd1
    have HE := Lib.hid hE
    have HI := Lib.hid hI
    have HD := Lib.hid hd
    have HR := Lib.hid hr
    have HST := Lib.hid hst
    have HD1 := Lib.hid hd1
    have HD2 := Lib.hid hd2
    have IH := Lib.hid ih
    have hma1 : ((m : Int) - (a : Int) == 1) = false := by simp; omega
    have hma2 : ((b : Int) - (m : Int) == 1) = false := by simp; omega
    obtain ⟨mid, hmd⟩ : ∃ mid, mid = (a + b) / 2 := ⟨_, rfl⟩
    have hmid : ((a : Int) + (b : Int)) / 2 = mid := by omega
    have hmda : a < mid := by omega
    have hmdb : mid < b := by omega
    have HMD := Lib.hid hmd
    clear hE hI hd hr hst hd1 hd2 ih hmd hm1 hb1
    go_enter Try.func42, Try.ntmps42
    go_upto_if 140 with fail
    go_cut [20, 21] (fun s20 s21 wx => ∃ s0 r0 : Nat, s20 = .int .i64 s0 ∧ s21 = .int .i64 r0 ∧ Srch a m b mid s0 r0 ∧ w = wx)
    case first => as_aux_lemma =>
      by_cases c : mid < m
      · go_wp2
        go_meet
        exact ⟨mid + m - b, mid, by go_num, rfl, HMD.out ▸ Srch.right ham hmb (by have := HMD.out; omega), rfl⟩
      · go_wp2
        go_meet
        exact ⟨a, m, rfl, rfl, HMD.out ▸ Srch.left ham hmb (by have := HMD.out; omega), rfl⟩
    case rest =>
      obtain ⟨s0, r0, rfl, rfl, hS, rfl⟩ := hcut
      have s1 := hS.sa
      have s2 := hS.sr
      have s3 := hS.rm
      have s4 := hS.rd
      have s5 := hS.pb
      have HS := Lib.hid hS
      clear hS
      go_wp2
      go_loopw [20, 21] (fun i j wr => ∃ ni nj : Nat, i = .int .i64 ni ∧ j = .int .i64 nj ∧ s0 ≤ ni ∧ ni ≤ nj ∧ nj ≤ r0 ∧ (∀ k, s0 ≤ k → k < ni → keyOf total sum ws (xs.getD (mid + m - 1 - k) 0) ≤ keyOf total sum ws (xs.getD k 0)) ∧
        (∀ k, nj ≤ k → k < r0 → keyOf total sum ws (xs.getD k 0) < keyOf total sum ws (xs.getD (mid + m - 1 - k) 0)) ∧ Ints 3 wr g xs ∧ Keeps [g] w wr) (fun i j _ => (intOf j).toNat - (intOf i).toNat)
      case atStart => exact ⟨s0, r0, rfl, rfl, by omega, by omega, by omega, fun k h1 h2 => by omega, fun k h1 h2 => by omega, HI.out, Keeps.refl _ _⟩
      case round =>
        obtain ⟨ni, nj, rfl, rfl, h1, h2, h3, hlo, hhi, hI, hK⟩ := hrel
        have HLO := Lib.hid hlo
        have HHI := Lib.hid hhi
        have HIr := Lib.hid hI
        have HKr := Lib.hid hK
        have hEr := HE.out.keep hK (by intro h; simp at h; exact HD.out (by simp [h])) (by intro h; simp at h; exact HD.out (by simp [h])) (by intro h; simp at h; exact HD.out (by simp [h])) (by intro h; simp at h; exact HD.out (by simp [h]))
        have HEr := Lib.hid hEr
        clear hlo hhi hI hK hEr
        by_cases hlt : ni < nj
        · go_upto_region 35 with fail
          obtain ⟨h, hh⟩ : ∃ h : Nat, ((ni : Int) + nj) / 2 = h := ⟨(ni + nj) / 2, by omega⟩
          have hb1 : ni ≤ h := by omega
          have hb2 : h < nj := by omega
          rw [hh]
          clear hh
          obtain ⟨t, ht⟩ : ∃ t, t = mid + m - 1 - h := ⟨_, rfl⟩
          have ht1 : (mid : Int) + m - 1 - h = t := by omega
          have ht2 : t < b := by omega
          have ht3 : t < xs.length := by omega
          have d1 := HIr.out.cellG h (by omega)
          have d0 := HIr.out.cellG t (by omega)
          have f1 := HIr.out.fz h
          have f0 := HIr.out.fz t
          obtain ⟨r10, r11⟩ := HR.out (xs.getD h 0) (mem_getD (by omega))
          obtain ⟨r00, r01⟩ := HR.out (xs.getD t 0) (mem_getD (by omega))
          obtain ⟨x1, hx1⟩ : ∃ x, x = xs.getD h 0 := ⟨_, rfl⟩
          obtain ⟨x0, hx0⟩ : ∃ x, x = xs.getD t 0 := ⟨_, rfl⟩
          rw [← hx1] at d1 r10 r11
          rw [← hx0] at d0 r00 r01
          have HX1 := Lib.hid hx1
          have HX0 := Lib.hid hx0
          have HT := Lib.hid ht
          clear hx1 hx0 ht
          by_cases hc : keyOf total sum ws x1 < keyOf total sum ws x0
          · have hcb : cmpI (keyOf total sum ws x1) (keyOf total sum ws x0) = -1 := by simp [cmpI, hc]
            have HCB := Lib.hid hcb
            have HC := Lib.hid hc
            clear hcb hc
            go_quiet ((go_at_call 29; exact Calls.quiet_of (HCB.out ▸ cmp_any p q s bw off cap total sum ws x0 x1 _ (HEr.out.drewN _) r00 r01 r10 r11)))
            go_wp2
            go_roundw
            case rel =>
              have hk := HC.out
              rw [HX1.out, HX0.out, HT.out] at hk
              exact ⟨ni, h, rfl, rfl, h1, by omega, by omega, HLO.out, HS.out.dn HD1.out HD2.out h (by omega) (by omega) hk, HIr.out.drewN _, HKr.out.drewN _⟩
            case measure => simp [intOf]; omega
          · obtain ⟨cv, hcv⟩ : ∃ cv, cv = cmpI (keyOf total sum ws x1) (keyOf total sum ws x0) := ⟨_, rfl⟩
            have hcb' : ¬ cv < 0 := by rw [hcv, cmpI_neg]; exact hc
            have HC := Lib.hid hc
            have HCV := Lib.hid hcv.symm
            clear hc hcv
            go_quiet ((go_at_call 29; exact Calls.quiet_of (HCV.out ▸ cmp_any p q s bw off cap total sum ws x0 x1 _ (HEr.out.drewN _) r00 r01 r10 r11)))
            go_wp2
            go_roundw
            case rel =>
              have hk := HC.out
              rw [HX1.out, HX0.out, HT.out] at hk
              have hup := HS.out.up HD1.out HD2.out h (by omega) (by omega) (by omega)
              exact ⟨h + 1, nj, by go_num, rfl, by omega, by omega, h3, fun k k1 k2 => hup k k1 (by omega), HHI.out, HIr.out.drewN _, HKr.out.drewN _⟩
            case measure => simp [intOf]; omega
        · obtain rfl : ni = nj := by omega
          have hcut := HS.out.cut HD1.out HD2.out ni h1 h3 HLO.out HHI.out
          obtain ⟨en, hen⟩ : ∃ en, en = mid + m - ni := ⟨_, rfl⟩
          have hen1 : (mid : Int) + m - ni = en := by omega
          rw [← hen] at hcut
          have ⟨e1, e2, e3, e4, e5, e6, e7, _, _⟩ := hcut
          have HC := Lib.hid hcut
          clear hcut hen
          have hek : ∀ w', Keeps [g] w w' → CmpEnv w' p q s bw off cap total sum ws := fun w' hK => HE.out.keep hK (by intro h; simp at h; exact HD.out (by simp [h])) (by intro h; simp at h; exact HD.out (by simp [h])) (by intro h; simp at h; exact HD.out (by simp [h])) (by intro h; simp at h; exact HD.out (by simp [h]))
          have hrz : ∀ ys : List Int, ys.Perm xs → ∀ x ∈ ys, 0 ≤ x ∧ x < ws.length := fun ys hp x hx => HR.out x (hp.mem_iff.1 hx)
          have HEK := Lib.hid hek
          have HRZ := Lib.hid hrz
          clear hek hrz HLO HHI HEr
          go_upto_region 39 with fail
          go_cut [24, 185] (fun s24 s185 wx => s24 = .int .i64 en ∧ s185 = .bool (decide (ni < m ∧ m < en)) ∧ wr = wx)
          case first => as_aux_lemma =>
            by_cases c1 : ni < m
            · by_cases c2 : m < en
              · go_wp2
                go_meet
                exact ⟨rfl, by simp [c1, c2], rfl⟩
              · go_wp2
                go_meet
                exact ⟨rfl, by simp [c1, c2], rfl⟩
            · go_wp2
              go_meet
              exact ⟨rfl, by simp [c1], rfl⟩
          case rest =>
            obtain ⟨rfl, rfl, rfl⟩ := hcut
            go_upto_if 185 with fail
            go_cut [24] (fun s24 wx => s24 = .int .i64 en ∧ ∃ (zs : List Int) (w5 : World), w5 = wx ∧ Rotd xs zs ni m en ∧ Ints 3 w5 g zs ∧ Keeps [g] w w5)
            case first => as_aux_lemma =>
              by_cases cc : ni < m ∧ m < en
              · have hs := fun fn => rotate_any g _ xs c ni m en fn wr HIr.out cc.1 cc.2 (by omega) hxl
                have HSr := Lib.hid hs
                have hdc : decide (ni < m ∧ m < en) = true := by simp [cc]
                rw [hdc]
                clear hs cc hdc
                go_wp2_with fail
                refine Calls.mono (HSr.out _) ?_
                rintro e w1 ⟨rfl, zs, hz1, hz2, hz3, hz4, hz5⟩
                have HZ := Lib.hid (Rotd.of e4 hz2 hz3 hz4 e2)
                have HI1 := Lib.hid hz1
                have HK1 := Lib.hid (HKr.out.trans hz5)
                clear hz1 hz2 hz3 hz4 hz5
                go_wp2
                go_meet
                exact ⟨rfl, zs, _, rfl, HZ.out, HI1.out, HK1.out⟩
              · have HZ := Lib.hid (Rotd.same (xs := xs) (st := ni) (m := m) (en := en) (by omega))
                have hdc : decide (ni < m ∧ m < en) = false := by simp; omega
                rw [hdc]
                clear cc hdc
                go_wp2
                go_meet
                exact ⟨rfl, xs, _, rfl, HZ.out, HIr.out, HKr.out⟩
            case rest =>
              obtain ⟨rfl, zs, w5, rfl, hR, hI5, hK5⟩ := hcut
              have HH := Lib.hid (HC.out.halves hb HD1.out HD2.out HST.out hR)
              have HZL := Lib.hid hR.perm.length_eq
              have HZP := Lib.hid hR.perm
              have HI5 := Lib.hid hI5
              have HK5 := Lib.hid hK5
              clear hR hI5 hK5
              go_upto_region 41 with fail
              go_cut [24, 199] (fun s24 s199 wx => s24 = .int .i64 en ∧ s199 = .bool (decide (a < ni ∧ ni < mid)) ∧ w5 = wx)
              case first => as_aux_lemma =>
                by_cases c1 : a < ni
                · by_cases c2 : ni < mid
                  · go_wp2
                    go_meet
                    exact ⟨rfl, by simp [c1, c2], rfl⟩
                  · go_wp2
                    go_meet
                    exact ⟨rfl, by simp [c1, c2], rfl⟩
                · go_wp2
                  go_meet
                  exact ⟨rfl, by simp [c1], rfl⟩
              case rest =>
                obtain ⟨rfl, rfl, rfl⟩ := hcut
                go_upto_if 199 with fail
                go_cut [24] (fun s24 wx => s24 = .int .i64 en ∧ ∃ (y1 : List Int) (w6 : World), w6 = wx ∧ Turned zs y1 a mid ∧ Stab (keyOf total sum ws) y1 ∧ Desc (keyOf total sum ws) y1 a mid ∧ Ints 3 w6 g y1 ∧ Keeps [g] w w6)
                case first => as_aux_lemma =>
                  by_cases cc : a < ni ∧ ni < mid
                  · have hs := IH.out zs c a ni mid w5 (by omega) (HEK.out _ HK5.out) HI5.out (HRZ.out _ HZP.out) HH.out.stab cc.1 cc.2 (by have := HZL.out; omega) (by have := HZL.out; omega) HH.out.d1 HH.out.d2
                    rw [HZL.out] at hs
                    have HSr := Lib.hid hs
                    have hdc : decide (a < ni ∧ ni < mid) = true := by simp [cc]
                    rw [hdc]
                    clear hs cc hdc
                    go_wp2_with fail
                    refine Calls.mono HSr.out ?_
                    rintro e w1 ⟨rfl, y1, hz1, hz2, hz3, hz4, hz5⟩
                    have HI1 := Lib.hid hz1
                    have HK1 := Lib.hid (HK5.out.trans hz5)
                    have H2 := Lib.hid hz2
                    have H3 := Lib.hid hz3
                    have H4 := Lib.hid hz4
                    clear hz1 hz2 hz3 hz4 hz5
                    go_wp2
                    go_meet
                    exact ⟨rfl, y1, _, rfl, H2.out, H3.out, H4.out, HI1.out, HK1.out⟩
                  · have hds : Desc (keyOf total sum ws) zs a mid := by
                      by_cases e : a = ni
                      · have := HH.out.d2; rwa [← e] at this
                      · have e' : ni = mid := by omega
                        have := HH.out.d1; rwa [e'] at this
                    have HDZ := Lib.hid hds
                    have hdc : decide (a < ni ∧ ni < mid) = false := by simp; omega
                    rw [hdc]
                    clear cc hdc hds
                    go_wp2
                    go_meet
                    exact ⟨rfl, zs, _, rfl, Turned.refl _ _ _, HH.out.stab, HDZ.out, HI5.out, HK5.out⟩
                case rest =>
                  obtain ⟨rfl, y1, w6, rfl, ht1, hs1, hds1, hI6, hK6⟩ := hcut
                  have HYL := Lib.hid (ht1.len.trans HZL.out)
                  have HYP := Lib.hid (ht1.perm.trans HZP.out)
                  have HY3 := Lib.hid (ht1.desc HH.out.d3 (.inr (Nat.le_refl _)))
                  have HY4 := Lib.hid (ht1.desc HH.out.d4 (.inr e6))
                  have HT1 := Lib.hid ht1
                  have HS1 := Lib.hid hs1
                  have HDS1 := Lib.hid hds1
                  have HI6 := Lib.hid hI6
                  have HK6 := Lib.hid hK6
                  clear ht1 hs1 hds1 hI6 hK6
                  go_upto_region 43 with fail
                  go_cut [24, 213] (fun s24 s213 wx => s24 = .int .i64 en ∧ s213 = .bool (decide (mid < en ∧ en < b)) ∧ w6 = wx)
                  case first => as_aux_lemma =>
                    by_cases c1 : mid < en
                    · by_cases c2 : en < b
                      · go_wp2
                        go_meet
                        exact ⟨rfl, by simp [c1, c2], rfl⟩
                      · go_wp2
                        go_meet
                        exact ⟨rfl, by simp [c1, c2], rfl⟩
                    · go_wp2
                      go_meet
                      exact ⟨rfl, by simp [c1], rfl⟩
                  case rest =>
                    obtain ⟨rfl, rfl, rfl⟩ := hcut
                    by_cases cc : mid < en ∧ en < b
                    · have hs := IH.out y1 c mid en b w6 (by omega) (HEK.out _ HK6.out) HI6.out (HRZ.out _ HYP.out) HS1.out cc.1 cc.2 (by have := HYL.out; omega) (by have := HYL.out; omega) HY3.out HY4.out
                      rw [HYL.out] at hs
                      have HSr := Lib.hid hs
                      have hdc : decide (mid < en ∧ en < b) = true := by simp [cc]
                      rw [hdc]
                      clear hs cc hdc
                      go_wp2_with fail
                      refine Calls.mono HSr.out ?_
                      rintro e w1 ⟨rfl, y2, hz1, hz2, hz3, hz4, hz5⟩
                      have HI1 := Lib.hid hz1
                      have HK1 := Lib.hid (HK6.out.trans hz5)
                      have HF := Lib.hid (HH.out.done (by omega) (by omega) hb HT1.out hz2 HDS1.out hz4)
                      have H3 := Lib.hid hz3
                      clear hz1 hz2 hz3 hz4 hz5
                      go_wp2
                      go_end0
                      exact ⟨rfl, y2, HI1.out, HF.out.1, H3.out, HF.out.2, HK1.out⟩
                    · have hds : Desc (keyOf total sum ws) y1 mid b := by
                        by_cases e : mid = en
                        · have := HY4.out; rwa [← e] at this
                        · have e' : en = b := by omega
                          have := HY3.out; rwa [e'] at this
                      have HF := Lib.hid (HH.out.done (by omega) (by omega) hb HT1.out (Turned.refl _ _ _) HDS1.out hds)
                      have hdc : decide (mid < en ∧ en < b) = false := by simp; omega
                      rw [hdc]
                      clear cc hdc hds
                      go_wp2
                      go_end0
                      exact ⟨rfl, y1, HI6.out, HF.out.1, HS1.out, HF.out.2, HK6.out⟩

end Go.Proofs.Ytdpmkbiibmjbfaa
