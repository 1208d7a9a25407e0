/- Part 11 of the proof. No condition: every lemma says its own. -/
import Derived.Test.YtkekenaamnhbhaaGreatZsaj
namespace Go.Proofs.YtkekenaamnhbhaaGreat
open Go.RowKit Go.Sort Go.BigFrame
set_option maxRecDepth 100000
set_option maxHeartbeats 16000000
theorem merge_left (g p mb mn : Nat) (gm : Value → Option Value) (key : Tri → Int) (sp : List Value) (xs : List Tri) (c a b : Nat) (w : World) (hE : KeyEnv w p mb mn gm) (hI : Tris 175 w g sp xs)
  (hd : g ∉ [p, mb]) (hr : ∀ x ∈ xs, HasKey gm key x) (hab : a + 1 < b) (hb : b ≤ xs.length) (hxl : xs.length ≤ 1000000) (hds : Desc key xs (a + 1) b) :
  Calls Tryz.prog 133 #[.slice (some ⟨g, 0, none⟩) xs.length c, .int .i64 a, .int .i64 (a + 1 : Nat), .int .i64 b, cmpV p] w fun e w' =>
   e = .returned (.tuple #[]) ∧ ∃ ys, Tris 175 w' g sp ys ∧ Turned xs ys a b ∧ Desc key ys a b ∧ Keeps [g] w w' := by
 have HE := gI hE
 have HI := gI hI
 have HD := gI hd
 have hgp : g ≠ p := fun h => hd (by simp [h])
 have hgm : g ≠ mb := fun h => hd (by simp [h])
 have HR := gI hr
 have HDS := gI hds
 clear hE hI hd hr hds
 obtain ⟨m, hm⟩ : ∃ m, m = a + 1 := ⟨_, rfl⟩
 rw [← hm]
 have hma : (m : Int) - (a : Int) = 1 := by omega
 have hma2 : ((m : Int) - (a : Int) == 1) = true := by simp; omega
 have hma3 : a + 1 ≤ m := by omega
 have hma4 : m ≤ a + 1 := by omega
 have HM := gI hm
 clear hm hma
 unfold cmpV
 go_enter Tryz.func133, Tryz.ntmps133
 go_wp2
 go_loopw [10, 11] (fun i j wr => ∃ ni nj : Nat, i = .int .i64 ni ∧ j = .int .i64 nj ∧ m ≤ ni ∧ ni ≤ nj ∧ nj ≤ b ∧ (∀ k, a + 1 ≤ k → k < ni → key (xs.getD a z0) < key (xs.getD k z0)) ∧
  (∀ k, nj ≤ k → k < b → key (xs.getD k z0) ≤ key (xs.getD a z0)) ∧ Tris 175 wr g sp xs ∧ Keeps [g] w wr) (fun i j _ => (intOf j).toNat - (intOf i).toNat)
 case atStart => exact ⟨m, b, rfl, rfl, by omega, by omega, by omega, fun k h1 h2 => by omega, fun k h1 h2 => by omega, HI.out, Keeps.refl _ _⟩
 case round =>
  obtain ⟨ni, nj, rfl, rfl, h1, h2, h3, hlo, hhi, hI, hK⟩ := hrel
  have HLO := gI hlo
  have HHI := gI hhi
  have HIr := gI hI
  have HKr := gI hK
  have hEr := HE.out.keep hK (by simp; exact hgp.symm) (by simp; exact hgm.symm)
  have HEr := gI hEr
  clear hlo hhi hI hK hEr
  by_cases hlt : ni < nj
  ·go_upto_region 5 with fail
   obtain ⟨h, hh⟩ : ∃ h : Nat, ((ni : Int) + nj) / 2 = h := ⟨(ni + nj) / 2, by omega⟩
   have hb1 : ni ≤ h := by omega
   have hb2 : h < nj := by omega
   rw [hh]
   clear hh
   obtain ⟨d1, d2, d3⟩ := HIr.out.cells h (by omega)
   obtain ⟨c1, c2, c3⟩ := HIr.out.cells a (by omega)
   have r1 := HR.out (xs.getD h z0) (mem_getD (by omega))
   have r0 := HR.out (xs.getD a z0) (mem_getD (by omega))
   have hup : ∀ k, a + 1 ≤ k → k ≤ h → key (xs.getD h z0) ≤ key (xs.getD k z0) := fun k k1 k2 => by
    by_cases e : k = h
    ·rw [e]; exact Int.le_refl _
    ·exact HDS.out k h k1 (by omega) (by omega)
   have hdn : ∀ k, h ≤ k → k < b → key (xs.getD k z0) ≤ key (xs.getD h z0) := fun k k1 k2 => by
    by_cases e : k = h
    ·rw [e]; exact Int.le_refl _
    ·exact HDS.out h k (by omega) (by omega) k2
   have HUP := gI hup
   have HDN := gI hdn
   obtain ⟨x1, hx1⟩ : ∃ x, x = xs.getD h z0 := ⟨_, rfl⟩
   obtain ⟨x0, hx0⟩ : ∃ x, x = xs.getD a z0 := ⟨_, rfl⟩
   rw [← hx1] at d1 d2 d3 r1
   rw [← hx0] at c1 c2 c3 r0
   have HX1 := gI hx1
   have HX0 := gI hx0
   clear hup hdn hx1 hx0
   have cE := fun d os => cmp_regrown p mb _ gm key x1 x0 wr HEr.out r1 r0 d os
   obtain ⟨cv, hcv⟩ : ∃ cv, cv = cmpI (key x0) (key x1) := ⟨_, rfl⟩
   have HCV := gI (show (cv < 0) = (key x0 < key x1) by rw [hcv, cmpI_neg])
   simp only [← hcv] at cE
   clear hcv
   obtain ⟨p1, p2, p3⟩ := x1
   obtain ⟨q1, q2, q3⟩ := x0
   simp only [triv_eq] at d1 d2 d3 c1 c2 c3 cE
   have CE := gI cE
   have D1 := cell_regrown d1
   have D2 := cell_regrown d2
   have D3 := cell_regrown d3
   have C1 := cell_regrown c1
   have C2 := cell_regrown c2
   have C3 := cell_regrown c3
   clear cE d1 d2 d3 c1 c2 c3
   by_cases hc : cv < 0
   ·have hc2 := hc
    rw [HCV.out] at hc2
    have HC := gI hc2
    clear hc2
    refine wp_region_quiet_below (by kernel_rfl) (by kernel_rfl) ?_
    repeat (go_big_quiet_step (exact CE.out _ _))
    refine wpQuiet_nil ?_
    intro _ hw'
    obtain ⟨pq, hw''⟩ := hw'
    subst hw''
    have hk := Keeps.of_below (below_regrown wr pq.d pq.os)
    have HIw := gI (HIr.out.keep hk (by simp))
    have HKw := gI (HKr.out.trans (hk.mono (by simp)))
    clear hk
    generalize grow (redrawn wr pq.d) pq.os = Z at *
    go_wp2
    go_roundw
    case rel =>
     have hk := HC.out
     rw [HX1.out, HX0.out] at hk
     exact ⟨h + 1, nj, by go_num, rfl, by omega, by omega, h3, fun k k1 k2 => by have := HUP.out k k1 (by omega); omega, HHI.out, HIw.out, HKw.out⟩
    case measure => simp [intOf]; omega
   ·have hc2 := hc
    rw [HCV.out] at hc2
    have HC := gI hc2
    clear hc2
    refine wp_region_quiet_below (by kernel_rfl) (by kernel_rfl) ?_
    repeat (go_big_quiet_step (exact CE.out _ _))
    refine wpQuiet_nil ?_
    intro _ hw'
    obtain ⟨pq, hw''⟩ := hw'
    subst hw''
    have hk := Keeps.of_below (below_regrown wr pq.d pq.os)
    have HIw := gI (HIr.out.keep hk (by simp))
    have HKw := gI (HKr.out.trans (hk.mono (by simp)))
    clear hk
    generalize grow (redrawn wr pq.d) pq.os = Z at *
    go_wp2
    go_roundw
    case rel =>
     have hk := HC.out
     rw [HX1.out, HX0.out] at hk
     exact ⟨ni, h, rfl, rfl, h1, by omega, by omega, HLO.out, fun k k1 k2 => by have := HDN.out k k1 k2; omega, HIw.out, HKw.out⟩
    case measure => simp [intOf]; omega
  ·obtain rfl : ni = nj := by omega
   go_wp2
   obtain ⟨wo, hwo⟩ : ∃ wo : World, wo = wr := ⟨_, rfl⟩
   go_loopw [13] (fun i wi => ∃ (k : Nat) (ys : List Tri), a ≤ k ∧ k + 1 ≤ ni ∧ i = .int .i64 k ∧ Ride key xs ys a b k ∧ Tris 175 wi g sp ys ∧ Keeps [g] w wi) (fun i _ => ni - (intOf i).toNat)
   case atStart => exact ⟨a, xs, by omega, by omega, rfl, Ride.start, HIr.out, HKr.out⟩
   case round =>
    obtain ⟨k, ys, hk1, hk2, rfl, hR, hI, hK⟩ := hrel
    have hl := hR.turned.len
    have HRd := gI hR
    have HIz := gI hI
    have HKz := gI hK
    by_cases hkk : k + 1 < ni
    ·have hg1 : (k : Int) < (ni : Int) - 1 := by omega
     obtain ⟨d1, d2, d3⟩ := hI.cells (k + 1) (by omega)
     obtain ⟨c1, c2, c3⟩ := hI.cells k (by omega)
     have f1 := hI.fz ((k + 1) * 3)
     have f2 := hI.fz ((k + 1) * 3 + 1)
     have f3 := hI.fz ((k + 1) * 3 + 2)
     have g1 := hI.fz (k * 3)
     have g2 := hI.fz (k * 3 + 1)
     have g3 := hI.fz (k * 3 + 2)
     have hsw := hI.swp k (k + 1) (by omega) (by omega)
     obtain ⟨x1, hx1⟩ : ∃ x, x = ys.getD (k + 1) z0 := ⟨_, rfl⟩
     obtain ⟨x0, hx0⟩ : ∃ x, x = ys.getD k z0 := ⟨_, rfl⟩
     rw [← hx1] at d1 d2 d3 hsw
     rw [← hx0] at c1 c2 c3 hsw
     obtain ⟨p1, p2, p3⟩ := x1
     obtain ⟨q1, q2, q3⟩ := x0
     simp only at d1 d2 d3 c1 c2 c3
     have HSW := gI hsw
     clear hI hK hR hsw hx1 hx0
     go_wp2
     go_region
     go_wp2
     go_roundw
     case rel => exact ⟨k + 1, swp ys k (k + 1), by omega, by omega, by go_num, HRd.out.step hk1 hkk h3 hb HLO.out, Tris.drew HSW.out, ((HKz.out.put3 (b := g) (by simp) (k * 3) (p1, p2, p3)).put3 (b := g) (by simp) ((k + 1) * 3) (q1, q2, q3)).drew⟩
     case measure => simp [intOf]; omega
    ·have hg1 : ¬ ((k : Int) < (ni : Int) - 1) := by omega
     have hg2 : k + 1 = ni := by omega
     have HG := gI hg2
     clear hI hK hR hg2
     go_wp2
     refine bodyPost_ret (results_none rfl _ _ _) rfl ?_
     exact ⟨rfl, ys, HIz.out, HRd.out.turned, HRd.out.done hk1 HG.out h3 HDS.out HLO.out HHI.out, HKz.out⟩
theorem merge_right (g p mb mn : Nat) (gm : Value → Option Value) (key : Tri → Int) (sp : List Value) (xs : List Tri) (c a m : Nat) (w : World) (hE : KeyEnv w p mb mn gm) (hI : Tris 175 w g sp xs)
  (hd : g ∉ [p, mb]) (hr : ∀ x ∈ xs, HasKey gm key x) (hab : a + 1 < m) (hb : m + 1 ≤ xs.length) (hxl : xs.length ≤ 1000000) (hds : Desc key xs a m) :
  Calls Tryz.prog 133 #[.slice (some ⟨g, 0, none⟩) xs.length c, .int .i64 a, .int .i64 m, .int .i64 (m + 1 : Nat), cmpV p] w fun e w' =>
   e = .returned (.tuple #[]) ∧ ∃ ys, Tris 175 w' g sp ys ∧ Turned xs ys a (m + 1) ∧ Desc key ys a (m + 1) ∧ Keeps [g] w w' := by
 have HE := gI hE
 have HI := gI hI
 have HD := gI hd
 have hgp : g ≠ p := fun h => hd (by simp [h])
 have hgm : g ≠ mb := fun h => hd (by simp [h])
 have HR := gI hr
 have HDS := gI hds
 clear hE hI hd hr hds
 obtain ⟨b, hm⟩ : ∃ b, b = m + 1 := ⟨_, rfl⟩
 rw [← hm]
 have hma1 : ((m : Int) - (a : Int) == 1) = false := by simp; omega
 have hma2 : ((b : Int) - (m : Int) == 1) = true := by simp; omega
 have hma3 : m + 1 ≤ b := by omega
 have hma4 : b ≤ m + 1 := by omega
 have hbl : b ≤ xs.length := by omega
 have HM := gI hm
 clear hm
 unfold cmpV
 go_enter Tryz.func133, Tryz.ntmps133
 go_wp2
 go_loopw [14, 15] (fun i j wr => ∃ ni nj : Nat, i = .int .i64 ni ∧ j = .int .i64 nj ∧ a ≤ ni ∧ ni ≤ nj ∧ nj ≤ m ∧ (∀ k, a ≤ k → k < ni → key (xs.getD m z0) ≤ key (xs.getD k z0)) ∧
  (∀ k, nj ≤ k → k < m → key (xs.getD k z0) < key (xs.getD m z0)) ∧ Tris 175 wr g sp xs ∧ Keeps [g] w wr) (fun i j _ => (intOf j).toNat - (intOf i).toNat)
 case atStart => exact ⟨a, m, rfl, rfl, by omega, by omega, by omega, fun k h1 h2 => by omega, fun k h1 h2 => by omega, HI.out, Keeps.refl _ _⟩
 case round =>
  obtain ⟨ni, nj, rfl, rfl, h1, h2, h3, hlo, hhi, hI, hK⟩ := hrel
  have HLO := gI hlo
  have HHI := gI hhi
  have HIr := gI hI
  have HKr := gI hK
  have hEr := HE.out.keep hK (by simp; exact hgp.symm) (by simp; exact hgm.symm)
  have HEr := gI hEr
  clear hlo hhi hI hK hEr
  by_cases hlt : ni < nj
  ·go_upto_region 17 with fail
   obtain ⟨h, hh⟩ : ∃ h : Nat, ((ni : Int) + nj) / 2 = h := ⟨(ni + nj) / 2, by omega⟩
   have hb1 : ni ≤ h := by omega
   have hb2 : h < nj := by omega
   rw [hh]
   clear hh
   obtain ⟨d1, d2, d3⟩ := HIr.out.cells h (by omega)
   obtain ⟨c1, c2, c3⟩ := HIr.out.cells m (by omega)
   have r1 := HR.out (xs.getD h z0) (mem_getD (by omega))
   have r0 := HR.out (xs.getD m z0) (mem_getD (by omega))
   have hup : ∀ k, a ≤ k → k ≤ h → key (xs.getD h z0) ≤ key (xs.getD k z0) := fun k k1 k2 => by
    by_cases e : k = h
    ·rw [e]; exact Int.le_refl _
    ·exact HDS.out k h k1 (by omega) (by omega)
   have hdn : ∀ k, h ≤ k → k < m → key (xs.getD k z0) ≤ key (xs.getD h z0) := fun k k1 k2 => by
    by_cases e : k = h
    ·rw [e]; exact Int.le_refl _
    ·exact HDS.out h k (by omega) (by omega) k2
   have HUP := gI hup
   have HDN := gI hdn
   obtain ⟨x1, hx1⟩ : ∃ x, x = xs.getD h z0 := ⟨_, rfl⟩
   obtain ⟨x0, hx0⟩ : ∃ x, x = xs.getD m z0 := ⟨_, rfl⟩
   rw [← hx1] at d1 d2 d3 r1
   rw [← hx0] at c1 c2 c3 r0
   have HX1 := gI hx1
   have HX0 := gI hx0
   clear hup hdn hx1 hx0
   have cE := fun d os => cmp_regrown p mb _ gm key x0 x1 wr HEr.out r0 r1 d os
   obtain ⟨cv, hcv⟩ : ∃ cv, cv = cmpI (key x1) (key x0) := ⟨_, rfl⟩
   have HCV := gI (show (cv < 0) = (key x1 < key x0) by rw [hcv, cmpI_neg])
   simp only [← hcv] at cE
   clear hcv
   obtain ⟨p1, p2, p3⟩ := x1
   obtain ⟨q1, q2, q3⟩ := x0
   simp only [triv_eq] at d1 d2 d3 c1 c2 c3 cE
   have CE := gI cE
   have D1 := cell_regrown d1
   have D2 := cell_regrown d2
   have D3 := cell_regrown d3
   have C1 := cell_regrown c1
   have C2 := cell_regrown c2
   have C3 := cell_regrown c3
   clear cE d1 d2 d3 c1 c2 c3
   by_cases hc : cv < 0
   ·have hc2 := hc
    rw [HCV.out] at hc2
    have HC := gI hc2
    clear hc2
    refine wp_region_quiet_below (by kernel_rfl) (by kernel_rfl) ?_
    repeat (go_big_quiet_step (exact CE.out _ _))
    refine wpQuiet_nil ?_
    intro _ hw'
    obtain ⟨pq, hw''⟩ := hw'
    subst hw''
    have hk := Keeps.of_below (below_regrown wr pq.d pq.os)
    have HIw := gI (HIr.out.keep hk (by simp))
    have HKw := gI (HKr.out.trans (hk.mono (by simp)))
    clear hk
    generalize grow (redrawn wr pq.d) pq.os = Z at *
    go_wp2
    go_roundw
    case rel =>
     have hk := HC.out
     rw [HX1.out, HX0.out] at hk
     exact ⟨ni, h, rfl, rfl, h1, by omega, by omega, HLO.out, fun k k1 k2 => by have := HDN.out k k1 k2; omega, HIw.out, HKw.out⟩
    case measure => simp [intOf]; omega
   ·have hc2 := hc
    rw [HCV.out] at hc2
    have HC := gI hc2
    clear hc2
    refine wp_region_quiet_below (by kernel_rfl) (by kernel_rfl) ?_
    repeat (go_big_quiet_step (exact CE.out _ _))
    refine wpQuiet_nil ?_
    intro _ hw'
    obtain ⟨pq, hw''⟩ := hw'
    subst hw''
    have hk := Keeps.of_below (below_regrown wr pq.d pq.os)
    have HIw := gI (HIr.out.keep hk (by simp))
    have HKw := gI (HKr.out.trans (hk.mono (by simp)))
    clear hk
    generalize grow (redrawn wr pq.d) pq.os = Z at *
    go_wp2
    go_roundw
    case rel =>
     have hk := HC.out
     rw [HX1.out, HX0.out] at hk
     exact ⟨h + 1, nj, by go_num, rfl, by omega, by omega, h3, fun k k1 k2 => by have := HUP.out k k1 (by omega); omega, HHI.out, HIw.out, HKw.out⟩
    case measure => simp [intOf]; omega
  ·obtain rfl : ni = nj := by omega
   go_wp2
   obtain ⟨wo, hwo⟩ : ∃ wo : World, wo = wr := ⟨_, rfl⟩
   go_loopw [17] (fun i wi => ∃ (k : Nat) (ys : List Tri), ni ≤ k ∧ k ≤ m ∧ i = .int .i64 k ∧ RideB key xs ys a m k ∧ Tris 175 wi g sp ys ∧ Keeps [g] w wi) (fun i _ => (intOf i).toNat)
   case atStart => exact ⟨m, xs, by omega, by omega, rfl, RideB.start, HIr.out, HKr.out⟩
   case round =>
    obtain ⟨k, ys, hk1, hk2, rfl, hR, hI, hK⟩ := hrel
    have hl := hR.turned.len
    have HRd := gI hR
    have HIz := gI hI
    have HKz := gI hK
    by_cases hkk : ni < k
    ·obtain ⟨k, rfl⟩ : ∃ n, k = n + 1 := ⟨k - 1, by omega⟩
     have hg1 : (ni : Int) < (k : Int) + 1 := by omega
     have hg2 : ni ≤ k := by omega
     obtain ⟨d1, d2, d3⟩ := hI.cells (k + 1) (by omega)
     obtain ⟨c1, c2, c3⟩ := hI.cells k (by omega)
     have f1 := hI.fz ((k + 1) * 3)
     have f2 := hI.fz ((k + 1) * 3 + 1)
     have f3 := hI.fz ((k + 1) * 3 + 2)
     have g1 := hI.fz (k * 3)
     have g2 := hI.fz (k * 3 + 1)
     have g3 := hI.fz (k * 3 + 2)
     have hsw := hI.swp (k + 1) k (by omega) (by omega)
     obtain ⟨x1, hx1⟩ : ∃ x, x = ys.getD (k + 1) z0 := ⟨_, rfl⟩
     obtain ⟨x0, hx0⟩ : ∃ x, x = ys.getD k z0 := ⟨_, rfl⟩
     rw [← hx1] at d1 d2 d3 hsw
     rw [← hx0] at c1 c2 c3 hsw
     obtain ⟨p1, p2, p3⟩ := x1
     obtain ⟨q1, q2, q3⟩ := x0
     simp only at d1 d2 d3 c1 c2 c3
     have HSW := gI hsw
     clear hI hK hR hsw hx1 hx0
     go_wp2
     go_region
     go_wp2
     go_roundw
     case rel => exact ⟨k, swp ys (k + 1) k, by omega, by omega, by go_num, HRd.out.step h1 hg2 (by omega) hb HHI.out, Tris.drew HSW.out, ((HKz.out.put3 (b := g) (by simp) ((k + 1) * 3) (q1, q2, q3)).put3 (b := g) (by simp) (k * 3) (p1, p2, p3)).drew⟩
     case measure => simp [intOf]
    ·obtain rfl : k = ni := by omega
     clear hI hK hR
     go_wp2
     refine bodyPost_ret (results_none rfl _ _ _) rfl ?_
     rw [HM.out]
     exact ⟨rfl, ys, HIz.out, HRd.out.turned, HRd.out.done h1 hk2 HDS.out HLO.out HHI.out, HKz.out⟩
theorem merge_any (g p mb mn : Nat) (gm : Value → Option Value) (key : Tri → Int) (sp : List Value) (hd : g ∉ [p, mb]) : ∀ (n : Nat) (xs : List Tri) (c a m b : Nat) (w : World), b ≤ a + n → KeyEnv w p mb mn gm → Tris 175 w g sp xs →
  (∀ x ∈ xs, HasKey gm key x) → a < m → m < b → b ≤ xs.length → xs.length ≤ 1000000 → Desc key xs a m → Desc key xs m b →
  Calls Tryz.prog 133 #[.slice (some ⟨g, 0, none⟩) xs.length c, .int .i64 a, .int .i64 m, .int .i64 b, cmpV p] w fun e w' =>
   e = .returned (.tuple #[]) ∧ ∃ ys, Tris 175 w' g sp ys ∧ Turned xs ys a b ∧ Desc key ys a b ∧ Keeps [g] w w' := by
 intro n
 induction n with
 | zero => intro xs c a m b w hn; intros; omega
 | succ n ih =>
  intro xs c a m b w hn hE hI hr ham hmb hb hxl hd1 hd2
  by_cases hm1 : m = a + 1
  ·subst hm1
   exact merge_left g p mb mn gm key sp xs c a b w hE hI hd hr hmb hb hxl hd2
  by_cases hb1 : b = m + 1
  ·subst hb1
   exact merge_right g p mb mn gm key sp xs c a m w hE hI hd hr (by omega) hb hxl hd1
  have HE := gI hE
  have HI := gI hI
  have HD := gI hd
  have hgp : g ≠ p := fun h => hd (by simp [h])
  have hgm : g ≠ mb := fun h => hd (by simp [h])
  have HR := gI hr
  have HD1 := gI hd1
  have HD2 := gI hd2
  have IH := gI ih
  have hma1 : ((m : Int) - (a : Int) == 1) = false := by simp; omega
  have hma2 : ((b : Int) - (m : Int) == 1) = false := by simp; omega
  obtain ⟨mid, hmd⟩ : ∃ mid, mid = (a + b) / 2 := ⟨_, rfl⟩
  have hmid : ((a : Int) + (b : Int)) / 2 = mid := by omega
  have hmda : a < mid := by omega
  have hmdb : mid < b := by omega
  have HMD := gI hmd
  clear hE hI hd hr hd1 hd2 ih hmd hm1 hb1
  unfold cmpV
  go_enter Tryz.func133, Tryz.ntmps133
  go_upto_if 140 with fail
  go_cut [20, 21] (fun s20 s21 wx => ∃ s0 r0 : Nat, s20 = .int .i64 s0 ∧ s21 = .int .i64 r0 ∧ Srch a m b mid s0 r0 ∧ w = wx)
  case first => as_aux_lemma =>
   by_cases c : mid < m
   ·go_wp2
    go_meet
    exact ⟨mid + m - b, mid, by go_num, rfl, HMD.out ▸ Srch.right ham hmb (by have := HMD.out; omega), rfl⟩
   ·go_wp2
    go_meet
    exact ⟨a, m, rfl, rfl, HMD.out ▸ Srch.left ham hmb (by have := HMD.out; omega), rfl⟩
  case rest =>
   obtain ⟨s0, r0, rfl, rfl, hS, rfl⟩ := hcut
   have s1 := hS.sa
   have s2 := hS.sr
   have s3 := hS.rm
   have s4 := hS.rd
   have s5 := hS.pb
   have HS := gI hS
   clear hS
   go_wp2
   go_loopw [20, 21] (fun i j wr => ∃ ni nj : Nat, i = .int .i64 ni ∧ j = .int .i64 nj ∧ s0 ≤ ni ∧ ni ≤ nj ∧ nj ≤ r0 ∧ (∀ k, s0 ≤ k → k < ni → key (xs.getD (mid + m - 1 - k) z0) ≤ key (xs.getD k z0)) ∧
    (∀ k, nj ≤ k → k < r0 → key (xs.getD k z0) < key (xs.getD (mid + m - 1 - k) z0)) ∧ Tris 175 wr g sp xs ∧ Keeps [g] w wr) (fun i j _ => (intOf j).toNat - (intOf i).toNat)
   case atStart => exact ⟨s0, r0, rfl, rfl, by omega, by omega, by omega, fun k h1 h2 => by omega, fun k h1 h2 => by omega, HI.out, Keeps.refl _ _⟩
   case round =>
    obtain ⟨ni, nj, rfl, rfl, h1, h2, h3, hlo, hhi, hI, hK⟩ := hrel
    have HLO := gI hlo
    have HHI := gI hhi
    have HIr := gI hI
    have HKr := gI hK
    have hEr := HE.out.keep hK (by simp; exact hgp.symm) (by simp; exact hgm.symm)
    have HEr := gI hEr
    clear hlo hhi hI hK hEr
    by_cases hlt : ni < nj
    ·go_upto_region 35 with fail
     obtain ⟨h, hh⟩ : ∃ h : Nat, ((ni : Int) + nj) / 2 = h := ⟨(ni + nj) / 2, by omega⟩
     have hb1 : ni ≤ h := by omega
     have hb2 : h < nj := by omega
     rw [hh]
     clear hh
     obtain ⟨t, ht⟩ : ∃ t, t = mid + m - 1 - h := ⟨_, rfl⟩
     have ht1 : (mid : Int) + m - 1 - h = t := by omega
     have ht2 : t < b := by omega
     have ht3 : t < xs.length := by omega
     obtain ⟨d1, d2, d3⟩ := HIr.out.cells h (by omega)
     obtain ⟨c1, c2, c3⟩ := HIr.out.cells t (by omega)
     have rr1 := HR.out (xs.getD h z0) (mem_getD (by omega))
     have rr0 := HR.out (xs.getD t z0) (mem_getD (by omega))
     obtain ⟨x1, hx1⟩ : ∃ x, x = xs.getD h z0 := ⟨_, rfl⟩
     obtain ⟨x0, hx0⟩ : ∃ x, x = xs.getD t z0 := ⟨_, rfl⟩
     rw [← hx1] at d1 d2 d3 rr1
     rw [← hx0] at c1 c2 c3 rr0
     have HX1 := gI hx1
     have HX0 := gI hx0
     have HT := gI ht
     clear hx1 hx0 ht
     have cE := fun d os => cmp_regrown p mb _ gm key x0 x1 wr HEr.out rr0 rr1 d os
     obtain ⟨cv, hcv⟩ : ∃ cv, cv = cmpI (key x1) (key x0) := ⟨_, rfl⟩
     have HCV := gI (show (cv < 0) = (key x1 < key x0) by rw [hcv, cmpI_neg])
     simp only [← hcv] at cE
     clear hcv
     obtain ⟨p1, p2, p3⟩ := x1
     obtain ⟨q1, q2, q3⟩ := x0
     simp only [triv_eq] at d1 d2 d3 c1 c2 c3 cE
     have CE := gI cE
     have D1 := cell_regrown d1
     have D2 := cell_regrown d2
     have D3 := cell_regrown d3
     have C1 := cell_regrown c1
     have C2 := cell_regrown c2
     have C3 := cell_regrown c3
     clear cE d1 d2 d3 c1 c2 c3
     by_cases hc : cv < 0
     ·have hc2 := hc
      rw [HCV.out] at hc2
      have HC := gI hc2
      clear hc2
      refine wp_region_quiet_below (by kernel_rfl) (by kernel_rfl) ?_
      repeat (go_big_quiet_step (exact CE.out _ _))
      refine wpQuiet_nil ?_
      intro _ hw'
      obtain ⟨pq, hw''⟩ := hw'
      subst hw''
      have hk := Keeps.of_below (below_regrown wr pq.d pq.os)
      have HIw := gI (HIr.out.keep hk (by simp))
      have HKw := gI (HKr.out.trans (hk.mono (by simp)))
      clear hk
      generalize grow (redrawn wr pq.d) pq.os = Z at *
      go_wp2
      go_roundw
      case rel =>
       have hk := HC.out
       rw [HX1.out, HX0.out, HT.out] at hk
       exact ⟨ni, h, rfl, rfl, h1, by omega, by omega, HLO.out, HS.out.dn HD1.out HD2.out h (by omega) (by omega) hk, HIw.out, HKw.out⟩
      case measure => simp [intOf]; omega
     ·have hc2 := hc
      rw [HCV.out] at hc2
      have HC := gI hc2
      clear hc2
      refine wp_region_quiet_below (by kernel_rfl) (by kernel_rfl) ?_
      repeat (go_big_quiet_step (exact CE.out _ _))
      refine wpQuiet_nil ?_
      intro _ hw'
      obtain ⟨pq, hw''⟩ := hw'
      subst hw''
      have hk := Keeps.of_below (below_regrown wr pq.d pq.os)
      have HIw := gI (HIr.out.keep hk (by simp))
      have HKw := gI (HKr.out.trans (hk.mono (by simp)))
      clear hk
      generalize grow (redrawn wr pq.d) pq.os = Z at *
      go_wp2
      go_roundw
      case rel =>
       have hk := HC.out
       rw [HX1.out, HX0.out, HT.out] at hk
       have hup := HS.out.up HD1.out HD2.out h (by omega) (by omega) (by omega)
       exact ⟨h + 1, nj, by go_num, rfl, by omega, by omega, h3, fun k k1 k2 => hup k k1 (by omega), HHI.out, HIw.out, HKw.out⟩
      case measure => simp [intOf]; omega
    ·obtain rfl : ni = nj := by omega
     have hcut := HS.out.cut HD1.out HD2.out ni h1 h3 HLO.out HHI.out
     obtain ⟨en, hen⟩ : ∃ en, en = mid + m - ni := ⟨_, rfl⟩
     have hen1 : (mid : Int) + m - ni = en := by omega
     rw [← hen] at hcut
     have ⟨e1, e2, e3, e4, e5, e6, e7, _, _⟩ := hcut
     have HC := gI hcut
     clear hcut hen
     have hek : ∀ w', Keeps [g] w w' → KeyEnv w' p mb mn gm := fun w' hK => HE.out.keep hK (by simp; exact hgp.symm) (by simp; exact hgm.symm)
     have hrz : ∀ ys : List Tri, ys.Perm xs → ∀ x ∈ ys, HasKey gm key x := fun ys hp x hx => HR.out x (hp.mem_iff.1 hx)
     have HEK := gI hek
     have HRZ := gI hrz
     clear hek hrz HLO HHI HEr
     go_upto_region 39 with fail
     go_cut [24, 185] (fun s24 s185 wx => s24 = .int .i64 en ∧ s185 = .bool (decide (ni < m ∧ m < en)) ∧ wr = wx)
     case first => as_aux_lemma =>
      by_cases c1 : ni < m
      ·by_cases c2 : m < en
       ·go_wp2
        go_meet
        exact ⟨rfl, by simp [c1, c2], rfl⟩
       ·go_wp2
        go_meet
        exact ⟨rfl, by simp [c1, c2], rfl⟩
      ·go_wp2
       go_meet
       exact ⟨rfl, by simp [c1], rfl⟩
     case rest =>
      obtain ⟨rfl, rfl, rfl⟩ := hcut
      go_upto_if 185 with fail
      go_cut [24] (fun s24 wx => s24 = .int .i64 en ∧ ∃ (zs : List Tri) (w5 : World), w5 = wx ∧ Rotd xs zs ni m en ∧ Tris 175 w5 g sp zs ∧ Keeps [g] w w5)
      case first => as_aux_lemma =>
       by_cases cc : ni < m ∧ m < en
       ·have hs := fun fn => rotate_any g _ sp xs c ni m en fn wr HIr.out cc.1 cc.2 (by omega) hxl
        have HSr := gI hs
        have hdc : decide (ni < m ∧ m < en) = true := by simp [cc]
        rw [hdc]
        clear hs cc hdc
        go_wp2_with fail
        refine Calls.mono (HSr.out _) ?_
        rintro e w1 ⟨rfl, zs, hz1, hz2, hz3, hz4, hz5⟩
        have HZ := gI (Rotd.of e4 hz2 hz3 hz4 e2)
        have HI1 := gI hz1
        have HK1 := gI (HKr.out.trans hz5)
        clear hz1 hz2 hz3 hz4 hz5
        go_wp2
        go_meet
        exact ⟨rfl, zs, _, rfl, HZ.out, HI1.out, HK1.out⟩
       ·have HZ := gI (Rotd.same (xs := xs) (st := ni) (m := m) (en := en) (by omega))
        have hdc : decide (ni < m ∧ m < en) = false := by simp; omega
        rw [hdc]
        clear cc hdc
        go_wp2
        go_meet
        exact ⟨rfl, xs, _, rfl, HZ.out, HIr.out, HKr.out⟩
      case rest =>
       obtain ⟨rfl, zs, w5, rfl, hR, hI5, hK5⟩ := hcut
       have HH := gI (HC.out.halves HD1.out HD2.out hR)
       have HZL := gI hR.perm.length_eq
       have HZP := gI hR.perm
       have HI5 := gI hI5
       have HK5 := gI hK5
       clear hR hI5 hK5
       go_upto_region 41 with fail
       go_cut [24, 199] (fun s24 s199 wx => s24 = .int .i64 en ∧ s199 = .bool (decide (a < ni ∧ ni < mid)) ∧ w5 = wx)
       case first => as_aux_lemma =>
        by_cases c1 : a < ni
        ·by_cases c2 : ni < mid
         ·go_wp2
          go_meet
          exact ⟨rfl, by simp [c1, c2], rfl⟩
         ·go_wp2
          go_meet
          exact ⟨rfl, by simp [c1, c2], rfl⟩
        ·go_wp2
         go_meet
         exact ⟨rfl, by simp [c1], rfl⟩
       case rest =>
        obtain ⟨rfl, rfl, rfl⟩ := hcut
        go_upto_if 199 with fail
        go_cut [24] (fun s24 wx => s24 = .int .i64 en ∧ ∃ (y1 : List Tri) (w6 : World), w6 = wx ∧ Turned zs y1 a mid ∧ Desc key y1 a mid ∧ Tris 175 w6 g sp y1 ∧ Keeps [g] w w6)
        case first => as_aux_lemma =>
         by_cases cc : a < ni ∧ ni < mid
         ·have hs := IH.out zs c a ni mid w5 (by omega) (HEK.out _ HK5.out) HI5.out (HRZ.out _ HZP.out) cc.1 cc.2 (by have := HZL.out; omega) (by have := HZL.out; omega) HH.out.d1 HH.out.d2
          rw [HZL.out] at hs
          have HSr := gI hs
          have hdc : decide (a < ni ∧ ni < mid) = true := by simp [cc]
          rw [hdc]
          clear hs cc hdc
          go_wp2_with fail
          refine Calls.mono HSr.out ?_
          rintro e w1 ⟨rfl, y1, hz1, hz2, hz4, hz5⟩
          have HI1 := gI hz1
          have HK1 := gI (HK5.out.trans hz5)
          have H2 := gI hz2
          have H4 := gI hz4
          clear hz1 hz2 hz4 hz5
          go_wp2
          go_meet
          exact ⟨rfl, y1, _, rfl, H2.out, H4.out, HI1.out, HK1.out⟩
         ·have hds : Desc key zs a mid := by
           by_cases e : a = ni
           ·have := HH.out.d2; rwa [← e] at this
           ·have e' : ni = mid := by omega
            have := HH.out.d1; rwa [e'] at this
          have HDZ := gI hds
          have hdc : decide (a < ni ∧ ni < mid) = false := by simp; omega
          rw [hdc]
          clear cc hdc hds
          go_wp2
          go_meet
          exact ⟨rfl, zs, _, rfl, Turned.refl _ _ _, HDZ.out, HI5.out, HK5.out⟩
        case rest =>
         obtain ⟨rfl, y1, w6, rfl, ht1, hds1, hI6, hK6⟩ := hcut
         have HYL := gI (ht1.len.trans HZL.out)
         have HYP := gI (ht1.perm.trans HZP.out)
         have HY3 := gI (ht1.desc HH.out.d3 (.inr (Nat.le_refl _)))
         have HY4 := gI (ht1.desc HH.out.d4 (.inr e6))
         have HT1 := gI ht1
         have HDS1 := gI hds1
         have HI6 := gI hI6
         have HK6 := gI hK6
         clear ht1 hds1 hI6 hK6
         go_upto_region 43 with fail
         go_cut [24, 213] (fun s24 s213 wx => s24 = .int .i64 en ∧ s213 = .bool (decide (mid < en ∧ en < b)) ∧ w6 = wx)
         case first => as_aux_lemma =>
          by_cases c1 : mid < en
          ·by_cases c2 : en < b
           ·go_wp2
            go_meet
            exact ⟨rfl, by simp [c1, c2], rfl⟩
           ·go_wp2
            go_meet
            exact ⟨rfl, by simp [c1, c2], rfl⟩
          ·go_wp2
           go_meet
           exact ⟨rfl, by simp [c1], rfl⟩
         case rest =>
          obtain ⟨rfl, rfl, rfl⟩ := hcut
          by_cases cc : mid < en ∧ en < b
          ·have hs := IH.out y1 c mid en b w6 (by omega) (HEK.out _ HK6.out) HI6.out (HRZ.out _ HYP.out) cc.1 cc.2 (by have := HYL.out; omega) (by have := HYL.out; omega) HY3.out HY4.out
           rw [HYL.out] at hs
           have HSr := gI hs
           have hdc : decide (mid < en ∧ en < b) = true := by simp [cc]
           rw [hdc]
           clear hs cc hdc
           go_wp2_with fail
           refine Calls.mono HSr.out ?_
           rintro e w1 ⟨rfl, y2, hz1, hz2, hz4, hz5⟩
           have HI1 := gI hz1
           have HK1 := gI (HK6.out.trans hz5)
           have HF := gI (HH.out.done (by omega) (by omega) hb HT1.out hz2 HDS1.out hz4)
           clear hz1 hz2 hz4 hz5
           go_wp2
           go_end0
           exact ⟨rfl, y2, HI1.out, HF.out.1, HF.out.2, HK1.out⟩
          ·have hds : Desc key y1 mid b := by
            by_cases e : mid = en
            ·have := HY4.out; rwa [← e] at this
            ·have e' : en = b := by omega
             have := HY3.out; rwa [e'] at this
           have HF := gI (HH.out.done (by omega) (by omega) hb HT1.out (Turned.refl _ _ _) HDS1.out hds)
           have hdc : decide (mid < en ∧ en < b) = false := by simp; omega
           rw [hdc]
           clear cc hdc hds
           go_wp2
           go_end0
           exact ⟨rfl, y1, HI6.out, HF.out.1, HF.out.2, HK6.out⟩
end Go.Proofs.YtkekenaamnhbhaaGreat
