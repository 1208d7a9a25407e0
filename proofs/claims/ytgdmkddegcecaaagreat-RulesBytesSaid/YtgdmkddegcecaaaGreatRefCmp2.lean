/- rexmillref05.Compare over trees in memory. Conditions: the trees lie in memory and are not very big. -/
import Derived.Test.YtgdmkddegcecaaaGreatRefCmp
import Derived.BigQuiet
import Derived.Lib.QuietBelow
namespace Go.Proofs.YtgdmkddegcecaaaGreat
open Go.RowKit Go.Sort Go.BigFrame

theorem lexL_drop (l m : List Int) (k : Nat) (h : k < l.length) (h' : k < m.length) : lexL (l.drop k) (m.drop k) = if l[k] < m[k] then -1 else if m[k] < l[k] then 1 else lexL (l.drop (k + 1)) (m.drop (k + 1)) := by
  rw [List.drop_eq_getElem_cons h, List.drop_eq_getElem_cons h']; rfl
theorem lexL_end (l m : List Int) (k : Nat) (h : ¬ (k < l.length ∧ k < m.length)) : lexL (l.drop k) (m.drop k) = 0 := by
  by_cases h1 : k < l.length
  · rw [List.drop_of_length_le (l := m) (by omega)]
    cases l.drop k <;> rfl
  · rw [List.drop_of_length_le (l := l) (by omega)]; rfl

set_option maxRecDepth 100000 in
set_option maxHeartbeats 8000000 in
theorem rcompare_any (m1 : MRe) : ∀ (m2 : MRe) (w : World), m1.OK w → m2.OK w → m1.tree.bulk ≤ 100000 → m2.tree.bulk ≤ 100000 →
    Calls Tryz.prog 30 #[m1.val, m2.val] w fun e w' => e = .returned (.int .i64 (cmpT m1.tree m2.tree)) ∧ Keeps [] w w' := by
  induction m1 using MRe.induct with
  | h op1 sa1 sc1 set1 ka1 kc1 kids1 mn1 mx1 mode1 n1 neg1 ih =>
    intro m2 w k1 k2 hb1 hb2
    obtain ⟨op2, sa2, sc2, set2, ka2, kc2, kids2, mn2, mx2, mode2, n2, neg2⟩ := m2
    have hcmp := cmpT_eq (MRe.tree (.node op1 sa1 sc1 set1 ka1 kc1 kids1 mn1 mx1 mode1 n1 neg1)) (MRe.tree (.node op2 sa2 sc2 set2 ka2 kc2 kids2 mn2 mx2 mode2 n2 neg2))
    rw [← lexL_nums] at hcmp
    have hk1 : (MRe.tree (.node op1 sa1 sc1 set1 ka1 kc1 kids1 mn1 mx1 mode1 n1 neg1)).kids = MRe.trees kids1 := rfl
    have hk2 : (MRe.tree (.node op2 sa2 sc2 set2 ka2 kc2 kids2 mn2 mx2 mode2 n2 neg2)).kids = MRe.trees kids2 := rfl
    rw [hk1, hk2] at hcmp
    have hlen : lexL (nums (MRe.tree (.node op1 sa1 sc1 set1 ka1 kc1 kids1 mn1 mx1 mode1 n1 neg1))) (nums (MRe.tree (.node op2 sa2 sc2 set2 ka2 kc2 kids2 mn2 mx2 mode2 n2 neg2))) = 0 → kids1.length = kids2.length := fun h => by
      rw [lexL_nums] at h
      have h2 := lexP_zero h (((MRe.tree (.node op1 sa1 sc1 set1 ka1 kc1 kids1 mn1 mx1 mode1 n1 neg1)).kids.length : Int), ((MRe.tree (.node op2 sa2 sc2 set2 ka2 kc2 kids2 mn2 mx2 mode2 n2 neg2)).kids.length : Int)) (by simp [nodeN, pairsN])
      simp only at h2
      rw [hk1, hk2, MRe.trees_length, MRe.trees_length] at h2
      omega
    have O1 := Lib.hid (fun W (h : Keeps [] w W) => rorder_any (.node op1 sa1 sc1 set1 ka1 kc1 kids1 mn1 mx1 mode1 n1 neg1) W (k1.keep h) hb1)
    have O2 := Lib.hid (fun W (h : Keeps [] w W) => rorder_any (.node op2 sa2 sc2 set2 ka2 kc2 kids2 mn2 mx2 mode2 n2 neg2) W (k2.keep h) hb2)
    have hl1 := nums_length (MRe.tree (.node op1 sa1 sc1 set1 ka1 kc1 kids1 mn1 mx1 mode1 n1 neg1))
    have hl2 := nums_length (MRe.tree (.node op2 sa2 sc2 set2 ka2 kc2 kids2 mn2 mx2 mode2 n2 neg2))
    obtain ⟨N1, hN1⟩ : ∃ N, N = nums (MRe.tree (.node op1 sa1 sc1 set1 ka1 kc1 kids1 mn1 mx1 mode1 n1 neg1)) := ⟨_, rfl⟩
    obtain ⟨N2, hN2⟩ : ∃ N, N = nums (MRe.tree (.node op2 sa2 sc2 set2 ka2 kc2 kids2 mn2 mx2 mode2 n2 neg2)) := ⟨_, rfl⟩
    rw [← hN1] at hcmp hlen O1 hl1
    rw [← hN2] at hcmp hlen O2 hl2
    have hs1 : (MRe.tree (.node op1 sa1 sc1 set1 ka1 kc1 kids1 mn1 mx1 mode1 n1 neg1)).set = set1 := rfl
    have hs2 : (MRe.tree (.node op2 sa2 sc2 set2 ka2 kc2 kids2 mn2 mx2 mode2 n2 neg2)).set = set2 := rfl
    rw [hs1] at hl1
    rw [hs2] at hl2
    obtain ⟨hbl1, hbs1, hbm1⟩ := kids_bulk hb1
    obtain ⟨hbl2, hbs2, hbm2⟩ := kids_bulk hb2
    have hp1 : N1.length ≤ 200008 := by omega
    have hp2 : N2.length ≤ 200008 := by omega
    have hq1 : 0 < N1.length := by omega
    have hq2 : 0 < N2.length := by omega
    obtain ⟨q, hq⟩ : ∃ q, q = cmpT (MRe.tree (.node op1 sa1 sc1 set1 ka1 kc1 kids1 mn1 mx1 mode1 n1 neg1)) (MRe.tree (.node op2 sa2 sc2 set2 ka2 kc2 kids2 mn2 mx2 mode2 n2 neg2)) := ⟨_, rfl⟩
    rw [← hq] at hcmp ⊢
    have HCMP := Lib.hid hcmp
    have HLEN := Lib.hid hlen
    have HI := Lib.hid (fun k (hk : k ∈ kids1) k' (hk' : k' ∈ kids2) W (h : Keeps [] w W) => ih k hk k' W ((k1.kid hk).keep h) ((k2.kid hk').keep h) (hbm1 k hk) (hbm2 k' hk'))
    have HK1 := Lib.hid k1.kids
    have HK2 := Lib.hid k2.kids
    have hc1 := k1.nodes.cap
    have hc2 := k2.nodes.cap
    have he1 := k1.nodes.le
    have he2 := k2.nodes.le
    unfold maxLen at hc1 hc2
    have hbx := box2 w (.node op1 sa1 sc1 set1 ka1 kc1 kids1 mn1 mx1 mode1 n1 neg1) (.node op2 sa2 sc2 set2 ka2 kc2 kids2 mn2 mx2 mode2 n2 neg2) 64
    have hkX := Keeps.a2 w (.cells #[.int .i64 op1, .slice sa1 set1.length sc1, .slice ka1 kids1.length kc1, .int .i64 mn1, .int .i64 mx1, .int .i64 mode1, .int .i64 n1, .bool neg1] 64) (.cells #[.int .i64 op2, .slice sa2 set2.length sc2, .slice ka2 kids2.length kc2, .int .i64 mn2, .int .i64 mx2, .int .i64 mode2, .int .i64 n2, .bool neg2] 64)
    obtain ⟨B, hBe⟩ : ∃ B, B = w.heap.size := ⟨_, rfl⟩
    simp only [MRe.row] at hbx
    simp only [MRe.val] at O1 O2 ⊢
    have HBX := Lib.hid hbx
    have HKX := Lib.hid hkX
    clear hcmp hlen hN1 hN2 hs1 hs2 hbm1 hbm2 hq k1 k2 hb1 hb2 ih hk1 hk2 hbx hkX hl1 hl2 hbs1 hbs2
    go_enter Tryz.func30, Tryz.ntmps30
    go_wp2_with fail
    rw [← hBe] at HBX ⊢
    refine Calls.mono (O1.out _ HKX.out) ?_
    rintro e w2 ⟨a1, c1, rfl, hs1, hk2⟩
    have K2 := Lib.hid (HKX.out.trans hk2)
    have KX2 := Lib.hid hk2
    have S1 := Lib.hid hs1
    obtain ⟨y0, y1, y2, y3, y4, y5, y6, y7⟩ := (HBX.out.2.keep hk2).cells0
    simp only [sv]
    clear hk2 hs1 hBe
    go_wp2_with fail
    refine Calls.mono (O2.out _ K2.out) ?_
    rintro e w3 ⟨a2, c2, rfl, hs2, hk3⟩
    have K3 := Lib.hid (K2.out.trans hk3)
    have KX3 := Lib.hid (KX2.out.trans hk3)
    have S1' := Lib.hid (S1.out.keep hk3 (by simp))
    have S2 := Lib.hid hs2
    cases a1 with
    | none => exfalso; have h1 := S1.out.2; have h2 : N1.length = 0 := h1.1; omega
    | some g1 =>
    cases a2 with
    | none => exfalso; have h1 := S2.out.2; have h2 : N2.length = 0 := h1.1; omega
    | some g2 =>
    simp only [sv, Option.map_some]
    clear hk3 hs2 y0 y1 y2 y3 y4 y5 y6 y7 S1
    go_wp2
    go_loopw [7] (fun i wr => ∃ k : Nat, k ≤ N1.length ∧ k ≤ N2.length ∧ i = .int .i64 k ∧ lexL (N1.drop k) (N2.drop k) = lexL N1 N2 ∧ Keeps [] w3 wr) (fun i _ => N1.length - (intOf i).toNat)
    case atStart => exact ⟨0, Nat.zero_le _, Nat.zero_le _, rfl, rfl, Keeps.refl _ _⟩
    case round =>
      obtain ⟨k, hk, hk', rfl, hl, hkp⟩ := hrel
      have HL := Lib.hid hl
      have HKP := Lib.hid hkp
      by_cases hlt : k < N1.length ∧ k < N2.length
      · obtain ⟨hlt1, hlt2⟩ := hlt
        · have c1 := hkp.cell (S1'.out.cell k (by simpa using hlt1)) (by simp)
          have d1 := hkp.cell (S2.out.cell k (by simpa using hlt2)) (by simp)
          rw [List.getElem_map] at c1 d1
          have hd := lexL_drop N1 N2 k hlt1 hlt2
          rw [hl] at hd
          generalize N1[k] = x at *
          generalize N2[k] = y at *
          have hi0 : (0 : Int) ≤ (k : Int) := by omega
          have hi1 : (k : Int) < (N1.length : Int) := by omega
          have hi2 : (k : Int) < (N2.length : Int) := by omega
          by_cases h1 : x < y
          · rw [if_pos h1] at hd
            have HD := Lib.hid hd
            have hcm := HCMP.out
            rw [hd, if_pos (by decide)] at hcm
            have HCM := Lib.hid hcm
            clear hd hl hkp hcm
            go_wp2
            go_quiet (fail)
            go_wp2
            go_ret
            exact ⟨by rw [HCM.out]; rfl, K3.out.trans (HKP.out.drewN _)⟩
          · by_cases h2 : y < x
            · rw [if_neg h1, if_pos h2] at hd
              have hcm := HCMP.out
              rw [hd, if_pos (by decide)] at hcm
              have HCM := Lib.hid hcm
              clear hd hl hkp hcm
              go_wp2
              go_quiet (fail)
              go_wp2
              go_quiet (fail)
              go_wp2
              go_ret
              exact ⟨by rw [HCM.out]; rfl, K3.out.trans (by first | exact (HKP.out.drewN _).drewN _ | exact HKP.out.drewN _)⟩
            · rw [if_neg h1, if_neg h2] at hd
              have HD := Lib.hid hd
              clear hd hl hkp
              go_wp2
              go_quiet (fail)
              go_wp2
              go_quiet (fail)
              go_wp2
              go_roundw
              case rel => exact ⟨k + 1, by omega, by omega, by go_num, HD.out.symm, HKP.out.drewN _⟩
              case measure => simp [intOf]; omega
      · obtain ⟨wo, rfl⟩ : ∃ wo : World, wo = wr := ⟨_, rfl⟩
        have hz : lexL N1 N2 = 0 := by rw [← hl]; exact lexL_end N1 N2 k hlt
        have hl12 := HLEN.out hz
        have hcm := HCMP.out
        rw [hz, if_neg (by simp)] at hcm
        have HCM := Lib.hid hcm
        have HL12 := Lib.hid hl12
        have x2 := (KX3.out.trans hkp).cell (HBX.out.1.cells0.2.2.1) (by simp)
        have HKZ := Lib.hid (K3.out.trans hkp)
        have y2 := (KX3.out.trans hkp).cell (HBX.out.2.cells0.2.2.1) (by simp)
        have hcase : (k < N1.length ∧ ¬ k < N2.length) ∨ ¬ k < N1.length := by omega
        clear hl hkp hcm hl12 hz HCMP HLEN hlt O1 O2
        rcases hcase with ⟨hlt1, hlt2⟩ | hlt1
        all_goals
          go_wp2
          go_loopw [8] (fun i wq => ∃ j : Nat, j ≤ kids1.length ∧ i = .int .i64 j ∧ cmpTs ((MRe.trees kids1).drop j) ((MRe.trees kids2).drop j) = cmpTs (MRe.trees kids1) (MRe.trees kids2) ∧ Keeps [] wo wq) (fun i _ => kids1.length - (intOf i).toNat)
          case atStart => exact ⟨0, Nat.zero_le _, rfl, rfl, Keeps.refl _ _⟩
          case round =>
            obtain ⟨j, hj, rfl, hl, hkp⟩ := hrel
            have HLL := Lib.hid hl
            have HK := Lib.hid hkp
            by_cases hltj : j < kids1.length
            · have hltj2 : j < kids2.length := by rw [← HL12.out]; exact hltj
              have hkk := HKZ.out.trans hkp
              obtain ⟨b, off, rfl, hb, hx⟩ := (HK1.out.keep hkk).nodes.kid (by omega)
              obtain ⟨b', off', rfl, hb', hx'⟩ := (HK2.out.keep hkk).nodes.kid (by omega)
              have u2 := hkp.cell x2 (by simp)
              have v2 := hkp.cell y2 (by simp)
              have HCALL := Lib.hid (fun W (h : Keeps [] wo W) => HI.out kids1[j] (List.getElem_mem hltj) kids2[j] (List.getElem_mem hltj2) W (HKZ.out.trans h))
              have hd : cmpTs (MRe.trees kids1) (MRe.trees kids2) = if cmpT kids1[j].tree kids2[j].tree ≠ 0 then cmpT kids1[j].tree kids2[j].tree else cmpTs ((MRe.trees kids1).drop (j + 1)) ((MRe.trees kids2).drop (j + 1)) := by
                rw [← hl, trees_drop kids1 j hltj, trees_drop kids2 j hltj2, cmpTs]
              obtain ⟨q', hq'⟩ : ∃ q', q' = cmpT kids1[j].tree kids2[j].tree := ⟨_, rfl⟩
              rw [← hq'] at hd HCALL
              have HD := Lib.hid hd
              have hA := hx j hltj
              have hB' := hx' j hltj2
              generalize kids1[j] = ka at *
              generalize kids2[j] = kb at *
              obtain ⟨op3, sa3, sc3, set3, ka3, kc3, kids3, mn3, mx3, mode3, n3, neg3⟩ := ka
              obtain ⟨op4, sa4, sc4, set4, ka4, kc4, kids4, mn4, mx4, mode4, n4, neg4⟩ := kb
              obtain ⟨c0, c1, c2, c3, c4, c5, c6, c7⟩ := hA.cellsO
              obtain ⟨d0, d1, d2, d3, d4, d5, d6, d7⟩ := hB'.cellsO
              simp only [MRe.val] at HCALL
              have cC : ∀ d os, Calls Tryz.prog 30 #[.agg #[.int .i64 op3, .slice sa3 set3.length sc3, .slice ka3 kids3.length kc3, .int .i64 mn3, .int .i64 mx3, .int .i64 mode3, .int .i64 n3, .bool neg3], .agg #[.int .i64 op4, .slice sa4 set4.length sc4, .slice ka4 kids4.length kc4, .int .i64 mn4, .int .i64 mx4, .int .i64 mode4, .int .i64 n4, .bool neg4]] (grow (redrawn wr d) os) fun e w'' => e = .returned (.int .i64 q') ∧ ∃ p : Regrown, w'' = grow (redrawn wr p.d) p.os := fun d os => Calls.regrown_of ((HCALL.out _ (hkp.trans (Keeps.of_below (below_regrown wr d os)))).mono fun e w' ⟨he, hk⟩ => ⟨he, hk.below (Nat.le_refl _)⟩)
              have CC := Lib.hid cC
              have hi0 : (0 : Int) ≤ (j : Int) := by omega
              have hi1 : (j : Int) < (kids1.length : Int) := by omega
              have hi2 : (j : Int) < (kids2.length : Int) := by omega
              clear cC hA hB' hd hq' hkk hx hx' hl HI hkp
              go_wp2
              have p2 := cell_regrown u2
              have r2 := cell_regrown v2
              have s0 := cell_regrown c0
              have s1 := cell_regrown c1
              have s2 := cell_regrown c2
              have s3 := cell_regrown c3
              have s4 := cell_regrown c4
              have s5 := cell_regrown c5
              have s6 := cell_regrown c6
              have s7 := cell_regrown c7
              have t0 := cell_regrown d0
              have t1 := cell_regrown d1
              have t2 := cell_regrown d2
              have t3 := cell_regrown d3
              have t4 := cell_regrown d4
              have t5 := cell_regrown d5
              have t6 := cell_regrown d6
              have t7 := cell_regrown d7
              clear c0 c1 c2 c3 c4 c5 c6 c7 d0 d1 d2 d3 d4 d5 d6 d7 u2 v2
              refine wp_region_quiet_below (by kernel_rfl) (by kernel_rfl) ?_
              repeat (go_big_quiet_step (exact CC.out _ _))
              refine wpQuiet_nil ?_
              intro _ hw'
              obtain ⟨pq, hw''⟩ := hw'
              subst hw''
              have hk := Keeps.of_below (below_regrown wr pq.d pq.os)
              have HK4 := Lib.hid (HK.out.trans hk)
              clear hk p2 r2 s0 s1 s2 s3 s4 s5 s6 s7 t0 t1 t2 t3 t4 t5 t6 t7
              generalize grow (redrawn wr pq.d) pq.os = Y at *
              by_cases hqz : q' = 0
              · have hdd := HD.out
                rw [if_neg (by simp [hqz])] at hdd
                have HDE := Lib.hid hdd
                clear hdd HD
                subst hqz
                go_wp2
                go_roundw
                case rel => exact ⟨j + 1, by omega, by go_num, HDE.out.symm, HK4.out⟩
                case measure => simp [intOf]; omega
              · have hdd := HD.out
                rw [if_pos hqz] at hdd
                have HDD := Lib.hid hdd
                have hqb : (q' != 0) = true := by simp [hqz]
                clear hdd HD
                go_wp2
                go_ret
                exact ⟨by rw [HCM.out, HDD.out]; rfl, HKZ.out.trans HK4.out⟩
            · obtain rfl : j = kids1.length := by omega
              have h0 : cmpTs (MRe.trees kids1) (MRe.trees kids2) = 0 := by rw [← hl, List.drop_of_length_le (by rw [MRe.trees_length]; omega)]; simp [cmpTs]
              have HH0 := Lib.hid h0
              have u2 := hkp.cell x2 (by simp)
              clear hl hkp h0
              go_wp2
              go_ret
              exact ⟨by rw [HCM.out, HH0.out]; rfl, HKZ.out.trans HK.out⟩

end Go.Proofs.YtgdmkddegcecaaaGreat
