/- The walk of MeterArguments: it returns true and leaves old memory as it was. Conditions: the six numbers are int64. -/
import Derived.Test.YtdpmkbiibmjbfaaOps
import Derived.Test.YtdpmkbiibmjbfaaLives
import Derived.Test.YtdpmkbiibmjbfaaRow
namespace Go.Proofs.Ytdpmkbiibmjbfaa
open Go.RowKit

/-- The operations of MeterArguments. -/
def argOps (rule n wt : Int) : List (Int × Int × Int × Int) := [(0, 0, 3, 4), (0, rule, n, 0), (1, rule, n, 0), (2, rule, 0, 0), (1, 0, 3, wt), (2, 0, 0, wt), (0, 0, n, wt)]
theorem argOps_length (rule n wt : Int) : (argOps rule n wt).length = 7 := rfl

set_option maxRecDepth 100000 in
set_option maxHeartbeats 8000000 in
theorem args_walk (rules share period rule n tick : Int) (w : World) :
    Calls Try.prog 8 #[.int .i64 rules, .int .i64 share, .int .i64 period, .int .i64 rule, .int .i64 n, .int .i64 tick] w fun e w' => e = .returned (.bool true) ∧ Keeps [] w w' := by
  obtain ⟨nb, hnb⟩ : ∃ nb, nb = newBad rules share period := ⟨_, rfl⟩
  cases nb with
  | true =>
    have HNB := Lib.hid hnb.symm
    have HRB := Lib.hid ((newBad_iff _ _ _).1 hnb.symm)
    clear hnb
    go_enter Try.func8, Try.ntmps8
    go_wp2_with fail
    refine Calls.mono (new_bad rules share period w HNB.out) ?_
    rintro e w1 ⟨rfl, rfl⟩
    go_wp2_with fail
    refine Calls.mono (rnew_bad rules share period w HRB.out) ?_
    rintro e w1 ⟨rfl, rfl⟩
    go_wp2_with fail
    have HK := Lib.hid (Keeps.refl [] w)
    refine Calls.mono (new_ok 2 7 5 _ (by decide)) ?_
    rintro e v1 ⟨rfl, hM, hk, hs⟩
    have HM := Lib.hid hM
    have HKa := Lib.hid (HK.out.trans hk)
    have hwz := HK.out.size
    clear hM hk HK
    go_wp2_with fail
    refine Calls.mono (rnew_ok 2 7 5 v1 (by unfold rnewBad; omega)) ?_
    rintro e v2 ⟨rfl, hR, hk2, hs2⟩
    have HP := Lib.hid (pair_new HM.out (by omega) hs hR hk2)
    have HK := Lib.hid (HKa.out.trans hk2)
    clear hR hk2
    have hB2 := And.intro hwz hs
    obtain ⟨mb2, hmb⟩ : ∃ mb, mb = w.heap.size + 1 := ⟨_, rfl⟩
    obtain ⟨rb2, hrb⟩ : ∃ rb, rb = v1.heap.size := ⟨_, rfl⟩
    obtain ⟨mu2, hmu⟩ : ∃ mu, mu = w.heap.size := ⟨_, rfl⟩
    rw [← hmb, ← hrb] at HP ⊢
    rw [← hmu] at HP
    have HB2 := Lib.hid (show w.heap.size ≤ mb2 ∧ w.heap.size ≤ mu2 ∧ w.heap.size ≤ rb2 by omega)
    clear hmb hrb hmu HM HKa hs2 hs hwz hB2
    go_wp2
    have hsl : SliceAt (v2.alloc (.cells (flat4 (argOps rule n (wrap64 (tick - 4)))).toArray 41)) 41 4 (some v2.heap.size) 7 7 (flat4 (argOps rule n (wrap64 (tick - 4)))) :=
      SliceAt.of_row (size := 4) (c := 7) (cur := (flat4 (argOps rule n (wrap64 (tick - 4)))).toArray) (heap_alloc_new _ _) (by simp [flat4_length, argOps]) (by decide)
    have hkA := HK.out.alloc (.cells (flat4 (argOps rule n (wrap64 (tick - 4)))).toArray 41)
    have hPA := HP.out.keep ((Keeps.refl [] v2).alloc (.cells (flat4 (argOps rule n (wrap64 (tick - 4)))).toArray 41)) (by simp) (by simp) (by simp) (by simp)
    have HGO := Lib.hid (show v2.heap.size ≠ mb2 ∧ v2.heap.size ≠ mu2 ∧ v2.heap.size ≠ rb2 from ⟨by have := lt_of_block HP.out.m.cells; omega, by have := lt_of_block HP.out.m.us; omega, by have := lt_of_block HP.out.r.cells; omega⟩)
    have hgw : w.heap.size ≤ v2.heap.size := HK.out.size
    have HSL := Lib.hid hsl
    have HKA := Lib.hid hkA
    have HPA := Lib.hid hPA
    clear hsl hkA hPA HP HK
    obtain ⟨go, hgo⟩ : ∃ go, go = v2.heap.size := ⟨_, rfl⟩
    have hgo1 : go < (v2.alloc (.cells (flat4 (argOps rule n (wrap64 (tick - 4)))).toArray 41)).heap.size := by simp; omega
    have HGO1 := Lib.hid hgo1
    rw [← hgo] at HSL HGO hgw ⊢
    clear hgo hgo1
    go_loopw [23] (fun i wr => ∃ (k : Nat) (tk : Int) (us : List Int) (a : Option Nat) (c : Nat) (L : List (Int × Int × Int)), k ≤ 7 ∧ i = .int .i64 k ∧ Pair wr mb2 mu2 rb2 7 5 tk us a c L ∧ us.length = 2 ∧ L.length ≤ k ∧ SliceAt wr 41 4 (some go) 7 7 (flat4 (argOps rule n (wrap64 (tick - 4)))) ∧ Keeps [] w wr ∧ (∀ g, a = some g → w.heap.size ≤ g ∧ g ≠ go)) (fun i _ => 7 - (intOf i).toNat)
    case atStart => exact ⟨0, 0, _, none, 0, [], by omega, rfl, HPA.out, rfl, by simp, HSL.out, HKA.out, by simp⟩
    case round =>
      obtain ⟨k, tk, us, a, c, L, hk, rfl, hP, hul, hLl, hsl, hkp, ha⟩ := hrel
      have HP := Lib.hid hP
      have HUL := Lib.hid hul
      have HSL := Lib.hid hsl
      have HK := Lib.hid hkp
      have HA := Lib.hid ha
      clear hP hul hsl hkp ha
      by_cases hlt : k < 7
      · obtain ⟨d0, d1, d2, d3⟩ := ops_cells HSL.out k (by rw [argOps_length]; exact hlt)
        generalize (argOps rule n (wrap64 (tick - 4)))[k].1 = kd at *
        generalize (argOps rule n (wrap64 (tick - 4)))[k].2.1 = rl at *
        generalize (argOps rule n (wrap64 (tick - 4)))[k].2.2.1 = nn at *
        generalize (argOps rule n (wrap64 (tick - 4)))[k].2.2.2 = wt at *
        go_wp2_with fail
        refine Calls.mono (step_any mb2 mu2 rb2 7 5 tk us a c L kd rl nn wt _ HP.out (by omega)) ?_
        rintro e w2 ⟨rfl, tk2, us2, a2, c2, L2, hP2, hu2, hL2, hk2, ha2⟩
        have HP2 := Lib.hid hP2
        have hgl := HSL.out.lt
        have HSL2 := Lib.hid (HSL.out.keep hk2 (by
          intro g hg
          simp at hg
          subst hg
          simp
          exact ⟨HGO.out.1, HGO.out.2.1, HGO.out.2.2, fun h => (HA.out _ h).2 rfl⟩))
        have HK2 := Lib.hid (HK.out.after hk2 (by
          intro x hx
          simp at hx
          right
          rcases hx with rfl | rfl | rfl | hx
          · exact HB2.out.1
          · exact HB2.out.2.1
          · exact HB2.out.2.2
          · exact (HA.out x hx).1))
        have HU2 := Lib.hid (hu2.trans HUL.out)
        have HA2 := Lib.hid (show ∀ g, a2 = some g → w.heap.size ≤ g ∧ g ≠ go from by
          intro g hg
          rcases ha2 with rfl | ⟨g', rfl, hg'⟩
          · exact HA.out g hg
          · simp at hg; have := HK.out.size; omega)
        clear hP2 hu2 hk2 ha2 d0 d1 d2 d3
        go_wp2
        go_roundw
        case rel => exact ⟨k + 1, tk2, us2, a2, c2, L2, by omega, by go_num, HP2.out, HU2.out, by omega, HSL2.out, HK2.out, HA2.out⟩
        case measure => simp [intOf]; omega
      · obtain rfl : k = 7 := by omega
        go_wp2_with fail
        refine Calls.mono (used_any mb2 mu2 7 5 tk us _ HP.out.m) ?_
        rintro e w2 ⟨rfl, hI2, hk2, hs2⟩
        have HI2 := Lib.hid hI2
        have HP2 := Lib.hid (HP.out.keep hk2 (by simp) (by simp) (by simp) (by simp))
        have HK2 := Lib.hid (HK.out.trans hk2)
        clear hI2 hk2
        go_wp2_with fail
        refine Calls.mono (rused_any rb2 us.length 7 5 tk a c L _ HP2.out.r) ?_
        rintro e w3 ⟨a', c', rfl, hS3, hk3, ha3⟩
        rw [pair_used HP2.out] at hS3
        have HS3 := Lib.hid hS3
        have HI3 := Lib.hid (HI2.out.keep hk3 (by simp))
        have HK3 := Lib.hid (HK2.out.trans hk3)
        clear hS3 hk3 ha3
        go_wp2_with fail
        have hul : us.length ≤ 1000000000000 := by rw [HUL.out]; omega
        refine Calls.mono (same_any (some ⟨wr.heap.size, 0, none⟩) (a'.map fun g => ⟨g, 0, none⟩) us.length c' us us w3 HI3.out.to_in HS3.out.to_in hul hul) ?_
        rintro e w4 ⟨rfl, q, rfl⟩
        simp only [decide_true]
        go_wp2_with fail
        refine Calls.mono (lives_any _) ?_
        rintro e w4 ⟨rfl, hk4⟩
        have HK4 := Lib.hid ((HK3.out.drewN q).trans hk4)
        clear hk4
        go_wp2
        go_ret
        exact ⟨rfl, HK4.out⟩
  | false =>
    have HNB := Lib.hid hnb.symm
    have HRB := Lib.hid (show ¬ rnewBad rules share period from fun h => by have := (newBad_iff rules share period).2 h; rw [← hnb] at this; exact Bool.noConfusion this)
    have hru : 1 ≤ rules ∧ rules ≤ 500 := by have := HRB.out; unfold rnewBad at this; omega
    obtain ⟨hru0, hru1⟩ := hru
    clear hnb
    go_enter Try.func8, Try.ntmps8
    go_wp2_with fail
    refine Calls.mono (new_ok rules share period w HNB.out) ?_
    rintro e w1 ⟨rfl, hM1, hk1, hs1⟩
    have HM1 := Lib.hid hM1
    have HK1 := Lib.hid hk1
    clear hM1 hk1
    go_wp2_with fail
    refine Calls.mono (rnew_ok rules share period w1 HRB.out) ?_
    rintro e w2 ⟨rfl, hR2, hk2, hs2⟩
    have HP := Lib.hid (pair_new HM1.out (by omega) hs1 hR2 hk2)
    have HK := Lib.hid (HK1.out.trans hk2)
    have hln : (List.replicate rules.toNat (0 : Int)).length = rules.toNat := by simp
    obtain ⟨us, hus⟩ : ∃ us, us = List.replicate rules.toNat (0 : Int) := ⟨_, rfl⟩
    rw [← hus] at HP hln
    have HLN := Lib.hid hln
    clear hR2 hk2 hus hln
    have hz : w.heap.size + 1 < w1.heap.size := by omega
    obtain ⟨mb, hmb⟩ : ∃ mb, mb = w.heap.size + 1 := ⟨_, rfl⟩
    obtain ⟨rb, hrb⟩ : ∃ rb, rb = w1.heap.size := ⟨_, rfl⟩
    obtain ⟨mu, hmu⟩ : ∃ mu, mu = w.heap.size := ⟨_, rfl⟩
    rw [← hmb, ← hrb] at HP ⊢
    rw [← hmu] at HP
    have HB := Lib.hid (show w.heap.size ≤ mb ∧ w.heap.size ≤ mu ∧ w.heap.size ≤ rb by omega)
    clear hmb hrb hmu HM1 HK1
    have hru2 : ((rules.toNat : Int) != rules) = false := by simp; omega
    by_cases hw : wrongF 0 us.length rule n tick = 0
    · obtain ⟨hr0, hr1, hn0, hn1, ht0, ht1, htt⟩ := wrongF_zero hw
      have htk := take_ok mb mu share period 0 us rule n tick w2 HP.out.m hw
      have hx := HP.out.at' tick htt rule hr0 hr1
      have hub := usedAt_bd HP.out.m tick rule.toNat
      have hln := usedAt_length period 0 tick us
      obtain ⟨u, hu⟩ : ∃ u, u = (usedAt period 0 tick us)[rule.toNat]?.getD 0 := ⟨_, rfl⟩
      rw [← hu] at htk hx hub
      obtain ⟨v, hv⟩ : ∃ v, v = min n (share - u) := ⟨_, rfl⟩
      rw [← hv] at htk
      have hln2 : ((usedAt period 0 tick us).set rule.toNat (u + v)).length = rules.toNat := by rw [List.length_set, hln, HLN.out]
      generalize (usedAt period 0 tick us).set rule.toNat (u + v) = us2 at *
      have hrt := fun w' hr => rtake_ok rb us.length share period 0 none 0 [] rule n tick w' hr (by rw [checkF_eq]; exact hw) (by simp) u v hx hub.1 hub.2 hv.symm
      have HTK := Lib.hid htk
      have HRT := Lib.hid hrt
      have HLN2 := Lib.hid hln2
      clear htk hrt hw hx hub hln hu hv hln2
      go_wp2_with fail
      refine Calls.mono HTK.out ?_
      rintro e w3 ⟨rfl, hM3, hk3⟩
      have HM3 := Lib.hid hM3
      have HR3 := Lib.hid (HP.out.r.keep hk3 (by simp; exact ⟨HP.out.n1, HP.out.n2⟩) (by simp))
      have HK3 := Lib.hid (HK.out.after hk3 (by simp; exact ⟨HB.out.1, HB.out.2.1⟩))
      clear hM3 hk3
      go_wp2_with fail
      refine Calls.mono (HRT.out _ HR3.out) ?_
      rintro e w4 ⟨rfl, a', c', hR4, hk4, ha4⟩
      have HM4 := Lib.hid (HM3.out.keep hk4 (by simp; exact Ne.symm HP.out.n1) (by simp; exact Ne.symm HP.out.n2))
      have HK4 := Lib.hid (HK3.out.after hk4 (by simp; exact HB.out.2.2))
      clear hR4 hk4 ha4 HM3 HR3 HK3
      go_wp2_with fail
      refine Calls.mono (used_any mb mu share period tick us2 _ HM4.out) ?_
      rintro e w3 ⟨rfl, hI3, hk3, hs3⟩
      rw [HLN2.out]
      have HK3 := Lib.hid (HK4.out.trans hk3)
      clear HK hI3 hk3
      have HK := Lib.hid HK3.out
      clear HK3 HTK HRT HM4 HK4
      go_wp2_with fail
      refine Calls.mono (new_ok 2 7 5 _ (by decide)) ?_
      rintro e v1 ⟨rfl, hM, hk, hs⟩
      have HM := Lib.hid hM
      have HKa := Lib.hid (HK.out.trans hk)
      have hwz := HK.out.size
      clear hM hk HK
      go_wp2_with fail
      refine Calls.mono (rnew_ok 2 7 5 v1 (by unfold rnewBad; omega)) ?_
      rintro e v2 ⟨rfl, hR, hk2, hs2⟩
      have HP := Lib.hid (pair_new HM.out (by omega) hs hR hk2)
      have HK := Lib.hid (HKa.out.trans hk2)
      clear hR hk2
      have hB2 := And.intro hwz hs
      obtain ⟨mb2, hmb⟩ : ∃ mb, mb = w3.heap.size + 1 := ⟨_, rfl⟩
      obtain ⟨rb2, hrb⟩ : ∃ rb, rb = v1.heap.size := ⟨_, rfl⟩
      obtain ⟨mu2, hmu⟩ : ∃ mu, mu = w3.heap.size := ⟨_, rfl⟩
      rw [← hmb, ← hrb] at HP ⊢
      rw [← hmu] at HP
      have HB2 := Lib.hid (show w.heap.size ≤ mb2 ∧ w.heap.size ≤ mu2 ∧ w.heap.size ≤ rb2 by omega)
      clear hmb hrb hmu HM HKa hs2 hs hwz hB2
      go_wp2
      have hsl : SliceAt (v2.alloc (.cells (flat4 (argOps rule n (tick - 4))).toArray 41)) 41 4 (some v2.heap.size) 7 7 (flat4 (argOps rule n (tick - 4))) :=
        SliceAt.of_row (size := 4) (c := 7) (cur := (flat4 (argOps rule n (tick - 4))).toArray) (heap_alloc_new _ _) (by simp [flat4_length, argOps]) (by decide)
      have hkA := HK.out.alloc (.cells (flat4 (argOps rule n (tick - 4))).toArray 41)
      have hPA := HP.out.keep ((Keeps.refl [] v2).alloc (.cells (flat4 (argOps rule n (tick - 4))).toArray 41)) (by simp) (by simp) (by simp) (by simp)
      have HGO := Lib.hid (show v2.heap.size ≠ mb2 ∧ v2.heap.size ≠ mu2 ∧ v2.heap.size ≠ rb2 from ⟨by have := lt_of_block HP.out.m.cells; omega, by have := lt_of_block HP.out.m.us; omega, by have := lt_of_block HP.out.r.cells; omega⟩)
      have hgw : w.heap.size ≤ v2.heap.size := HK.out.size
      have HSL := Lib.hid hsl
      have HKA := Lib.hid hkA
      have HPA := Lib.hid hPA
      clear hsl hkA hPA HP HK
      obtain ⟨go, hgo⟩ : ∃ go, go = v2.heap.size := ⟨_, rfl⟩
      have hgo1 : go < (v2.alloc (.cells (flat4 (argOps rule n (tick - 4))).toArray 41)).heap.size := by simp; omega
      have HGO1 := Lib.hid hgo1
      rw [← hgo] at HSL HGO hgw ⊢
      clear hgo hgo1
      go_loopw [23] (fun i wr => ∃ (k : Nat) (tk : Int) (us : List Int) (a : Option Nat) (c : Nat) (L : List (Int × Int × Int)), k ≤ 7 ∧ i = .int .i64 k ∧ Pair wr mb2 mu2 rb2 7 5 tk us a c L ∧ us.length = 2 ∧ L.length ≤ k ∧ SliceAt wr 41 4 (some go) 7 7 (flat4 (argOps rule n (tick - 4))) ∧ Keeps [] w wr ∧ (∀ g, a = some g → w.heap.size ≤ g ∧ g ≠ go)) (fun i _ => 7 - (intOf i).toNat)
      case atStart => exact ⟨0, 0, _, none, 0, [], by omega, rfl, HPA.out, rfl, by simp, HSL.out, HKA.out, by simp⟩
      case round =>
        obtain ⟨k, tk, us, a, c, L, hk, rfl, hP, hul, hLl, hsl, hkp, ha⟩ := hrel
        have HP := Lib.hid hP
        have HUL := Lib.hid hul
        have HSL := Lib.hid hsl
        have HK := Lib.hid hkp
        have HA := Lib.hid ha
        clear hP hul hsl hkp ha
        by_cases hlt : k < 7
        · obtain ⟨d0, d1, d2, d3⟩ := ops_cells HSL.out k (by rw [argOps_length]; exact hlt)
          generalize (argOps rule n (tick - 4))[k].1 = kd at *
          generalize (argOps rule n (tick - 4))[k].2.1 = rl at *
          generalize (argOps rule n (tick - 4))[k].2.2.1 = nn at *
          generalize (argOps rule n (tick - 4))[k].2.2.2 = wt at *
          go_wp2_with fail
          refine Calls.mono (step_any mb2 mu2 rb2 7 5 tk us a c L kd rl nn wt _ HP.out (by omega)) ?_
          rintro e w2 ⟨rfl, tk2, us2, a2, c2, L2, hP2, hu2, hL2, hk2, ha2⟩
          have HP2 := Lib.hid hP2
          have hgl := HSL.out.lt
          have HSL2 := Lib.hid (HSL.out.keep hk2 (by
            intro g hg
            simp at hg
            subst hg
            simp
            exact ⟨HGO.out.1, HGO.out.2.1, HGO.out.2.2, fun h => (HA.out _ h).2 rfl⟩))
          have HK2 := Lib.hid (HK.out.after hk2 (by
            intro x hx
            simp at hx
            right
            rcases hx with rfl | rfl | rfl | hx
            · exact HB2.out.1
            · exact HB2.out.2.1
            · exact HB2.out.2.2
            · exact (HA.out x hx).1))
          have HU2 := Lib.hid (hu2.trans HUL.out)
          have HA2 := Lib.hid (show ∀ g, a2 = some g → w.heap.size ≤ g ∧ g ≠ go from by
            intro g hg
            rcases ha2 with rfl | ⟨g', rfl, hg'⟩
            · exact HA.out g hg
            · simp at hg; have := HK.out.size; omega)
          clear hP2 hu2 hk2 ha2 d0 d1 d2 d3
          go_wp2
          go_roundw
          case rel => exact ⟨k + 1, tk2, us2, a2, c2, L2, by omega, by go_num, HP2.out, HU2.out, by omega, HSL2.out, HK2.out, HA2.out⟩
          case measure => simp [intOf]; omega
        · obtain rfl : k = 7 := by omega
          go_wp2_with fail
          refine Calls.mono (used_any mb2 mu2 7 5 tk us _ HP.out.m) ?_
          rintro e w2 ⟨rfl, hI2, hk2, hs2⟩
          have HI2 := Lib.hid hI2
          have HP2 := Lib.hid (HP.out.keep hk2 (by simp) (by simp) (by simp) (by simp))
          have HK2 := Lib.hid (HK.out.trans hk2)
          clear hI2 hk2
          go_wp2_with fail
          refine Calls.mono (rused_any rb2 us.length 7 5 tk a c L _ HP2.out.r) ?_
          rintro e w3 ⟨a', c', rfl, hS3, hk3, ha3⟩
          rw [pair_used HP2.out] at hS3
          have HS3 := Lib.hid hS3
          have HI3 := Lib.hid (HI2.out.keep hk3 (by simp))
          have HK3 := Lib.hid (HK2.out.trans hk3)
          clear hS3 hk3 ha3
          go_wp2_with fail
          have hul : us.length ≤ 1000000000000 := by rw [HUL.out]; omega
          refine Calls.mono (same_any (some ⟨wr.heap.size, 0, none⟩) (a'.map fun g => ⟨g, 0, none⟩) us.length c' us us w3 HI3.out.to_in HS3.out.to_in hul hul) ?_
          rintro e w4 ⟨rfl, q, rfl⟩
          simp only [decide_true]
          go_wp2_with fail
          refine Calls.mono (lives_any _) ?_
          rintro e w4 ⟨rfl, hk4⟩
          have HK4 := Lib.hid ((HK3.out.drewN q).trans hk4)
          clear hk4
          go_wp2
          go_ret
          exact ⟨rfl, HK4.out⟩
    · have htk := take_bad mb mu share period 0 us rule n tick w2 HP.out.m hw
      have hrt := rtake_bad rb us.length share period 0 none 0 [] rule n tick w2 HP.out.r (by rw [checkF_eq]; exact hw)
      rw [checkF_eq] at hrt
      obtain ⟨er, her⟩ : ∃ er, er = wrongF 0 us.length rule n tick := ⟨_, rfl⟩
      rw [← her] at htk hrt
      have HTK := Lib.hid htk
      have HRT := Lib.hid hrt
      clear htk hrt her hw
      go_wp2_with fail
      refine Calls.mono HTK.out ?_
      rintro e w3 ⟨rfl, rfl⟩
      go_wp2_with fail
      refine Calls.mono HRT.out ?_
      rintro e w3 ⟨rfl, rfl⟩
      go_wp2_with fail
      refine Calls.mono (used_any mb mu share period 0 us _ HP.out.m) ?_
      rintro e w3 ⟨rfl, hI3, hk3, hs3⟩
      rw [HLN.out]
      have HK3 := Lib.hid (HK.out.trans hk3)
      clear HK hI3 hk3
      have HK := Lib.hid HK3.out
      clear HK3 HTK HRT
      go_wp2_with fail
      refine Calls.mono (new_ok 2 7 5 _ (by decide)) ?_
      rintro e v1 ⟨rfl, hM, hk, hs⟩
      have HM := Lib.hid hM
      have HKa := Lib.hid (HK.out.trans hk)
      have hwz := HK.out.size
      clear hM hk HK
      go_wp2_with fail
      refine Calls.mono (rnew_ok 2 7 5 v1 (by unfold rnewBad; omega)) ?_
      rintro e v2 ⟨rfl, hR, hk2, hs2⟩
      have HP := Lib.hid (pair_new HM.out (by omega) hs hR hk2)
      have HK := Lib.hid (HKa.out.trans hk2)
      clear hR hk2
      have hB2 := And.intro hwz hs
      obtain ⟨mb2, hmb⟩ : ∃ mb, mb = w3.heap.size + 1 := ⟨_, rfl⟩
      obtain ⟨rb2, hrb⟩ : ∃ rb, rb = v1.heap.size := ⟨_, rfl⟩
      obtain ⟨mu2, hmu⟩ : ∃ mu, mu = w3.heap.size := ⟨_, rfl⟩
      rw [← hmb, ← hrb] at HP ⊢
      rw [← hmu] at HP
      have HB2 := Lib.hid (show w.heap.size ≤ mb2 ∧ w.heap.size ≤ mu2 ∧ w.heap.size ≤ rb2 by omega)
      clear hmb hrb hmu HM HKa hs2 hs hwz hB2
      go_wp2
      have hsl : SliceAt (v2.alloc (.cells (flat4 (argOps rule n (wrap64 (tick - 4)))).toArray 41)) 41 4 (some v2.heap.size) 7 7 (flat4 (argOps rule n (wrap64 (tick - 4)))) :=
        SliceAt.of_row (size := 4) (c := 7) (cur := (flat4 (argOps rule n (wrap64 (tick - 4)))).toArray) (heap_alloc_new _ _) (by simp [flat4_length, argOps]) (by decide)
      have hkA := HK.out.alloc (.cells (flat4 (argOps rule n (wrap64 (tick - 4)))).toArray 41)
      have hPA := HP.out.keep ((Keeps.refl [] v2).alloc (.cells (flat4 (argOps rule n (wrap64 (tick - 4)))).toArray 41)) (by simp) (by simp) (by simp) (by simp)
      have HGO := Lib.hid (show v2.heap.size ≠ mb2 ∧ v2.heap.size ≠ mu2 ∧ v2.heap.size ≠ rb2 from ⟨by have := lt_of_block HP.out.m.cells; omega, by have := lt_of_block HP.out.m.us; omega, by have := lt_of_block HP.out.r.cells; omega⟩)
      have hgw : w.heap.size ≤ v2.heap.size := HK.out.size
      have HSL := Lib.hid hsl
      have HKA := Lib.hid hkA
      have HPA := Lib.hid hPA
      clear hsl hkA hPA HP HK
      obtain ⟨go, hgo⟩ : ∃ go, go = v2.heap.size := ⟨_, rfl⟩
      have hgo1 : go < (v2.alloc (.cells (flat4 (argOps rule n (wrap64 (tick - 4)))).toArray 41)).heap.size := by simp; omega
      have HGO1 := Lib.hid hgo1
      rw [← hgo] at HSL HGO hgw ⊢
      clear hgo hgo1
      go_loopw [23] (fun i wr => ∃ (k : Nat) (tk : Int) (us : List Int) (a : Option Nat) (c : Nat) (L : List (Int × Int × Int)), k ≤ 7 ∧ i = .int .i64 k ∧ Pair wr mb2 mu2 rb2 7 5 tk us a c L ∧ us.length = 2 ∧ L.length ≤ k ∧ SliceAt wr 41 4 (some go) 7 7 (flat4 (argOps rule n (wrap64 (tick - 4)))) ∧ Keeps [] w wr ∧ (∀ g, a = some g → w.heap.size ≤ g ∧ g ≠ go)) (fun i _ => 7 - (intOf i).toNat)
      case atStart => exact ⟨0, 0, _, none, 0, [], by omega, rfl, HPA.out, rfl, by simp, HSL.out, HKA.out, by simp⟩
      case round =>
        obtain ⟨k, tk, us, a, c, L, hk, rfl, hP, hul, hLl, hsl, hkp, ha⟩ := hrel
        have HP := Lib.hid hP
        have HUL := Lib.hid hul
        have HSL := Lib.hid hsl
        have HK := Lib.hid hkp
        have HA := Lib.hid ha
        clear hP hul hsl hkp ha
        by_cases hlt : k < 7
        · obtain ⟨d0, d1, d2, d3⟩ := ops_cells HSL.out k (by rw [argOps_length]; exact hlt)
          generalize (argOps rule n (wrap64 (tick - 4)))[k].1 = kd at *
          generalize (argOps rule n (wrap64 (tick - 4)))[k].2.1 = rl at *
          generalize (argOps rule n (wrap64 (tick - 4)))[k].2.2.1 = nn at *
          generalize (argOps rule n (wrap64 (tick - 4)))[k].2.2.2 = wt at *
          go_wp2_with fail
          refine Calls.mono (step_any mb2 mu2 rb2 7 5 tk us a c L kd rl nn wt _ HP.out (by omega)) ?_
          rintro e w2 ⟨rfl, tk2, us2, a2, c2, L2, hP2, hu2, hL2, hk2, ha2⟩
          have HP2 := Lib.hid hP2
          have hgl := HSL.out.lt
          have HSL2 := Lib.hid (HSL.out.keep hk2 (by
            intro g hg
            simp at hg
            subst hg
            simp
            exact ⟨HGO.out.1, HGO.out.2.1, HGO.out.2.2, fun h => (HA.out _ h).2 rfl⟩))
          have HK2 := Lib.hid (HK.out.after hk2 (by
            intro x hx
            simp at hx
            right
            rcases hx with rfl | rfl | rfl | hx
            · exact HB2.out.1
            · exact HB2.out.2.1
            · exact HB2.out.2.2
            · exact (HA.out x hx).1))
          have HU2 := Lib.hid (hu2.trans HUL.out)
          have HA2 := Lib.hid (show ∀ g, a2 = some g → w.heap.size ≤ g ∧ g ≠ go from by
            intro g hg
            rcases ha2 with rfl | ⟨g', rfl, hg'⟩
            · exact HA.out g hg
            · simp at hg; have := HK.out.size; omega)
          clear hP2 hu2 hk2 ha2 d0 d1 d2 d3
          go_wp2
          go_roundw
          case rel => exact ⟨k + 1, tk2, us2, a2, c2, L2, by omega, by go_num, HP2.out, HU2.out, by omega, HSL2.out, HK2.out, HA2.out⟩
          case measure => simp [intOf]; omega
        · obtain rfl : k = 7 := by omega
          go_wp2_with fail
          refine Calls.mono (used_any mb2 mu2 7 5 tk us _ HP.out.m) ?_
          rintro e w2 ⟨rfl, hI2, hk2, hs2⟩
          have HI2 := Lib.hid hI2
          have HP2 := Lib.hid (HP.out.keep hk2 (by simp) (by simp) (by simp) (by simp))
          have HK2 := Lib.hid (HK.out.trans hk2)
          clear hI2 hk2
          go_wp2_with fail
          refine Calls.mono (rused_any rb2 us.length 7 5 tk a c L _ HP2.out.r) ?_
          rintro e w3 ⟨a', c', rfl, hS3, hk3, ha3⟩
          rw [pair_used HP2.out] at hS3
          have HS3 := Lib.hid hS3
          have HI3 := Lib.hid (HI2.out.keep hk3 (by simp))
          have HK3 := Lib.hid (HK2.out.trans hk3)
          clear hS3 hk3 ha3
          go_wp2_with fail
          have hul : us.length ≤ 1000000000000 := by rw [HUL.out]; omega
          refine Calls.mono (same_any (some ⟨wr.heap.size, 0, none⟩) (a'.map fun g => ⟨g, 0, none⟩) us.length c' us us w3 HI3.out.to_in HS3.out.to_in hul hul) ?_
          rintro e w4 ⟨rfl, q, rfl⟩
          simp only [decide_true]
          go_wp2_with fail
          refine Calls.mono (lives_any _) ?_
          rintro e w4 ⟨rfl, hk4⟩
          have HK4 := Lib.hid ((HK3.out.drewN q).trans hk4)
          clear hk4
          go_wp2
          go_ret
          exact ⟨rfl, HK4.out⟩

end Go.Proofs.Ytdpmkbiibmjbfaa
