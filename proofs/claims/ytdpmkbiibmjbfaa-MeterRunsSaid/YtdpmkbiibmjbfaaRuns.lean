/- The walk of MeterRuns: it returns true and leaves old memory as it was. Conditions: the slice lies in memory; the numbers are int64. -/
import Derived.Test.YtdpmkbiibmjbfaaScript
import Derived.Test.YtdpmkbiibmjbfaaLives
namespace Go.Proofs.Ytdpmkbiibmjbfaa
open Go.RowKit

set_option maxRecDepth 100000 in
set_option maxHeartbeats 8000000 in
theorem runs_walk (a0 : Option Addr) (c0 : Nat) (xs : List Int) (share period : Int) (w : World) (hx : IntsIn w a0 xs) (hxb : ∀ x ∈ xs, I64 x) (hxl : xs.length ≤ 9223372036854775807) (hsh : I64 share) (hpe : I64 period) :
    Calls Try.prog 7 #[.slice a0 xs.length c0, .int .i64 share, .int .i64 period] w fun e w' => e = .returned (.bool true) ∧ Keeps [] w w' := by
  have HX := Lib.hid hx
  have HXB := Lib.hid hxb
  clear hx hxb
  go_enter Try.func7, Try.ntmps7
  go_wp2_with fail
  refine Calls.mono (around_any share 21 _ (by omega) hsh) ?_
  rintro e w1 ⟨rfl, rfl⟩
  obtain ⟨s0, s1⟩ := aroundF_bd share 21 (by omega)
  go_wp2_with fail
  refine Calls.mono (around_any period 12 _ (by omega) hpe) ?_
  rintro e w1 ⟨rfl, rfl⟩
  obtain ⟨p0, p1⟩ := aroundF_bd period 12 (by omega)
  go_wp2_with fail
  refine Calls.mono (new_ok 4 (aroundF share 21) (1 + aroundF period 12) w (by simp [newBad, outB]; omega)) ?_
  rintro e w1 ⟨rfl, hM1, hk1, hs1⟩
  have HM1 := Lib.hid hM1
  have HK1 := Lib.hid hk1
  clear hM1 hk1
  go_wp2_with fail
  refine Calls.mono (around_any share 21 _ (by omega) hsh) ?_
  rintro e w2 ⟨rfl, rfl⟩
  go_wp2_with fail
  refine Calls.mono (around_any period 12 _ (by omega) hpe) ?_
  rintro e w2 ⟨rfl, rfl⟩
  generalize aroundF share 21 = S at *
  generalize aroundF period 12 = P0 at *
  have hP : (1 : Int) ≤ 1 + P0 ∧ 1 + P0 ≤ 12 := by omega
  obtain ⟨P, hPP⟩ : ∃ P, P = 1 + P0 := ⟨_, rfl⟩
  go_wp2_with fail
  rw [← hPP] at HM1 hP ⊢
  have HPP := Lib.hid hPP
  clear hPP p0 p1
  obtain ⟨p0, p1⟩ := hP
  refine Calls.mono (rnew_ok 4 S P _ (by unfold rnewBad; omega)) ?_
  rintro e w2 ⟨rfl, hR2, hk2, hs2⟩
  have HP := Lib.hid (pair_new HM1.out (by omega) hs1 hR2 hk2)
  have HK := Lib.hid (HK1.out.trans hk2)
  clear hR2 hk2
  have hz : w.heap.size + 1 < w1.heap.size := by omega
  obtain ⟨mb, hmb⟩ : ∃ mb, mb = w.heap.size + 1 := ⟨_, rfl⟩
  obtain ⟨rb, hrb⟩ : ∃ rb, rb = w1.heap.size := ⟨_, rfl⟩
  obtain ⟨mu, hmu⟩ : ∃ mu, mu = w.heap.size := ⟨_, rfl⟩
  rw [← hmb, ← hrb] at HP ⊢
  rw [← hmu] at HP
  have HB := Lib.hid (show w.heap.size ≤ mb ∧ w.heap.size ≤ mu ∧ w.heap.size ≤ rb by omega)
  clear hmb hrb hmu HM1 HK1 hs1 hs2 hz
  go_wp2_with fail
  have hxi : IntsIn w2 a0 xs := fun h => by
    obtain ⟨b, off, h1, h2⟩ := HX.out h
    exact ⟨b, off, h1, fun j hj => HK.out.cell (h2 j hj) (by simp)⟩
  refine Calls.mono (script_any 40 a0 c0 xs _ (by omega) hxi HXB.out hxl) ?_
  rintro e w3 ⟨n, a, c, hn, rfl, hsl, hk3, ha3⟩
  have HPA := Lib.hid (HP.out.keep hk3 (by simp) (by simp) (by simp) (by simp))
  have HSL := Lib.hid hsl
  have HKA := Lib.hid (HK.out.trans hk3)
  have HOL := Lib.hid (opsTo_length xs n)
  have hgo1 : ∀ g, a = some g → w.heap.size ≤ g ∧ g ≠ mb ∧ g ≠ mu ∧ g ≠ rb := fun g hg => by
    have h1 := ha3 g hg
    have h2 := lt_of_block HP.out.m.cells
    have h3 := lt_of_block HP.out.m.us
    have h4 := lt_of_block HP.out.r.cells
    have h5 := HK.out.size
    omega
  have HGO := Lib.hid hgo1
  clear hsl hk3 ha3 hgo1 hxi HP HK
  simp only [sv]
  go_wp2
  go_loopw [11] (fun i wr => ∃ (k : Nat) (tk : Int) (us : List Int) (a' : Option Nat) (c' : Nat) (L : List (Int × Int × Int)), k ≤ n ∧ i = .int .i64 k ∧ Pair wr mb mu rb S P tk us a' c' L ∧ us.length = 4 ∧ L.length ≤ k ∧ SliceAt wr 41 4 a n c (flat4 (opsTo xs n)) ∧ Keeps [] w wr ∧ (∀ g, a' = some g → w.heap.size ≤ g ∧ a ≠ some g)) (fun i _ => n - (intOf i).toNat)
  case atStart => exact ⟨0, 0, _, none, 0, [], Nat.zero_le _, rfl, HPA.out, rfl, by simp, HSL.out, HKA.out, by simp⟩
  case round =>
    obtain ⟨k, tk, us, a', c', L, hk, rfl, hP, hul, hLl, hsl, hkp, ha⟩ := hrel
    have HP := Lib.hid hP
    have HUL := Lib.hid hul
    have HSL := Lib.hid hsl
    have HK := Lib.hid hkp
    have HA := Lib.hid ha
    clear hP hul hsl hkp ha
    by_cases hlt : k < n
    · cases a with
      | none => exfalso; obtain ⟨_, h0, _⟩ := HSL.out; omega
      | some go =>
      simp only [Option.map_some]
      obtain ⟨d0, d1, d2, d3⟩ := ops_cells HSL.out k (by rw [HOL.out]; exact hlt)
      generalize ((opsTo xs n)[k]'(by rw [HOL.out]; exact hlt)).1 = kd at *
      generalize ((opsTo xs n)[k]'(by rw [HOL.out]; exact hlt)).2.1 = rl at *
      generalize ((opsTo xs n)[k]'(by rw [HOL.out]; exact hlt)).2.2.1 = nn at *
      generalize ((opsTo xs n)[k]'(by rw [HOL.out]; exact hlt)).2.2.2 = wt at *
      go_wp2_with fail
      refine Calls.mono (step_any mb mu rb S P tk us a' c' L kd rl nn wt _ HP.out (by omega)) ?_
      rintro e w2 ⟨rfl, tk2, us2, a2, c2, L2, hP2, hu2, hL2, hk2, ha2⟩
      have hgl := HSL.out.lt
      have HP2 := Lib.hid hP2
      have HSL2 := Lib.hid (HSL.out.keep hk2 (by
        intro g hg
        simp at hg
        subst hg
        have := HGO.out go rfl
        simp
        exact ⟨this.2.1, this.2.2.1, this.2.2.2, fun h => (HA.out _ h).2 rfl⟩))
      have HK2 := Lib.hid (HK.out.after hk2 (by
        intro x hx
        simp at hx
        right
        rcases hx with rfl | rfl | rfl | hx
        · exact HB.out.1
        · exact HB.out.2.1
        · exact HB.out.2.2
        · exact (HA.out x hx).1))
      have HU2 := Lib.hid (hu2.trans HUL.out)
      have HA2 := Lib.hid (show ∀ g, a2 = some g → w.heap.size ≤ g ∧ some go ≠ some g from by
        intro g hg
        rcases ha2 with rfl | ⟨g', rfl, hg'⟩
        · exact HA.out g hg
        · simp at hg; have := HK.out.size; refine ⟨by omega, ?_⟩; simp; omega)
      clear hP2 hu2 hk2 ha2 d0 d1 d2 d3
      go_wp2_with fail
      refine Calls.mono (used_any mb mu S P tk2 us2 _ HP2.out.m) ?_
      rintro e w4 ⟨rfl, hI4, hk4, hs4⟩
      have HI4 := Lib.hid hI4
      have HP4 := Lib.hid (HP2.out.keep hk4 (by simp) (by simp) (by simp) (by simp))
      have HSL4 := Lib.hid (HSL2.out.keep hk4 (by simp))
      have HK4 := Lib.hid (HK2.out.trans hk4)
      clear hI4 hk4
      go_wp2_with fail
      refine Calls.mono (rused_any rb us2.length S P tk2 a2 c2 L2 _ HP4.out.r) ?_
      rintro e w5 ⟨a5, c5, rfl, hS5, hk5, ha5⟩
      rw [pair_used HP4.out] at hS5
      have HS5 := Lib.hid hS5
      have HI5 := Lib.hid (HI4.out.keep hk5 (by simp))
      have HP5 := Lib.hid (HP4.out.keep hk5 (by simp) (by simp) (by simp) (by simp))
      have HSL5 := Lib.hid (HSL4.out.keep hk5 (by simp))
      have HK5 := Lib.hid (HK4.out.trans hk5)
      clear hS5 hk5 ha5
      go_wp2_with fail
      have hul : us2.length ≤ 1000000000000 := by rw [HU2.out]; omega
      refine Calls.mono (same_any (some ⟨w2.heap.size, 0, none⟩) (a5.map fun g => ⟨g, 0, none⟩) us2.length c5 us2 us2 w5 HI5.out.to_in HS5.out.to_in hul hul) ?_
      rintro e w6 ⟨rfl, q, rfl⟩
      simp only [decide_true]
      clear hul
      go_wp2
      go_roundw
      case rel => exact ⟨k + 1, tk2, us2, a2, c2, L2, by omega, by go_num, HP5.out.drewN _, HU2.out, by omega, HSL5.out.drewN _, HK5.out.drewN _, HA2.out⟩
      case measure => simp [intOf]; omega
    · obtain rfl : k = n := by omega
      go_wp2_with fail
      refine Calls.mono (lives_any _) ?_
      rintro e w4 ⟨rfl, hk4⟩
      have HK4 := Lib.hid (HK.out.trans hk4)
      clear hk4
      go_wp2
      go_ret
      exact ⟨rfl, HK4.out⟩

end Go.Proofs.Ytdpmkbiibmjbfaa
