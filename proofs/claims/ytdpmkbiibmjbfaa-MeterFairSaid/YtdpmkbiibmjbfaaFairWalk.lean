/- The walk of MeterFair: it returns true and leaves old memory as it was. Conditions: the slice lies in memory. -/
import Derived.Test.YtdpmkbiibmjbfaaLives
import Derived.Test.YtdpmkbiibmjbfaaShares0
import Derived.Test.YtdpmkbiibmjbfaaShares1
import Derived.Test.YtdpmkbiibmjbfaaStable
import Derived.Test.YtdpmkbiibmjbfaaFair
import Derived.Test.YtdpmkbiibmjbfaaRow
import Derived.Deep.DeepCutAuto
namespace Go.Proofs.Ytdpmkbiibmjbfaa
open Go.RowKit

/-- The weights that MeterFair makes. -/
def fairWs (xs : List Int) : List Int := (xs.take 30).map fun x => aroundF x 1048577
theorem fairWs_length (xs : List Int) : (fairWs xs).length = min 30 xs.length := by simp [fairWs]
theorem fairWs_take (xs : List Int) (k : Nat) (h : k < min 30 xs.length) : (fairWs xs).take (k + 1) = (fairWs xs).take k ++ [aroundF (xs.getD k 0) 1048577] := by
  rw [take_snoc _ _ (by rw [fairWs_length]; exact h)]
  congr 2
  have : k < xs.length := by omega
  have : k < 30 := by omega
  simp [fairWs, *]
theorem fairWs_bd (xs : List Int) : ∀ x ∈ fairWs xs, 0 ≤ x ∧ x ≤ 1048576 := by
  intro x hx
  simp only [fairWs, List.mem_map] at hx
  obtain ⟨y, _, rfl⟩ := hx
  have := aroundF_bd y 1048577 (by omega)
  omega

set_option maxRecDepth 100000 in
set_option maxHeartbeats 4000000 in
theorem fair_walk (t : Int) (a1 : Option Addr) (c1 : Nat) (xs : List Int) (w : World) (ht : I64 t) (hx : IntsIn w a1 xs) (hxb : ∀ x ∈ xs, I64 x) (hxl : xs.length ≤ 9223372036854775807) :
    Calls Try.prog 4 #[.int .i64 t, .slice a1 xs.length c1] w fun e w' => e = .returned (.bool true) ∧ Keeps [] w w' := by
  have HX := Lib.hid hx
  have HXB := Lib.hid hxb
  obtain ⟨i0, hi, hz0, hz1, hz2⟩ := info_parts info3
  have Hi := Lib.hid hi
  have Hz0 := Lib.hid hz0
  have Hz1 := Lib.hid hz1
  have Hz2 := Lib.hid hz2
  clear hx hxb hi hz0 hz1 hz2
  go_enter Try.func4, Try.ntmps4
  go_wp2_with fail
  refine (around_any t 1099511627777 w (by omega) ht).mono ?_
  rintro e w' ⟨rfl, rfl⟩
  obtain ⟨t0, t1⟩ := aroundF_bd t 1099511627777 (by omega)
  generalize aroundF t 1099511627777 = T at *
  go_wp2
  go_loopw [6, 7, 8] (fun v s i wr => ∃ (k : Nat) (a : Option Nat) (c : Nat), k ≤ min 30 xs.length ∧ i = .int .i64 k ∧ s = .int .i64 (sumL ((fairWs xs).take k)) ∧ v = sv a k c ∧ SliceAt wr 3 1 a k c (((fairWs xs).take k).map (Value.int .i64)) ∧ Keeps [] w wr ∧ (∀ g, a = some g → w.heap.size ≤ g) ∧ (0 < k → a.isSome = true)) (fun _ _ i _ => 30 - (intOf i).toNat)
  case atStart => exact ⟨0, none, 0, Nat.zero_le _, rfl, rfl, rfl, SliceAt.nil _ _ _, Keeps.refl _ _, by simp, by simp⟩
  case round =>
    obtain ⟨k, a, c, hk, rfl, rfl, rfl, hsl, hkp, ha, hs⟩ := hrel
    have hsb := sumL_bd ((fairWs xs).take k) 1048576 (fun x hx => fairWs_bd xs x (List.mem_of_mem_take hx))
    have hlk : ((fairWs xs).take k).length = k := by rw [List.length_take, fairWs_length]; omega
    rw [hlk] at hsb
    obtain ⟨sb0, sb1⟩ := hsb
    have HSL := Lib.hid hsl
    have HK := Lib.hid hkp
    have HA := Lib.hid ha
    have HSM := Lib.hid hs
    clear hsl hkp ha hs hlk
    by_cases hlt : k < min 30 xs.length
    · obtain ⟨b, off, rfl, hcx⟩ := HX.out (by omega)
      have hkx : k < xs.length := by omega
      have hk9 : k < 30 := by omega
      have hk9' : (k : Int) < 30 := by omega
      have dx := HK.out.cell (hcx k hkx) (by simp)
      have hxk := HXB.out (xs.getD k 0) (by rw [List.getD_eq_getElem?_getD, List.getElem?_eq_getElem hkx]; simp)
      have htk := fairWs_take xs k hlt
      have hsk : sumL ((fairWs xs).take (k + 1)) = sumL ((fairWs xs).take k) + aroundF (xs.getD k 0) 1048577 := by rw [htk, sumL_snoc]
      obtain ⟨x, hx⟩ : ∃ x, x = xs.getD k 0 := ⟨_, rfl⟩
      rw [← hx] at dx hxk htk hsk
      obtain ⟨s, hs⟩ : ∃ s, s = sumL ((fairWs xs).take k) := ⟨_, rfl⟩
      rw [← hs] at sb0 sb1 hsk ⊢
      have HTK := Lib.hid htk
      have HSK := Lib.hid hsk
      clear hcx hx htk hsk hs
      go_wp2_with fail
      refine (around_any x 1048577 _ (by omega) hxk).mono ?_
      rintro e w' ⟨rfl, rfl⟩
      obtain ⟨y0, y1⟩ := aroundF_bd x 1048577 (by omega)
      generalize aroundF x 1048577 = y at *
      go_wp2_with (at_builtin; refine wpList_append_sl rfl (.tmp 27) (.tmp 33) 22 rfl 3 i0 _ 1 8 Try.underlying22 Hi.out Hz0.out Hz1.out Hz2.out rfl (by decide) a k c _ rfl (HSL.out.alloc _) ⟨wr.heap.size, 0, none⟩ 1 1 [.int .i64 y] rfl rfl ?hnews (int_one _) (by decide) (by omega) (by omega) ?hk)
      case hnews => exact news_row' _ _ _ _ rfl
      case hk =>
        intro g c' w2 hsl hk2 hg
        have hK2 : Keeps [] w w2 := ((HK.out.alloc _).after hk2 (by intro x hx; simp at hx; exact .inr (HA.out x hx)))
        have hG2 : w.heap.size ≤ g := by rcases hg with hg | hg; exact HA.out g hg; have := HK.out.size; omega
        have dk : w2.cell? ⟨g, k, none⟩ = some (.int .i64 y) := by
          have hlt' : (List.take k (List.map (Value.int .i64) (fairWs xs))).length = k := by simp [fairWs_length]; omega
          rw [hsl.cell k (by simp [fairWs_length]; omega)]
          simp
          rw [List.getElem_append_right (by omega)]
          simp
        have HSL2 := Lib.hid hsl
        have HK2 := Lib.hid hK2
        clear hsl hk2 hg hK2
        go_wp2
        go_roundw
        case rel => exact ⟨k + 1, some g, c', by omega, by go_num, by rw [HSK.out], rfl, by rw [HTK.out, List.map_append, List.map_take]; exact HSL2.out, HK2.out, by intro g' hg'; simp at hg'; omega, by simp⟩
        case measure => simp [intOf]; omega
    · obtain rfl : k = min 30 xs.length := by omega
      have hwl := fairWs_length xs
      have htk : (fairWs xs).take (min 30 xs.length) = fairWs xs := List.take_of_length_le (by omega)
      rw [htk] at HSL sb0 sb1 ⊢
      by_cases h0 : xs.length = 0
      · have hm : min 30 xs.length = 0 := by omega
        have hf0 : sumL (fairWs xs) = 0 := by rw [List.eq_nil_of_length_eq_zero (l := fairWs xs) (by omega)]; rfl
        rw [hm] at HSL ⊢
        rw [hf0]
        simp only [sv]
        have hlt2 : ¬ (0 : Int) < (xs.length : Int) := by omega
        clear htk hwl h0 hm hlt hk sb0 sb1 hf0
        go_wp2_with fail
        refine (shares_empty T _ c wr t0 (by omega)).mono ?_
        rintro e w1 ⟨rfl, hk1⟩
        have HK1 := Lib.hid (HK.out.trans hk1)
        clear hk1
        go_wp2_with fail
        refine (lives_any w1).mono ?_
        rintro e w2 ⟨rfl, hk2⟩
        have HK2 := Lib.hid (HK1.out.trans hk2)
        clear hk2
        go_wp2
        go_ret
        exact ⟨rfl, HK2.out⟩
      · have hsome := HSM.out (by omega)
        cases a with
        | none => simp at hsome
        | some gw =>
        obtain ⟨n, hn⟩ : ∃ n, n = (fairWs xs).length := ⟨_, rfl⟩
        rw [← hwl, ← hn] at HSL ⊢
        have hn9 : n ≤ 30 := by omega
        have hnm : n = xs.length ∨ n = 30 := by omega
        have hn1 : 1 ≤ n := by omega
        have hgw : gw < wr.heap.size := HSL.out.lt
        have hcel : ∀ j, j < (fairWs xs).length → wr.cell? ⟨gw, 0 + j, none⟩ = some (.int .i64 ((fairWs xs).getD j 0)) := fun j hj => by
          rw [Nat.zero_add, HSL.out.cell j (by simpa using hj)]; simp [hj]
        have hsplit : (n : Int) < (xs.length : Int) ∧ ¬ (n : Int) < 30 ∨ ¬ (n : Int) < (xs.length : Int) := by omega
        simp only [sv, Option.map_some]
        by_cases hz : sumL (fairWs xs) = 0
        · have hsh := shares_zero T (fairWs xs) gw 0 c wr t0 (by omega) (fairWs_bd xs) (by omega) hz hcel hgw
          rw [← hn] at hsh
          have HSH := Lib.hid hsh
          rw [hz]
          clear hsh hn hcel htk hwl h0 hlt hk sb0 sb1 hz
          rcases hsplit with ⟨hs1, hs2⟩ | hs1
          all_goals
            go_wp2_with fail
            refine Calls.mono HSH.out ?_
            rintro e w1 ⟨rfl, hk1⟩
            have HK1 := Lib.hid (HK.out.trans hk1)
            clear hk1
            go_wp2_with fail
            refine (lives_any w1).mono ?_
            rintro e w2 ⟨rfl, hk2⟩
            have HK2 := Lib.hid (HK1.out.trans hk2)
            clear hk2
            go_wp2
            go_ret
            exact ⟨rfl, HK2.out⟩
        · have hs0 : 0 < sumL (fairWs xs) := by omega
          have hsh := shares_ok T (fairWs xs) gw 0 c wr t0 (by omega) (fairWs_bd xs) (by omega) hs0 hcel hgw (sorts_any _ (by omega))
          have hpn : (fairWs xs).length = n := hn.symm
          rw [hpn] at hsh
          have HSH := Lib.hid hsh
          have HN := Lib.hid hpn
          obtain ⟨S, hS⟩ : ∃ S, S = sumL (fairWs xs) := ⟨_, rfl⟩
          rw [← hS] at hs0 sb0 sb1 ⊢
          have HSE := Lib.hid hS
          have hS2 : S ≤ 31457280 := by omega
          have hSz : (S == 0) = false := by simp; omega
          clear hsh hn hpn hcel htk hwl h0 hlt hk hz hS
          rcases hsplit with ⟨hs1, hs2⟩ | hs1
          all_goals
            go_wp2_with fail
            refine Calls.mono HSH.out ?_
            rintro e w1 ⟨g, ord, rfl, hg, hk1, hpm, hpw, hI⟩
            have hfa := fair_at T (fairWs xs) ord t0 (fun x hx => (fairWs_bd xs x hx).1) (by rw [← HSE.out]; exact hs0) hpm hpw
            rw [HN.out]
            generalize bump (bases T (sumL (fairWs xs)) (fairWs xs)) (ord.take (T - sumL (bases T (sumL (fairWs xs)) (fairWs xs))).toNat) = ps at *
            rw [← HSE.out] at hfa
            have HFA := Lib.hid hfa
            have HI := Lib.hid hI
            have HK1 := Lib.hid (HK.out.trans hk1)
            have HSL1 := Lib.hid (HSL.out.keep hk1 (by simp))
            clear hfa hI hk1 hpm hpw hg
            have hnn : ((n : Int) != (n : Int)) = false := by simp
            have hnn2 : (n != n) = false := by simp
            go_wp2
            have hpl : ps.length = n := HFA.out.len.trans HN.out
            obtain ⟨wo, hwo⟩ : ∃ wo : World, wo = wr := ⟨_, rfl⟩
            go_loopw [11, 12, 13, 14] (fun s11 s12 _ _ wl => ∃ k : Nat, k ≤ n ∧ s12 = .int .i64 k ∧ s11 = .int .i64 (sumL (ps.take k)) ∧ Ints 3 wl g ps ∧ SliceAt wl 3 1 (some gw) n c ((fairWs xs).map (Value.int .i64)) ∧ Keeps [] w wl) (fun _ s12 _ _ _ => n - (intOf s12).toNat)
            case atStart => exact ⟨0, Nat.zero_le _, rfl, rfl, HI.out, HSL1.out, HK1.out⟩
            case round =>
              obtain ⟨k, hk, rfl, rfl, hI, hL, hK⟩ := hrel
              by_cases hlt : k < n
              · have hlw : k < (fairWs xs).length := by rw [HN.out]; exact hlt
                have dp := hI.cellG k (by omega)
                have dw : wr.cell? ⟨gw, k, none⟩ = some (.int .i64 ((fairWs xs).getD k 0)) := by
                  rw [hL.cell k (by simpa using hlw)]; simp [hlw]
                have hst := sumL_take ps k (by omega)
                have hb := HFA.out.base k hlw
                have hsp := split_div T S ((fairWs xs).getD k 0) hs0
                have hpn0 := HFA.out.nn (ps.getD k 0) (mem_getD (by omega))
                have hpT := mem_le_sumL ps HFA.out.nn (ps.getD k 0) (mem_getD (by omega))
                rw [HFA.out.sum] at hpT
                have hG0 := sumL_nonneg (ps.take k) (fun x hx => HFA.out.nn x (List.mem_of_mem_take hx))
                have hx01 := fairWs_bd xs ((fairWs xs).getD k 0) (mem_getD hlw)
                rw [hsp.1, hsp.2] at hb
                obtain ⟨x, hx⟩ : ∃ x, x = (fairWs xs).getD k 0 := ⟨_, rfl⟩
                obtain ⟨y, hy⟩ : ∃ y, y = ps.getD k 0 := ⟨_, rfl⟩
                obtain ⟨G, hG⟩ : ∃ G, G = sumL (ps.take k) := ⟨_, rfl⟩
                rw [← hx] at dw hb hx01
                rw [← hy] at dp hb hst hpn0 hpT
                rw [← hG] at hst hG0 ⊢
                have hxS : x ≤ S := by rw [hx, HSE.out]; exact mem_le_sumL _ (fun z hz => (fairWs_bd xs z hz).1) _ (mem_getD hlw)
                have hA0 : 0 ≤ T / S * x := Int.mul_nonneg (Int.ediv_nonneg t0 (by omega)) hx01.1
                have hA1 : T / S * x ≤ T := Int.le_trans (Int.mul_le_mul_of_nonneg_left hxS (Int.ediv_nonneg t0 (by omega))) (Int.ediv_mul_le T (by omega))
                have hM0 := Int.emod_nonneg T (show S ≠ 0 by omega)
                have hM1 := Int.emod_lt_of_pos T hs0
                have hB0 : 0 ≤ T % S * x := Int.mul_nonneg hM0 hx01.1
                have hB1 : T % S * x ≤ S * 1048576 := Int.mul_le_mul (by omega) hx01.2 hx01.1 (by omega)
                have hC0 : 0 ≤ T % S * x / S := Int.ediv_nonneg hB0 (by omega)
                have hC1 : T % S * x / S ≤ T % S * x := Int.ediv_le_self _ hB0
                have hG1 : G ≤ T * 30 := by
                  have h1 := (sumL_bd (ps.take k) T (fun z hz => ⟨HFA.out.nn z (List.mem_of_mem_take hz), by
                    have := mem_le_sumL ps HFA.out.nn z (List.mem_of_mem_take hz); rw [HFA.out.sum] at this; exact this⟩)).2
                  have h2 : (ps.take k).length ≤ 30 := by simp; omega
                  rw [← hG] at h1
                  exact Int.le_trans h1 (Int.mul_le_mul_of_nonneg_left (by omega) t0)
                have fw := hL.fz
                have fp := hI.fz k
                have HIk := Lib.hid hI
                have HLk := Lib.hid hL
                have HKk := Lib.hid hK
                have HB := Lib.hid hb
                have HST := Lib.hid hst
                have HXX := Lib.hid hx
                have HYY := Lib.hid hy
                clear hI hL hK hb hst hx hy hG hsp hwo
                go_wp2
                go_quiet (fail)
                have HIq := Lib.hid (HIk.out.drewN nq)
                have HLq := Lib.hid (HLk.out.drewN nq)
                have HKq := Lib.hid (HKk.out.drewN nq)
                have dpq : (wr.drewN nq).cell? ⟨g, k, none⟩ = some (.int .i64 y) := dp
                have dwq : (wr.drewN nq).cell? ⟨gw, k, none⟩ = some (.int .i64 x) := dw
                have HX0 := Lib.hid (show x = 0 → T / S * x + T % S * x / S = 0 ∧ T % S * x % S = 0 from fun h => by rw [h]; simp)
                have hbb0 : 0 ≤ T / S * x + T % S * x / S := by omega
                have hbb1 : T / S * x + T % S * x / S ≤ 1000000000000000 := by omega
                generalize wr.drewN nq = wq at *
                generalize T / S * x + T % S * x / S = b at *
                clear dp dw HIk HLk HKk
                go_upto_region 20 with fail
                go_cut [140] (fun s140 wx => s140 = .bool false ∧ ∃ w5 : World, w5 = wx ∧ Ints 3 w5 g ps ∧ SliceAt w5 3 1 (some gw) n c ((fairWs xs).map (Value.int .i64)) ∧ Keeps [] w w5)
                case first => as_aux_lemma =>
                  by_cases hx0 : x = 0
                  · obtain ⟨hb0, hr0⟩ := HX0.out hx0
                    have hyb : y = b := by rcases HB.out with h | ⟨_, h⟩; exact h; exact absurd hr0 h
                    have d1 : (y != b) = false := by simp [hyb]
                    have d2 : (x == 0) = true := by simp [hx0]
                    have d3 : (y != 0) = false := by simp [hyb, hb0]
                    clear hx0 hb0 hr0 hyb
                    go_wp2
                    go_quiet (fail)
                    go_wp2
                    go_meet
                    exact ⟨rfl, _, rfl, HIq.out.drewN _, HLq.out.drewN _, HKq.out.drewN _⟩
                  · have d2 : (x == 0) = false := by simp [hx0]
                    clear hx0
                    by_cases hyb : y = b
                    · have d1 : (y != b) = false := by simp [hyb]
                      clear hyb
                      go_wp2
                      go_quiet (fail)
                      go_wp2
                      go_meet
                      exact ⟨rfl, _, rfl, HIq.out.drewN _, HLq.out.drewN _, HKq.out.drewN _⟩
                    · have d1 : (y != b) = true := by simp [hyb]
                      have hyr : y = b + 1 ∧ T % S * x % S ≠ 0 := by rcases HB.out with h | h; exact absurd h hyb; exact h
                      have d3 : (y != b + 1) = false := by simp [hyr.1]
                      have d4 : (T % S * x % S == 0) = false := by simp [hyr.2]
                      clear hyb hyr
                      go_wp2
                      go_quiet (fail)
                      go_wp2
                      go_meet
                      exact ⟨rfl, _, rfl, HIq.out.drewN _, HLq.out.drewN _, HKq.out.drewN _⟩
                case rest =>
                  obtain ⟨rfl, w5, rfl, hI5, hL5, hK5⟩ := hcut
                  have HI5 := Lib.hid hI5
                  have HL5 := Lib.hid hL5
                  have HK5 := Lib.hid hK5
                  clear hI5 hL5 hK5 HIq HLq HKq dpq dwq
                  go_wp2
                  go_loopw [14] (fun s14 wl => ∃ j : Nat, j ≤ k ∧ s14 = .int .i64 j ∧ Ints 3 wl g ps ∧ SliceAt wl 3 1 (some gw) n c ((fairWs xs).map (Value.int .i64)) ∧ Keeps [] w wl) (fun s14 _ => k - (intOf s14).toNat)
                  case atStart => exact ⟨0, Nat.zero_le _, rfl, HI5.out, HL5.out, HK5.out⟩
                  case round =>
                    obtain ⟨j, hj, rfl, hI6, hL6, hK6⟩ := hrel
                    by_cases hjk : j < k
                    · have hjw : j < (fairWs xs).length := by rw [HN.out]; omega
                      have ep := hI6.cellG k (by omega)
                      have eq := hI6.cellG j (by omega)
                      have ew : wr.cell? ⟨gw, k, none⟩ = some (.int .i64 ((fairWs xs).getD k 0)) := by
                        rw [hL6.cell k (by simpa using hlw)]; simp [hlw]
                      have ev : wr.cell? ⟨gw, j, none⟩ = some (.int .i64 ((fairWs xs).getD j 0)) := by
                        rw [hL6.cell j (by simpa using hjw)]; simp [hjw]
                      have m1 := HFA.out.mono k j hlw hjw
                      have m2 := HFA.out.mono j k hjw hlw
                      rw [← HYY.out] at ep m1 m2
                      rw [← HXX.out] at ew m1 m2
                      generalize (fairWs xs).getD j 0 = x2 at *
                      generalize ps.getD j 0 = y2 at *
                      have M1 := Lib.hid m1
                      have M2 := Lib.hid m2
                      have HI6 := Lib.hid hI6
                      have HL6 := Lib.hid hL6
                      have HK6 := Lib.hid hK6
                      clear hI6 hL6 hK6 m1 m2 HI5 HL5 HK5
                      go_wp2
                      go_upto_region 25 with fail
                      go_cut [187] (fun s187 wx => s187 = .bool false ∧ ∃ w7 : World, w7 = wx ∧ Ints 3 w7 g ps ∧ SliceAt w7 3 1 (some gw) n c ((fairWs xs).map (Value.int .i64)) ∧ Keeps [] w w7)
                      case first => as_aux_lemma =>
                        by_cases c1 : x2 < x
                        · have g1 := M1.out c1
                          have e1 : decide (x > x2) = true := by simp; omega
                          have e2 : decide (y < y2) = false := by simp; omega
                          have e3 : decide (x < x2) = false := by simp; omega
                          clear c1 g1
                          go_wp2
                          go_quiet (fail)
                          go_wp2
                          go_meet
                          exact ⟨rfl, _, rfl, HI6.out.drewN _, HL6.out.drewN _, HK6.out.drewN _⟩
                        · have e1 : decide (x > x2) = false := by simp; omega
                          by_cases c2 : x < x2
                          · have g2 := M2.out c2
                            have e3 : decide (x < x2) = true := by simp; omega
                            have e4 : decide (y > y2) = false := by simp; omega
                            clear c1 c2 g2
                            go_wp2
                            go_quiet (fail)
                            go_wp2
                            go_meet
                            exact ⟨rfl, _, rfl, HI6.out.drewN _, HL6.out.drewN _, HK6.out.drewN _⟩
                          · have e3 : decide (x < x2) = false := by simp; omega
                            clear c1 c2
                            go_wp2
                            go_quiet (fail)
                            go_wp2
                            go_meet
                            exact ⟨rfl, _, rfl, HI6.out.drewN _, HL6.out.drewN _, HK6.out.drewN _⟩
                      case rest =>
                        obtain ⟨rfl, w7, rfl, hI7, hL7, hK7⟩ := hcut
                        have HI7 := Lib.hid hI7
                        have HL7 := Lib.hid hL7
                        have HK7 := Lib.hid hK7
                        clear hI7 hL7 hK7 ep eq ew ev HI6 HL6 HK6
                        go_wp2
                        go_roundw
                        case rel => exact ⟨j + 1, by omega, by go_num, HI7.out, HL7.out, HK7.out⟩
                        case measure => simp [intOf]; omega
                    · obtain rfl : j = k := by omega
                      have HI6 := Lib.hid hI6
                      have HL6 := Lib.hid hL6
                      have HK6 := Lib.hid hK6
                      clear hI6 hL6 hK6 HI5 HL5 HK5
                      go_wp2
                      go_roundw
                      case rel => exact ⟨j + 1, by omega, by go_num, by rw [HST.out], HI6.out, HL6.out, HK6.out⟩
                      case measure => simp [intOf]; omega
              · obtain rfl : k = n := by omega
                have hT : sumL (ps.take k) = T := by rw [List.take_of_length_le (by omega)]; exact HFA.out.sum
                rw [hT]
                have HK := Lib.hid hK
                clear hI hL hK hT
                go_wp2_with fail
                refine (lives_any _).mono ?_
                rintro e w2 ⟨rfl, hk2⟩
                have HK2 := Lib.hid (HK.out.trans hk2)
                clear hk2
                go_wp2
                go_ret
                exact ⟨rfl, HK2.out⟩

end Go.Proofs.Ytdpmkbiibmjbfaa
