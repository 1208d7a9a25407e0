/- Part 33 of the proof. No condition: every lemma says its own. -/
import Derived.Test.YtphnbmdcgcchaaaDoorEbe
import Derived.Test.YtphnbmdcgcchaaaDoorEbf
namespace Go.Proofs.YtphnbmdcgcchaaaDoor
open Go.RowKit Go.Sort Go.BigFrame
set_option maxRecDepth 100000
set_option maxHeartbeats 16000000
theorem sizeRG : (Tryd.prog.info? 30).map (·.size) = some 4 := by kernel_rfl
theorem infoRE : (Tryd.prog.info? 47).map (fun i => (i.zero, i.size, i.bytes)) = some (some (.agg #[.int .i64 0, .int .i64 0, .int .i64 0, .int .i64 0]), 4, 32) := by kernel_rfl
def SomePost (w : World) (e : Ending) (w' : World) : Prop := Keeps [] w w' ∧ ∃ x : Gr, e = .returned x.val ∧ GrIn w' x ∧ SomeX x
set_option linter.unusedSimpArgs false in
theorem some_any (ao : Option Addr) (ac : Nat) (xs : List Int) (w : World) (hx : IntsIn w ao xs) (hl : xs.length ≤ 9223372036854775807) (hb : ∀ x ∈ xs, I64 x) :
  Calls Tryd.prog 6 #[.slice ao xs.length ac] w (SomePost w) := by
 obtain ⟨Q, hQ⟩ : ∃ Q, Q = SomePost w := ⟨_, rfl⟩
 rw [← hQ]
 have HQ := Lib.hid hQ
 have HPK := Lib.hid (fun W (k : Keeps [] w W) i n (hn : (0 : Int) < n) => pickE_any ao ac xs i n W (hx.keep k) hl hb hn)
 obtain ⟨ie, hi0, hi1, hi2, hi3⟩ := infoParts infoRE
 obtain ⟨ii, hj0, hj1, hj2, hj3⟩ := infoParts infoInt
 have HI := Lib.hid (And.intro hi0 (And.intro hi1 (And.intro hi2 hi3)))
 have HJ := Lib.hid (And.intro hj0 (And.intro hj1 (And.intro hj2 hj3)))
 clear hQ hx hb hi0 hi1 hi2 hi3 hj0 hj1 hj2 hj3
 go_enter Tryd.func6, Tryd.ntmps6
 go_upto_region 2 with fail
 obtain ⟨B, hB⟩ : ∃ B, B = w.heap.size := ⟨_, rfl⟩
 obtain ⟨wa, hwa⟩ : ∃ wa, wa = w.alloc (.cells #[.slice none 0 0, .slice none 0 0, .slice none 0 0, .slice none 0 0] 30) := ⟨_, rfl⟩
 obtain ⟨wb, hwb⟩ : ∃ wb, wb = wa.alloc (.cells #[.int .i64 97, .int .i64 97] 50) := ⟨_, rfl⟩
 obtain ⟨wc, hwc⟩ : ∃ wc, wc = wb.alloc (.cells #[.int .i64 98, .int .i64 99] 50) := ⟨_, rfl⟩
 obtain ⟨wd, hwd⟩ : ∃ wd, wd = wc.alloc (.cells #[.slice (some ⟨B + 1, 0, none⟩) 1 1, .slice (some ⟨B + 1 + 1, 0, none⟩) 1 1] 51) := ⟨_, rfl⟩
 obtain ⟨Y, hY⟩ : ∃ Y, Y = wd.alloc (.cells #[.slice (some ⟨B + 1 + 1 + 1, 0, none⟩) 2 2, .slice none 0 0, .slice none 0 0, .slice none 0 0] 30) := ⟨_, rfl⟩
 obtain ⟨X, hX⟩ : ∃ X, X = B + 1 + 1 + 1 + 1 := ⟨_, rfl⟩
 have ka : Keeps [] w wa := by rw [hwa]; exact Keeps.a1 _ _
 have kb : Keeps [] wa wb := by rw [hwb]; exact Keeps.a1 _ _
 have kc : Keeps [] wb wc := by rw [hwc]; exact Keeps.a1 _ _
 have kd : Keeps [] wc wd := by rw [hwd]; exact Keeps.a1 _ _
 have ky : Keeps [] wd Y := by rw [hY]; exact Keeps.a1 _ _
 have sa : wa.heap.size = B + 1 := by rw [hwa, hB]; simp
 have sb : wb.heap.size = B + 1 + 1 := by rw [hwb]; simp [sa]
 have sc : wc.heap.size = B + 1 + 1 + 1 := by rw [hwc]; simp [sb]
 have sd : wd.heap.size = X := by rw [hwd, hX]; simp [sc]
 have sy : Y.heap.size = X + 1 := by rw [hY]; simp [sd]
 have hra : Y.heap[B]? = some (.cells #[.slice none 0 0, .slice none 0 0, .slice none 0 0, .slice none 0 0] 30 (0, 0)) := (((kb.trans kc).trans kd).trans ky).heap (by rw [hwa, hB]; exact heap_alloc_new w _) (by simp)
 have hrb : Y.heap[B + 1]? = some (.cells #[.int .i64 97, .int .i64 97] 50 (0, 0)) := ((kc.trans kd).trans ky).heap (by have h := heap_alloc_new wa (.cells #[.int .i64 97, .int .i64 97] 50); rw [sa, ← hwb] at h; exact h) (by simp)
 have hrc : Y.heap[B + 1 + 1]? = some (.cells #[.int .i64 98, .int .i64 99] 50 (0, 0)) := (kd.trans ky).heap (by have h := heap_alloc_new wb (.cells #[.int .i64 98, .int .i64 99] 50); rw [sb, ← hwc] at h; exact h) (by simp)
 have hrd : Y.heap[B + 1 + 1 + 1]? = some (.cells #[.slice (some ⟨B + 1, 0, none⟩) 1 1, .slice (some ⟨B + 1 + 1, 0, none⟩) 1 1] 51 (0, 0)) := ky.heap (by have h := heap_alloc_new wc (.cells #[.slice (some ⟨B + 1, 0, none⟩) 1 1, .slice (some ⟨B + 1 + 1, 0, none⟩) 1 1] 51); rw [sc, ← hwd] at h; exact h) (by simp)
 have hrx : Y.heap[X]? = some (.cells #[.slice (some ⟨B + 1 + 1 + 1, 0, none⟩) 2 2, .slice none 0 0, .slice none 0 0, .slice none 0 0] 30 (0, 0)) := by have h := heap_alloc_new wd (.cells #[.slice (some ⟨B + 1 + 1 + 1, 0, none⟩) 2 2, .slice none 0 0, .slice none 0 0, .slice none 0 0] 30); rw [sd, ← hY] at h; exact h
 rw [← hB, ← hwa, ← hwb, ← hwc, ← hwd, ← hY, ← hX]
 have HKY := Lib.hid ((((ka.trans kb).trans kc).trans kd).trans ky)
 have HRA := Lib.hid hra
 have HROWS := Lib.hid (And.intro hrb (And.intro hrc hrd))
 have HSM := Lib.hid (SM.start hrx)
 have HSY := Lib.hid (And.intro sy (And.intro hX hB))
 clear hB hwa hwb hwc hwd hY hX ka kb kc kd ky sa sb sc sd sy hra hrb hrc hrd hrx
 go_wp2_with fail
 refine Calls.mono (HPK.out Y HKY.out 0 5 (by omega)) ?_
 rintro e w5 ⟨k0, hk0, hk5, rfl, rfl⟩
 obtain ⟨n, hn⟩ : ∃ n : Nat, 1 + k0 = (n : Int) := ⟨(1 + k0).toNat, by omega⟩
 have hn1 : 1 ≤ n ∧ n ≤ 5 := by omega
 have hw0 : IntKind.i64.wrap (1 + k0) = (n : Int) := by rw [IntWalk.i64_in _ (by omega), hn]
 clear hk0 hk5
 have HN1 := Lib.hid hn1
 obtain ⟨hn1a, hn1b⟩ := hn1
 clear hn
 go_wp2
 go_loopw [5] (fun v wr => ∃ (i : Nat) (nl fl : List Int) (a1 : Option Nat) (c1 : Nat) (a2 : Option Nat) (c2 : Nat), v = .int .i64 i ∧ i ≤ n ∧ nl.length = i ∧ fl.length = i ∧ (∀ v ∈ fl, 0 ≤ v ∧ v ≤ 2) ∧ SM Y wr X (.slice (some ⟨B + 1 + 1 + 1, 0, none⟩) 2 2) nl fl [] a1 c1 a2 c2 none 0) (fun v _ => n - (intOf v).toNat)
 case atStart => exact ⟨0, [], [], none, 0, none, 0, rfl, Nat.zero_le _, rfl, rfl, (fun v h => by cases h), HSM.out⟩
 case round =>
  obtain ⟨i, nl, fl, a1, c1, a2, c2, rfl, hi, hnl, hfl, hfb, hsm⟩ := hrel
  obtain ⟨wA, hwA⟩ : ∃ wA : World, wA = wr := ⟨_, rfl⟩
  subst hwA
  have HM := Lib.hid hsm
  have HLN := Lib.hid (And.intro hnl hfl)
  have HFB := Lib.hid hfb
  have hnl5 : nl.length ≤ 5 := by omega
  have hfl5 : fl.length ≤ 5 := by omega
  by_cases hin : i < n
  ·obtain ⟨x1, x2, x3, xf⟩ := hsm.cells
   have xf1 := xf 1
   have hw2 : IntKind.i64.wrap (2 * (i : Int)) = 2 * i := IntWalk.i64_in _ (by omega)
   clear hsm hnl hfl hfb xf x3
   go_wp2_with (at_builtin; refine wpList_append_sl rfl (.tmp 25) (.tmp 28) 22 rfl 3 ii _ 1 8 Tryd.underlying22 HJ.out.1 HJ.out.2.1 HJ.out.2.2.1 HJ.out.2.2.2 rfl (by decide) a1 nl.length c1 (nl.map (Value.int .i64)) rfl (HM.out.s1.alloc _) ⟨wA.heap.size, 0, none⟩ 1 1 [.int .i64 (2 * i)] rfl rfl (news_row' _ _ _ _ rfl) (int_one _) (by decide) (by omega) (by omega) ?hk1)
   case hk1 =>
    intro g6 d6 w5 hs6 hk6 hg6
    have hm5 := HM.out.keep (Keeps.a1 wA (.cells #[.int .i64 (2 * i)] 3))
    have hb5 := hk6.heap hm5.box hm5.nX.1
    have y1 : w5.cell? ⟨X, 1, none⟩ = some (.slice (a1.map fun g => ⟨g, 0, none⟩) nl.length c1) := by simp [World.cell?, hb5]
    have yf : w5.frozen? ⟨X, 1, none⟩ = false := by simp [World.frozen?, hb5]
    obtain ⟨w6, hw6⟩ : ∃ w6, w6 = w5.setCell ⟨X, 1, none⟩ (.slice (some ⟨g6, 0, none⟩) (nl.length + 1) d6) := ⟨_, rfl⟩
    have hm6 := hm5.push1 hs6 hk6 (by rcases hg6 with h | h; exact .inl h; exact .inr (by simpa using h))
    rw [← hw6] at hm6
    have HM6 := Lib.hid hm6
    obtain ⟨_, z2, _, zf⟩ := hm6.cells
    have zf2 := zf 2
    have HW6 := Lib.hid hw6
    have HKW6 := Lib.hid (show Keeps [] w w6 from (HKY.out.trans ((Keeps.refl [] Y))).after hm6.kp (fun q hq => .inr (by simp at hq; subst hq; have := HSY.out; omega)))
    have hwi : IntKind.i64.wrap (1 + (i : Int)) = 1 + i := IntWalk.i64_in _ (by omega)
    have hwj : IntKind.i64.wrap (2 + (i : Int)) = 2 + i := IntWalk.i64_in _ (by omega)
    clear hs6 hk6 hg6 hm5 hb5 hw6 hm6 zf x1 x2 xf1
    go_upto_region 7 with fail
    rw [← HW6.out]
    clear y1 yf
    go_wp2_with fail
    refine Calls.mono (HPK.out w6 HKW6.out _ 3 (by omega)) ?_
    rintro e w7 ⟨k3, hk30, hk31, rfl, rfl⟩
    by_cases hk3 : k3 = 0
    ·have hk3b : (k3 == 0) = true := by simp [hk3]
     go_wp2_with fail
     refine Calls.mono (HPK.out w6 HKW6.out _ 2 (by omega)) ?_
     rintro e w7 ⟨k4, hk40, hk41, rfl, rfl⟩
     have hw4 : IntKind.i64.wrap (1 + k4) = 1 + k4 := IntWalk.i64_in _ (by omega)
     have HVB := Lib.hid (show 0 ≤ 1 + k4 ∧ 1 + k4 ≤ 2 by omega)
     go_wp2_with (at_builtin; refine wpList_append_sl rfl (.tmp 46) (.tmp 48) 22 rfl 3 ii _ 1 8 Tryd.underlying22 HJ.out.1 HJ.out.2.1 HJ.out.2.2.1 HJ.out.2.2.2 rfl (by decide) a2 fl.length c2 (fl.map (Value.int .i64)) rfl (HM6.out.s2.alloc _) ⟨w6.heap.size, 0, none⟩ 1 1 [.int .i64 (1 + k4)] rfl rfl (news_row' _ _ _ _ rfl) (int_one _) (by decide) (by omega) (by omega) ?hkA)
     case hkA =>
      intro g7 d7 w7 hs7 hk7 hg7
      have hm7 := HM6.out.keep (Keeps.a1 w6 (.cells #[.int .i64 (1 + k4)] 3))
      have hb7 := hk7.heap hm7.box hm7.nX.2.1
      have y2 : w7.cell? ⟨X, 2, none⟩ = some (.slice (a2.map fun g => ⟨g, 0, none⟩) fl.length c2) := by simp [World.cell?, hb7]
      have yf : w7.frozen? ⟨X, 2, none⟩ = false := by simp [World.frozen?, hb7]
      have HM8 := Lib.hid (hm7.push2 hs7 hk7 (by rcases hg7 with h | h; exact .inl h; exact .inr (by simpa using h)))
      clear hs7 hk7 hg7 hm7 hb7
      go_wp2
      go_roundw
      case rel => exact ⟨i + 1, _, _, some g6, d6, some g7, d7, by go_num, by omega, by simp [HLN.out.1], by simp [HLN.out.2], fun v hv => by
       rcases List.mem_append.1 hv with hv | hv
       ·exact HFB.out v hv
       ·rw [List.mem_singleton] at hv; subst hv; exact HVB.out, HM8.out⟩
      case measure => simp [intOf]; omega
    ·have hk3b : (k3 == 0) = false := by simp [hk3]
     by_cases hi0 : i = 0
     ·have hi0b : ((i : Int) == 0) = true := by simp [hi0]
      clear hi0
      go_wp2_with fail
      refine Calls.mono (HPK.out w6 HKW6.out _ 2 (by omega)) ?_
      rintro e w7 ⟨k4, hk40, hk41, rfl, rfl⟩
      have hw4 : IntKind.i64.wrap (1 + k4) = 1 + k4 := IntWalk.i64_in _ (by omega)
      have HVB := Lib.hid (show 0 ≤ 1 + k4 ∧ 1 + k4 ≤ 2 by omega)
      go_wp2_with (at_builtin; refine wpList_append_sl rfl (.tmp 46) (.tmp 48) 22 rfl 3 ii _ 1 8 Tryd.underlying22 HJ.out.1 HJ.out.2.1 HJ.out.2.2.1 HJ.out.2.2.2 rfl (by decide) a2 fl.length c2 (fl.map (Value.int .i64)) rfl (HM6.out.s2.alloc _) ⟨w6.heap.size, 0, none⟩ 1 1 [.int .i64 (1 + k4)] rfl rfl (news_row' _ _ _ _ rfl) (int_one _) (by decide) (by omega) (by omega) ?hkB)
      case hkB =>
       intro g7 d7 w7 hs7 hk7 hg7
       have hm7 := HM6.out.keep (Keeps.a1 w6 (.cells #[.int .i64 (1 + k4)] 3))
       have hb7 := hk7.heap hm7.box hm7.nX.2.1
       have y2 : w7.cell? ⟨X, 2, none⟩ = some (.slice (a2.map fun g => ⟨g, 0, none⟩) fl.length c2) := by simp [World.cell?, hb7]
       have yf : w7.frozen? ⟨X, 2, none⟩ = false := by simp [World.frozen?, hb7]
       have HM8 := Lib.hid (hm7.push2 hs7 hk7 (by rcases hg7 with h | h; exact .inl h; exact .inr (by simpa using h)))
       clear hs7 hk7 hg7 hm7 hb7
       go_wp2
       go_roundw
       case rel => exact ⟨i + 1, _, _, some g6, d6, some g7, d7, by go_num, by omega, by simp [HLN.out.1], by simp [HLN.out.2], fun v hv => by
        rcases List.mem_append.1 hv with hv | hv
        ·exact HFB.out v hv
        ·rw [List.mem_singleton] at hv; subst hv; exact HVB.out, HM8.out⟩
       case measure => simp [intOf]; omega
     ·have hi0b : ((i : Int) == 0) = false := by simp; omega
      have HVB := Lib.hid (show 0 ≤ (0 : Int) ∧ (0 : Int) ≤ 2 by omega)
      go_wp2_with (at_builtin; refine wpList_append_sl rfl (.tmp 46) (.tmp 48) 22 rfl 3 ii _ 1 8 Tryd.underlying22 HJ.out.1 HJ.out.2.1 HJ.out.2.2.1 HJ.out.2.2.2 rfl (by decide) a2 fl.length c2 (fl.map (Value.int .i64)) rfl (HM6.out.s2.alloc _) ⟨w6.heap.size, 0, none⟩ 1 1 [.int .i64 ((0 : Int))] rfl rfl (news_row' _ _ _ _ rfl) (int_one _) (by decide) (by omega) (by omega) ?hkC)
      case hkC =>
       intro g7 d7 w7 hs7 hk7 hg7
       have hm7 := HM6.out.keep (Keeps.a1 w6 (.cells #[.int .i64 ((0 : Int))] 3))
       have hb7 := hk7.heap hm7.box hm7.nX.2.1
       have y2 : w7.cell? ⟨X, 2, none⟩ = some (.slice (a2.map fun g => ⟨g, 0, none⟩) fl.length c2) := by simp [World.cell?, hb7]
       have yf : w7.frozen? ⟨X, 2, none⟩ = false := by simp [World.frozen?, hb7]
       have HM8 := Lib.hid (hm7.push2 hs7 hk7 (by rcases hg7 with h | h; exact .inl h; exact .inr (by simpa using h)))
       clear hs7 hk7 hg7 hm7 hb7
       go_wp2
       go_roundw
       case rel => exact ⟨i + 1, _, _, some g6, d6, some g7, d7, by go_num, by omega, by simp [HLN.out.1], by simp [HLN.out.2], fun v hv => by
        rcases List.mem_append.1 hv with hv | hv
        ·exact HFB.out v hv
        ·rw [List.mem_singleton] at hv; subst hv; exact HVB.out, HM8.out⟩
       case measure => simp [intOf]; omega
  ·obtain rfl : n = i := by omega
   have HM1 := Lib.hid hsm
   have HF1 := Lib.hid hfb
   have hM25 : n * n ≤ 25 := Nat.mul_le_mul hn1b hn1b
   obtain ⟨M1, hM1⟩ : ∃ M1, M1 = n * n := ⟨_, rfl⟩
   have hm1 : IntKind.i64.wrap ((n : Int) * (n : Int)) = (M1 : Int) := by rw [← Int.natCast_mul, ← hM1, IntWalk.i64_in _ (by omega)]
   have hm2 : IntKind.i64.wrap ((M1 : Int) * 2) = ((M1 * 2 : Nat) : Int) := by rw [IntWalk.i64_in _ (by omega)]; simp
   obtain ⟨M2, hM2⟩ : ∃ M2, M2 = M1 * 2 := ⟨_, rfl⟩
   rw [← hM2] at hm2
   have hM50 : M2 ≤ 50 := by omega
   have HM2 := Lib.hid (show M2 = n * n * 2 by rw [hM2, hM1])
   have HNL := Lib.hid (And.intro hnl hfl)
   clear hsm hnl hfl hfb hM1 hM2 hM25
   go_wp2
   go_loopw [7] (fun v wr => ∃ (q : Nat) (el : List E4) (a3 : Option Nat) (c3 : Nat), v = .int .i64 q ∧ q ≤ M2 ∧ Sor n q el ∧ SM Y wr X (.slice (some ⟨B + 1 + 1 + 1, 0, none⟩) 2 2) nl fl el a1 c1 a2 c2 a3 c3) (fun v _ => M2 - (intOf v).toNat)
   case atStart => exact ⟨0, [], none, 0, rfl, Nat.zero_le _, Sor.start n, HM1.out⟩
   case round =>
    obtain ⟨q, el, a3, c3, rfl, hq, hso, hsm⟩ := hrel
    obtain ⟨wB, hwB⟩ : ∃ wB : World, wB = wr := ⟨_, rfl⟩
    subst hwB
    have HM := Lib.hid hsm
    have HSO := Lib.hid hso
    by_cases hqn : q < M2
    ·have HKW := Lib.hid (show Keeps [] w wB from (HKY.out.trans ((Keeps.refl [] Y))).after hsm.kp (fun q hq => .inr (by simp at hq; subst hq; have := HSY.out; omega)))
     have hell : el.length ≤ 50 := by have := hso.len; omega
     have hw7 : IntKind.i64.wrap (7 + (q : Int)) = 7 + q := IntWalk.i64_in _ (by omega)
     clear hsm hso
     go_wp2_with fail
     refine Calls.mono (HPK.out wB HKW.out _ 1000 (by omega)) ?_
     rintro e w6 ⟨k, hk0, hk1, rfl, rfl⟩
     have hr4 : Int.tmod k 4 = k % 4 := Int.tmod_eq_emod_of_nonneg hk0
     have hr60 : Int.tmod k 60 = k % 60 := Int.tmod_eq_emod_of_nonneg hk0
     obtain ⟨r4, hr4e⟩ : ∃ r, r = k % 4 := ⟨_, rfl⟩
     obtain ⟨r60, hr60e⟩ : ∃ r, r = k % 60 := ⟨_, rfl⟩
     rw [← hr4e] at hr4
     rw [← hr60e] at hr60
     have hrw4 : IntKind.i64.wrap r4 = r4 := IntWalk.i64_in _ (by omega)
     have hrw60 : IntKind.i64.wrap r60 = r60 := IntWalk.i64_in _ (by omega)
     clear hr4e hr60e
     by_cases h4 : r4 = 0
     ·have h4b : (r4 == 0) = true := by simp [h4]
      have h4w : (IntKind.i64.wrap r4 == 0) = true := by rw [hrw4]; exact h4b
      have HSP := Lib.hid (fun (ws : Int) (hws : 1 ≤ ws ∧ ws ≤ 2) => HSO.out.push hn1a (by rw [← HM2.out]; exact hqn) hws)
      obtain ⟨ea, hea⟩ : ∃ v : Int, v = ((q / 2 / n : Nat) : Int) := ⟨_, rfl⟩
      obtain ⟨eb, heb⟩ : ∃ v : Int, v = ((q / 2 % n : Nat) : Int) := ⟨_, rfl⟩
      obtain ⟨ec, hec⟩ : ∃ v : Int, v = ((q % 2 : Nat) : Int) := ⟨_, rfl⟩
      rw [← hea, ← heb, ← hec] at HSP
      obtain ⟨qh, hqh⟩ : ∃ qh : Nat, qh = q / 2 := ⟨_, rfl⟩
      have hq2 : Int.tdiv (q : Int) 2 = (qh : Int) := by rw [Int.tdiv_eq_ediv_of_nonneg (by omega), hqh]; simp
      have hqhb : qh ≤ 50 := by omega
      have hqw : IntKind.i64.wrap (qh : Int) = (qh : Int) := IntWalk.i64_in _ (by omega)
      have hnz2 : ¬ n = 0 := by omega
      have hd1 : Int.tdiv (qh : Int) (n : Int) = ea := by rw [Int.tdiv_eq_ediv_of_nonneg (by omega), hea, hqh]; simp
      have hd2 : Int.tmod (qh : Int) (n : Int) = eb := by rw [Int.tmod_eq_emod_of_nonneg (by omega), heb, hqh]; simp
      have hd3 : Int.tmod (q : Int) 2 = ec := by rw [Int.tmod_eq_emod_of_nonneg (by omega), hec]; simp
      have heab : 0 ≤ ea ∧ ea ≤ 50 := by
       have h := Nat.div_le_self (q / 2) n
       rw [hea]
       generalize q / 2 / n = u at h ⊢
       omega
      have hebb : 0 ≤ eb ∧ eb ≤ 50 := by
       have h := Nat.mod_lt (q / 2) (show 0 < n by omega)
       rw [heb]
       generalize q / 2 % n = u at h ⊢
       omega
      have hecb : 0 ≤ ec ∧ ec ≤ 50 := by rw [hec]; omega
      have hwa : IntKind.i64.wrap ea = ea := IntWalk.i64_in _ (by omega)
      have hwb : IntKind.i64.wrap eb = eb := IntWalk.i64_in _ (by omega)
      have hwc : IntKind.i64.wrap ec = ec := IntWalk.i64_in _ (by omega)
      clear hea heb hec hqh
      go_upto_region 16 with fail
      clear hr4 hrw4 h4w h4 h4b
      have HR60 := Lib.hid (And.intro hr60 hrw60)
      clear hr60 hrw60
      refine wp_region_held_drew (S := fun _ => True) (by kernel_rfl) trivial (fun hHeld => ?_)
      refine take_on (i := 0) (v := ?_) rfl (by kernel_rfl) (by kernel_rfl) (by kernel_rfl) (fun _ _ _ h => h) (by rfl) (by assumption) ?_ ?_
      rotate_left
      ·((intro w hSw; (try dsimp only at hSw); go_simp <;> with_reducible rfl); done)
      try simp only [Act.put, List.setIfInBounds_toArray, List.set_cons_zero, List.set_cons_succ]
      refine take_on (i := 1) (v := ?_) rfl (by kernel_rfl) (by kernel_rfl) (by kernel_rfl) (fun _ _ _ h => h) (by rfl) (by assumption) ?_ ?_
      rotate_left
      ·((intro w hSw; (try dsimp only at hSw); go_simp <;> with_reducible rfl); done)
      try simp only [Act.put, List.setIfInBounds_toArray, List.set_cons_zero, List.set_cons_succ]
      refine take_on (i := 2) (v := ?_) rfl (by kernel_rfl) (by kernel_rfl) (by kernel_rfl) (fun _ _ _ h => h) (by rfl) (by assumption) ?_ ?_
      rotate_left
      ·((intro w hSw; (try dsimp only at hSw); go_simp <;> with_reducible rfl); done)
      try simp only [Act.put, List.setIfInBounds_toArray, List.set_cons_zero, List.set_cons_succ]
      refine take_on (i := 3) (v := ?_) rfl (by kernel_rfl) (by kernel_rfl) (by kernel_rfl) (fun _ _ _ h => h) (by rfl) (by assumption) ?_ ?_
      rotate_left
      ·((intro w hSw; (try dsimp only at hSw); go_simp <;> with_reducible rfl); done)
      try simp only [Act.put, List.setIfInBounds_toArray, List.set_cons_zero, List.set_cons_succ]
      refine take_on (i := 4) (v := ?_) rfl (by kernel_rfl) (by kernel_rfl) (by kernel_rfl) (fun _ _ _ h => h) (by rfl) (by assumption) ?_ ?_
      rotate_left
      ·((intro w hSw; (try dsimp only at hSw); go_simp <;> with_reducible rfl); done)
      try simp only [Act.put, List.setIfInBounds_toArray, List.set_cons_zero, List.set_cons_succ]
      refine take_on (i := 5) (v := ?_) rfl (by kernel_rfl) (by kernel_rfl) (by kernel_rfl) (fun _ _ _ h => h) (by rfl) (by assumption) ?_ ?_
      rotate_left
      ·((intro w hSw; (try dsimp only at hSw); go_simp <;> with_reducible rfl); done)
      try simp only [Act.put, List.setIfInBounds_toArray, List.set_cons_zero, List.set_cons_succ]
      refine take_on (i := 6) (v := ?_) rfl (by kernel_rfl) (by kernel_rfl) (by kernel_rfl) (fun _ _ _ h => h) (by rfl) (by assumption) ?_ ?_
      rotate_left
      ·((intro w hSw; (try dsimp only at hSw); go_simp <;> with_reducible rfl); done)
      try simp only [Act.put, List.setIfInBounds_toArray, List.set_cons_zero, List.set_cons_succ]
      refine take_on (i := 7) (v := ?_) rfl (by kernel_rfl) (by kernel_rfl) (by kernel_rfl) (fun _ _ _ h => h) (by rfl) (by assumption) ?_ ?_
      rotate_left
      ·((intro w hSw; (try dsimp only at hSw); go_simp <;> with_reducible rfl); done)
      try simp only [Act.put, List.setIfInBounds_toArray, List.set_cons_zero, List.set_cons_succ]
      refine take_on (i := 8) (v := ?_) rfl (by kernel_rfl) (by kernel_rfl) (by kernel_rfl) (fun _ _ _ h => h) (by rfl) (by assumption) ?_ ?_
      rotate_left
      ·((intro w hSw; (try dsimp only at hSw); go_simp <;> with_reducible rfl); done)
      try simp only [Act.put, List.setIfInBounds_toArray, List.set_cons_zero, List.set_cons_succ]
      refine take_on (i := 9) (v := ?_) rfl (by kernel_rfl) (by kernel_rfl) (by kernel_rfl) (fun _ _ _ h => h) (by rfl) (by assumption) ?_ ?_
      rotate_left
      ·((intro w hSw; (try dsimp only at hSw); go_simp <;> with_reducible rfl); done)
      try simp only [Act.put, List.setIfInBounds_toArray, List.set_cons_zero, List.set_cons_succ]
      refine take_on (i := 10) (v := ?_) rfl (by kernel_rfl) (by kernel_rfl) (by kernel_rfl) (fun _ _ _ h => h) (by rfl) (by assumption) ?_ ?_
      rotate_left
      ·((intro w hSw; (try dsimp only at hSw); go_simp <;> with_reducible rfl); done)
      try simp only [Act.put, List.setIfInBounds_toArray, List.set_cons_zero, List.set_cons_succ]
      refine branch_one (i := 11) rfl (by kernel_rfl) (by rfl) (fun K hK => ?_)
      go_simp
      obtain ⟨D, hD⟩ : ∃ D, D = wB.heap.size := ⟨_, rfl⟩
      obtain ⟨W0, hW0⟩ : ∃ W0, W0 = (wB.alloc (.cells #[.int .i64 0, .int .i64 0, .int .i64 0, .int .i64 0] 47)).drew := ⟨_, rfl⟩
      have hk0_ : Keeps [] wB W0 := by rw [hW0]; exact (Keeps.a1 _ _).drew
      have hr0 : W0.heap[D]? = some (.cells #[.int .i64 0, .int .i64 0, .int .i64 0, .int .i64 0] 47 (0, 0)) := by rw [hW0, hD]; exact heap_alloc_new wB _
      rw [← hW0, ← hD]
      have v0 : W0.cell? ⟨D, 0, none⟩ = some (.int .i64 0) := by simp [World.cell?, hr0]
      have v1 : W0.cell? ⟨D, 1, none⟩ = some (.int .i64 0) := by simp [World.cell?, hr0]
      have v2 : W0.cell? ⟨D, 2, none⟩ = some (.int .i64 0) := by simp [World.cell?, hr0]
      have v3 : W0.cell? ⟨D, 3, none⟩ = some (.int .i64 0) := by simp [World.cell?, hr0]
      have vf : ∀ i, W0.frozen? ⟨D, i, none⟩ = false := fun i => by simp [World.frozen?, hr0]
      have vf0 := vf 0
      have vf1 := vf 1
      have vf2 := vf 2
      have vf3 := vf 3
      have HR0 := Lib.hid hr0
      have HK0 := Lib.hid hk0_
      have HDD := Lib.hid hD
      clear hD hW0 hk0_ hr0 vf
      refine hK.out _ _ (trivial) (fun hHeld => ?_)
      clear hK K
      try simp only [Act.put, List.setIfInBounds_toArray, List.set_cons_zero, List.set_cons_succ]
      refine branch_one (i := 12) rfl (by kernel_rfl) (by rfl) (fun K hK => ?_)
      go_simp
      obtain ⟨Z, hZ⟩ : ∃ Z, Z = (((W0.setCell ⟨D, 0, none⟩ (.int .i64 ea)).setCell ⟨D, 1, none⟩ (.int .i64 eb)).setCell ⟨D, 2, none⟩ (.int .i64 ec)).setCell ⟨D, 3, none⟩ (.int .i64 1) := ⟨_, rfl⟩
      have hkz : Keeps [D] W0 Z := by rw [hZ]; exact ((((Keeps.refl [D] W0).setCell (by simp) _).setCell (by simp) _).setCell (by simp) _).setCell (by simp) _
      have hrz : Z.heap[D]? = some (.cells #[.int .i64 ea, .int .i64 eb, .int .i64 ec, .int .i64 1] 47 (0, 0)) := by rw [hZ]; exact set4_row HR0.out
      have HKZ := Lib.hid (show Keeps [] wB Z from HK0.out.after hkz (fun q hq => .inr (by simp at hq; subst hq; exact Nat.le_of_eq HDD.out.symm)))
      rw [← hZ]
      clear v0 v1 v2 v3 vf0 vf1 vf2 vf3 hZ hkz
      refine hK.out _ _ (trivial) (fun hHeld => ?_)
      clear hK K
      try simp only [Act.put, List.setIfInBounds_toArray, List.set_cons_zero, List.set_cons_succ]
      refine wpAnyH_done (by kernel_rfl) ?_ _
      have z0 : Z.cell? ⟨D, 0, none⟩ = some (.int .i64 ea) := by simp [World.cell?, hrz]
      have z1 : Z.cell? ⟨D, 1, none⟩ = some (.int .i64 eb) := by simp [World.cell?, hrz]
      have z2 : Z.cell? ⟨D, 2, none⟩ = some (.int .i64 ec) := by simp [World.cell?, hrz]
      have z3 : Z.cell? ⟨D, 3, none⟩ = some (.int .i64 1) := by simp [World.cell?, hrz]
      have zf3 : Z.frozen? ⟨D, 3, none⟩ = false := by simp [World.frozen?, hrz]
      have HRZ := Lib.hid hrz
      have HMZ0 := Lib.hid (HM.out.keep HKZ.out)
      have hr60 := HR60.out.1
      have hrw60 := HR60.out.2
      clear hrz hq2 hqw hd1 hd2 hd3 hwa hwb hwc hnz2
      by_cases h60 : r60 = 0
      ·have h60b : (r60 == 0) = true := by simp [h60]
       obtain ⟨ZW, hZW⟩ : ∃ ZW, ZW = Z.setCell ⟨D, 3, none⟩ (.int .i64 2) := ⟨_, rfl⟩
       have hkw2 : Keeps [D] Z ZW := by rw [hZW]; exact (Keeps.refl [D] Z).setCell (by simp) _
       have hrw2 : ZW.heap[D]? = some (.cells #[.int .i64 ea, .int .i64 eb, .int .i64 ec, .int .i64 2] 47 (0, 0)) := by
        rw [hZW, heap_setCell_same _ D 3 _ _ _ HRZ.out]
        simp
       have HMZ := Lib.hid (HM.out.keep (show Keeps [] wB ZW from HKZ.out.after hkw2 (fun q hq => .inr (by simp at hq; subst hq; exact Nat.le_of_eq HDD.out.symm))))
       have HZW := Lib.hid hZW
       have HRW2 := Lib.hid hrw2
       clear hZW hkw2 hrw2
       go_upto_region 19 with fail
       rw [← HZW.out]
       have hrw2 := HRW2.out
       clear z0 z1 z2 z3 zf3 hr60 hrw60 h60b h60
       have z0 : ZW.cell? ⟨D, 0, none⟩ = some (.int .i64 ea) := by simp [World.cell?, hrw2]
       have z1 : ZW.cell? ⟨D, 1, none⟩ = some (.int .i64 eb) := by simp [World.cell?, hrw2]
       have z2 : ZW.cell? ⟨D, 2, none⟩ = some (.int .i64 ec) := by simp [World.cell?, hrw2]
       have z3 : ZW.cell? ⟨D, 3, none⟩ = some (.int .i64 2) := by simp [World.cell?, hrw2]
       clear hrw2
       obtain ⟨_, _, y3, yf⟩ := HMZ.out.cells
       have yf3 := yf 3
       clear yf
       go_wp2_with (at_builtin; refine wpList_append_sl rfl (.tmp 82) (.tmp 84) 28 rfl 47 ie _ 4 32 Tryd.underlying28 HI.out.1 HI.out.2.1 HI.out.2.2.1 HI.out.2.2.2 rfl (by decide) a3 el.length c3 (flatE el) rfl (HMZ.out.s3.alloc _) ⟨ZW.heap.size, 0, none⟩ 1 1 (E4.cells ⟨ea, eb, ec, 2⟩) rfl rfl (news_row' _ _ _ _ rfl) (by intro u hu; simp [E4.cells] at hu; rcases hu with rfl | rfl | rfl | rfl <;> rfl) (by decide) (by omega) (by omega) ?hkP)
       case hkP =>
        intro g7 d7 w7 hs7 hk7 hg7
        have hm7 := HMZ.out.keep (Keeps.a1 ZW (.cells #[.int .i64 ea, .int .i64 eb, .int .i64 ec, .int .i64 2] 47))
        have hb7 := hk7.heap hm7.box hm7.nX.2.2
        have y3 : w7.cell? ⟨X, 3, none⟩ = some (.slice (a3.map fun g => ⟨g, 0, none⟩) el.length c3) := by simp [World.cell?, hb7]
        have yf : w7.frozen? ⟨X, 3, none⟩ = false := by simp [World.frozen?, hb7]
        have HM8 := Lib.hid (hm7.push3 (v := ⟨ea, eb, ec, 2⟩) hs7 hk7 (by rcases hg7 with h | h; exact .inl h; exact .inr (by simpa using h)))
        clear hs7 hk7 hg7 hm7 hb7
        go_wp2
        go_roundw
        case rel => exact ⟨q + 1, _, some g7, d7, by go_num, by omega, HSP.out 2 (by decide), HM8.out⟩
        case measure => simp [intOf]; omega
      ·have h60b : (r60 == 0) = false := by simp [h60]
       obtain ⟨ZW, rfl⟩ : ∃ ZW, ZW = Z := ⟨_, rfl⟩
       have HMZ := HMZ0
       go_upto_region 19 with fail
       clear zf3 hr60 hrw60 h60b
       obtain ⟨_, _, y3, yf⟩ := HMZ.out.cells
       have yf3 := yf 3
       clear yf
       go_wp2_with (at_builtin; refine wpList_append_sl rfl (.tmp 82) (.tmp 84) 28 rfl 47 ie _ 4 32 Tryd.underlying28 HI.out.1 HI.out.2.1 HI.out.2.2.1 HI.out.2.2.2 rfl (by decide) a3 el.length c3 (flatE el) rfl (HMZ.out.s3.alloc _) ⟨ZW.heap.size, 0, none⟩ 1 1 (E4.cells ⟨ea, eb, ec, 1⟩) rfl rfl (news_row' _ _ _ _ rfl) (by intro u hu; simp [E4.cells] at hu; rcases hu with rfl | rfl | rfl | rfl <;> rfl) (by decide) (by omega) (by omega) ?hkR)
       case hkR =>
        intro g7 d7 w7 hs7 hk7 hg7
        have hm7 := HMZ.out.keep (Keeps.a1 ZW (.cells #[.int .i64 ea, .int .i64 eb, .int .i64 ec, .int .i64 1] 47))
        have hb7 := hk7.heap hm7.box hm7.nX.2.2
        have y3 : w7.cell? ⟨X, 3, none⟩ = some (.slice (a3.map fun g => ⟨g, 0, none⟩) el.length c3) := by simp [World.cell?, hb7]
        have yf : w7.frozen? ⟨X, 3, none⟩ = false := by simp [World.frozen?, hb7]
        have HM8 := Lib.hid (hm7.push3 (v := ⟨ea, eb, ec, 1⟩) hs7 hk7 (by rcases hg7 with h | h; exact .inl h; exact .inr (by simpa using h)))
        clear hs7 hk7 hg7 hm7 hb7
        go_wp2
        go_roundw
        case rel => exact ⟨q + 1, _, some g7, d7, by go_num, by omega, HSP.out 1 (by decide), HM8.out⟩
        case measure => simp [intOf]; omega
     ·have h4b : (r4 == 0) = false := by simp [h4]
      have HE := Lib.hid (HSO.out.skip)
      clear hr60 hrw60
      go_wp2
      go_roundw
      case rel => exact ⟨q + 1, el, a3, c3, by go_num, by omega, HE.out, HM.out⟩
      case measure => simp [intOf]; omega
    ·obtain rfl : M2 = q := by omega
     have hbx := hsm.box
     have hra := hsm.kp.heap HRA.out (by simp; have := HSY.out; omega)
     have x0 : wB.cell? ⟨X, 0, none⟩ = some (.slice (some ⟨B + 1 + 1 + 1, 0, none⟩) 2 2) := by simp [World.cell?, hbx]
     obtain ⟨x1, x2, x3, _⟩ := hsm.cells
     have r0 : wB.cell? ⟨B, 0, none⟩ = some (.slice none 0 0) := by simp [World.cell?, hra]
     have r1 : wB.cell? ⟨B, 1, none⟩ = some (.slice none 0 0) := by simp [World.cell?, hra]
     have r2 : wB.cell? ⟨B, 2, none⟩ = some (.slice none 0 0) := by simp [World.cell?, hra]
     have r3 : wB.cell? ⟨B, 3, none⟩ = some (.slice none 0 0) := by simp [World.cell?, hra]
     have rf : ∀ i, wB.frozen? ⟨B, i, none⟩ = false := fun i => by simp [World.frozen?, hra]
     have rf0 := rf 0
     have rf1 := rf 1
     have rf2 := rf 2
     have rf3 := rf 3
     have HROW := Lib.hid (set4_row (v0 := .slice (some ⟨B + 1 + 1 + 1, 0, none⟩) 2 2) (v1 := .slice (a1.map fun g => ⟨g, 0, none⟩) nl.length c1) (v2 := .slice (a2.map fun g => ⟨g, 0, none⟩) fl.length c2) (v3 := .slice (a3.map fun g => ⟨g, 0, none⟩) el.length c3) hra)
     clear hsm hso hbx hra rf
     go_wp2
     obtain ⟨wE, hwE⟩ : ∃ wE, wE = (((wB.setCell ⟨B, 0, none⟩ (.slice (some ⟨B + 1 + 1 + 1, 0, none⟩) 2 2)).setCell ⟨B, 1, none⟩ (.slice (a1.map fun g => ⟨g, 0, none⟩) nl.length c1)).setCell ⟨B, 2, none⟩ (.slice (a2.map fun g => ⟨g, 0, none⟩) fl.length c2)).setCell ⟨B, 3, none⟩ (.slice (a3.map fun g => ⟨g, 0, none⟩) el.length c3) := ⟨_, rfl⟩
     have hkE : Keeps [B] wB wE := by rw [hwE]; exact ((((Keeps.refl [B] wB).setCell (by simp) _).setCell (by simp) _).setCell (by simp) _).setCell (by simp) _
     rw [← hwE] at HROW ⊢
     have hs := HM.out
     obtain ⟨hsy1, hsy2, hsy3⟩ := HSY.out
     have hYE : Keeps [X, B] Y wE := (hs.kp.mono (by simp)).trans (hkE.mono (by simp))
     have HKW := Lib.hid (show Keeps [] w wE from (HKY.out.trans (Keeps.refl [] Y)).after hYE (fun q hq => .inr (by simp at hq; omega)))
     obtain ⟨hb1, hb2, hb3⟩ := HROWS.out
     have hb1 := hYE.heap hb1 (by simp; omega)
     have hb2 := hYE.heap hb2 (by simp; omega)
     have hb3 := hYE.heap hb3 (by simp; omega)
     have hnew : ∀ g, Y.heap.size ≤ g → g ∉ [B] := fun g hg hm => by simp at hm; omega
     have HGR := Lib.hid (show GrIn wE ⟨some ⟨B + 1 + 1 + 1, 0, none⟩, 2, [⟨some ⟨B + 1, 0, none⟩, 1, [(97, 97)]⟩, ⟨some ⟨B + 1 + 1, 0, none⟩, 1, [(98, 99)]⟩], a1.map fun g => ⟨g, 0, none⟩, c1, nl, a2.map fun g => ⟨g, 0, none⟩, c2, fl, a3.map fun g => ⟨g, 0, none⟩, c3, el⟩ from by
      refine ⟨fun _ => ⟨B + 1 + 1 + 1, 0, rfl, fun i hi => ?_⟩, fun k hk => ?_, (hs.s1.keep hkE (fun g hg => hnew g (hs.n1 g hg))).to_in, (hs.s2.keep hkE (fun g hg => hnew g (hs.n2 g hg))).to_in, (hs.s3.keep hkE (fun g hg => hnew g (hs.n3 g hg))).edIn rfl, by simp, ?_, ?_, ?_, fun k hk => ?_⟩
      ·have hi2 : i < 2 := hi
       rcases (by omega : i = 0 ∨ i = 1) with rfl | rfl
       ·simp [World.cell?, hb3]
       ·simp [World.cell?, hb3]
      ·simp only [List.mem_cons, List.not_mem_nil, or_false] at hk
       rcases hk with rfl | rfl
       ·refine fun _ => ⟨B + 1, 0, rfl, fun i hi => ?_⟩
        obtain rfl : i = 0 := by simpa using hi
        simp [World.cell?, hb1]
       ·refine fun _ => ⟨B + 1 + 1, 0, rfl, fun i hi => ?_⟩
        obtain rfl : i = 0 := by simpa using hi
        simp [World.cell?, hb2]
      ·have := HNL.out.1; simp only; omega
      ·have := HNL.out.2; simp only; omega
      ·have := HSO.out.len; simp only; omega
      ·simp only [List.mem_cons, List.not_mem_nil, or_false] at hk
       rcases hk with rfl | rfl <;> simp)
     have HSX := Lib.hid (show SomeX ⟨some ⟨B + 1 + 1 + 1, 0, none⟩, 2, [⟨some ⟨B + 1, 0, none⟩, 1, [(97, 97)]⟩, ⟨some ⟨B + 1 + 1, 0, none⟩, 1, [(98, 99)]⟩], a1.map fun g => ⟨g, 0, none⟩, c1, nl, a2.map fun g => ⟨g, 0, none⟩, c2, fl, a3.map fun g => ⟨g, 0, none⟩, c3, el⟩ from
      ⟨by have h := HNL.out.1; simp only; omega, by have h1 := HNL.out.1; have h2 := HNL.out.2; simp only; omega, HF1.out, ⟨M2, hM50, by have h := HNL.out.1; simp only; rw [h]; exact HSO.out⟩, ⟨_, _, _, _, rfl⟩⟩)
     clear hwE hkE hs hsy1 hsy2 hsy3 hYE hb1 hb2 hb3 hnew x0 x1 x2 x3 r0 r1 r2 r3 rf0 rf1 rf2 rf3
     refine bodyPost_ret (results_cell_row rfl _ _ B 30 #[.slice (some ⟨B + 1 + 1 + 1, 0, none⟩) 2 2, .slice (a1.map fun g => ⟨g, 0, none⟩) nl.length c1, .slice (a2.map fun g => ⟨g, 0, none⟩) fl.length c2, .slice (a3.map fun g => ⟨g, 0, none⟩) el.length c3] (0, 0) _ rfl HROW.out Tryd.underlying30 rfl sizeRG) rfl ?_
     rw [HQ.out]
     exact ⟨HKW.out, _, rfl, HGR.out, HSX.out⟩
end Go.Proofs.YtphnbmdcgcchaaaDoor
