/- The reference model's Shares: it answers as meter.Shares does. Conditions: the weights lie in memory. -/
import Derived.Test.YtdpmkbiibmjbfaaAnswer
import Derived.Test.YtdpmkbiibmjbfaaAppend
import Derived.Deep.DeepCutAuto
namespace Go.Proofs.Ytdpmkbiibmjbfaa
open Go.RowKit

theorem refs_badTotal (T : Int) (a : Option Addr) (n c : Nat) (w : World) (h : outB T 0 1099511627776 = true) :
    Calls Try.prog 12 #[.int .i64 T, .slice a n c] w fun e w' => e = .returned (.tuple #[.slice none 0 0, .int .i64 1]) ∧ Keeps [] w w' := by
  by_cases h0 : T < 0
  · clear h
    go_enter Try.func12, Try.ntmps12
    go_wp2
    go_ret2
    exact ⟨rfl, Keeps.refl _ _⟩
  · have h1 : 1099511627776 < T := by simp [outB] at h; omega
    clear h
    go_enter Try.func12, Try.ntmps12
    go_wp2
    go_ret2
    exact ⟨rfl, Keeps.refl _ _⟩

set_option maxHeartbeats 1000000 in
theorem refs_badWeight (T : Int) (ws : List Int) (b off c : Nat) (w : World) (ht0 : 0 ≤ T) (ht1 : T ≤ 1099511627776) (hlen : ws.length ≤ 1000000) (m : Nat) (hm : m < ws.length) (hbad : outB (ws.getD m 0) 0 1048576 = true)
    (hc : ∀ j, j < ws.length → w.cell? ⟨b, off + j, none⟩ = some (.int .i64 (ws.getD j 0))) :
    Calls Try.prog 12 #[.int .i64 T, .slice (some ⟨b, off, none⟩) ws.length c] w fun e w' => e = .returned (.tuple #[.slice none 0 0, .int .i64 1]) ∧ Keeps [] w w' := by
  have HC := Lib.hid hc
  have HBAD := Lib.hid hbad
  clear hc hbad
  go_enter Try.func12, Try.ntmps12
  go_wp2
  go_loop [6, 7] (fun s i => ∃ (k : Nat) (t : Int), k ≤ m ∧ i = .int .i64 k ∧ s = .int .i64 t ∧ 0 ≤ t ∧ t ≤ 1048576 * k) (fun _ i => ws.length - (intOf i).toNat)
  case atStart => exact ⟨0, 0, Nat.zero_le _, rfl, rfl, by omega, by omega⟩
  case round =>
    obtain ⟨k, t, hk, rfl, rfl, hs0, hs1⟩ := hrel
    have hlt : k < ws.length := by omega
    have hcx := (HC.out k hlt)
    obtain ⟨x, hx⟩ : ∃ x, x = ws.getD k 0 := ⟨_, rfl⟩
    rw [← hx] at hcx
    have HX := Lib.hid hx
    clear hx
    by_cases c0 : x < 0
    · go_wp2
      go_ret2
      exact ⟨rfl, Keeps.refl _ _⟩
    · by_cases c1 : 1048576 < x
      · go_wp2
        go_ret2
        exact ⟨rfl, Keeps.refl _ _⟩
      · have hne : k ≠ m := by
          rintro rfl
          have := HBAD.out
          rw [← HX.out] at this
          simp [outB] at this
          omega
        go_wp2
        go_round
        case rel => exact ⟨k + 1, t + x, by omega, by go_num, rfl, by omega, by omega⟩
        case measure => simp [intOf]; omega

set_option maxHeartbeats 1000000 in
theorem refs_many (T : Int) (ws : List Int) (b off c : Nat) (w : World) (ht0 : 0 ≤ T) (ht1 : T ≤ 1099511627776) (hlen : ws.length ≤ 1000000) (hw : ∀ x ∈ ws, 0 ≤ x ∧ x ≤ 1048576) (hl : 500 < ws.length)
    (hc : ∀ j, j < ws.length → w.cell? ⟨b, off + j, none⟩ = some (.int .i64 (ws.getD j 0))) :
    Calls Try.prog 12 #[.int .i64 T, .slice (some ⟨b, off, none⟩) ws.length c] w fun e w' => e = .returned (.tuple #[.slice none 0 0, .int .i64 4]) ∧ Keeps [] w w' := by
  have HC := Lib.hid hc
  have HW := Lib.hid hw
  clear hc hw
  go_enter Try.func12, Try.ntmps12
  go_wp2
  go_loop [6, 7] (fun s i => ∃ (k : Nat) (t : Int), k ≤ ws.length ∧ i = .int .i64 k ∧ s = .int .i64 t ∧ 0 ≤ t ∧ t ≤ 1048576 * k) (fun _ i => ws.length - (intOf i).toNat)
  case atStart => exact ⟨0, 0, Nat.zero_le _, rfl, rfl, by omega, by omega⟩
  case round =>
    obtain ⟨k, t, hk, rfl, rfl, hs0, hs1⟩ := hrel
    by_cases hlt : k < ws.length
    · obtain ⟨x0, x1⟩ := HW.out (ws.getD k 0) (mem_getD hlt)
      have hcx := (HC.out k hlt)
      generalize ws.getD k 0 = x at *
      go_wp2
      go_round
      case rel => exact ⟨k + 1, t + x, by omega, by go_num, rfl, by omega, by omega⟩
      case measure => simp [intOf]; omega
    · obtain rfl : k = ws.length := by omega
      go_wp2
      go_ret2
      exact ⟨rfl, Keeps.refl _ _⟩

set_option maxHeartbeats 1000000 in
theorem refs_zero (T : Int) (ws : List Int) (a : Option Addr) (c : Nat) (w : World) (ht0 : 0 ≤ T) (ht1 : T ≤ 1099511627776) (hw : ∀ x ∈ ws, 0 ≤ x ∧ x ≤ 1048576) (hl : ws.length ≤ 500) (hs : sumL ws = 0) (hx : IntsIn w a ws) :
    Calls Try.prog 12 #[.int .i64 T, .slice a ws.length c] w fun e w' => e = .returned (.tuple #[.slice none 0 0, .int .i64 5]) ∧ Keeps [] w w' := by
  have HX := Lib.hid hx
  have HW := Lib.hid hw
  have HS := Lib.hid hs
  clear hx hw hs
  go_enter Try.func12, Try.ntmps12
  go_wp2
  go_loop [6, 7] (fun s i => ∃ (k : Nat), k ≤ ws.length ∧ i = .int .i64 k ∧ s = .int .i64 (sumL (ws.take k))) (fun _ i => ws.length - (intOf i).toNat)
  case atStart => exact ⟨0, Nat.zero_le _, rfl, rfl⟩
  case round =>
    obtain ⟨k, hk, rfl, rfl⟩ := hrel
    by_cases hlt : k < ws.length
    · obtain ⟨x0, x1⟩ := HW.out (ws.getD k 0) (mem_getD hlt)
      obtain ⟨b, off, rfl, hc⟩ := HX.out (by omega)
      have hcx := (hc k hlt)
      have hst := sumL_take ws k hlt
      have hsb := sumL_bd (ws.take k) 1048576 (fun x hx => HW.out x (List.mem_of_mem_take hx))
      have hlk : (ws.take k).length = k := by simp; omega
      rw [hlk] at hsb
      obtain ⟨sb0, sb1⟩ := hsb
      generalize ws.getD k 0 = x at *
      have HST := Lib.hid hst
      clear hst hc hlk
      go_wp2
      go_round
      case rel => exact ⟨k + 1, by omega, by go_num, by rw [HST.out]⟩
      case measure => simp [intOf]; omega
    · obtain rfl : k = ws.length := by omega
      rw [List.take_length, HS.out]
      go_wp2
      go_ret2
      exact ⟨rfl, Keeps.refl _ _⟩

set_option maxRecDepth 100000 in
set_option maxHeartbeats 8000000 in
theorem refs_parts (T : Int) (ws ord : List Int) (b off c0 : Nat) (w : World) (ht0 : 0 ≤ T) (ht1 : T ≤ 1099511627776) (hw : ∀ x ∈ ws, 0 ≤ x ∧ x ≤ 1048576) (hl : ws.length ≤ 500) (hs : 0 < sumL ws)
    (hp : ord.Perm (upTo ws.length)) (hpw : ord.Pairwise (Before (keyOf T (sumL ws) ws)))
    (hc : ∀ j, j < ws.length → w.cell? ⟨b, off + j, none⟩ = some (.int .i64 (ws.getD j 0))) :
    Calls Try.prog 12 #[.int .i64 T, .slice (some ⟨b, off, none⟩) ws.length c0] w fun e w' =>
      ∃ (g c' : Nat), e = .returned (.tuple #[.slice (some ⟨g, 0, none⟩) ws.length c', .int .i64 0]) ∧
        SliceAt w' 3 1 (some g) ws.length c' ((bump (bases T (sumL ws) ws) (ord.take (T - sumL (bases T (sumL ws) ws)).toNat)).map (Value.int .i64)) ∧ Keeps [] w w' := by
  obtain ⟨lb0, lb1⟩ := left_bd T ws hs
  have hbd := bases_bd T ws ht0 (fun x hx => (hw x hx).1) hs
  have HBI := Lib.hid (fun t ht => best_is T ws ord hs hp hpw t ht)
  have HOL := Lib.hid (show ord.length = ws.length by rw [hp.length_eq, upTo_length])
  have HOM := Lib.hid (show ∀ x ∈ ord, 0 ≤ x ∧ x < ws.length from fun x hx => upTo_mem _ _ (hp.mem_iff.1 hx))
  have HPS := Lib.hid (parts_sum T ws ord ht0 (fun x hx => (hw x hx).1) hs (fun x hx => upTo_mem _ _ (hp.mem_iff.1 hx)) (by rw [hp.length_eq, upTo_length]) (hp.nodup_iff.2 (upTo_nodup _)))
  have HND := Lib.hid (hp.nodup_iff.2 (upTo_nodup _) : ord.Nodup)
  have HC := Lib.hid hc
  have HW := Lib.hid hw
  have HBD := Lib.hid hbd
  obtain ⟨i0, hi, hz0, hz1, hz2⟩ := info_parts info3
  have Hi := Lib.hid hi
  have Hz0 := Lib.hid hz0
  have Hz1 := Lib.hid hz1
  have Hz2 := Lib.hid hz2
  clear hp hpw hc hw hbd hi hz0 hz1 hz2
  go_enter Try.func12, Try.ntmps12
  go_wp2
  go_loop [6, 7] (fun s i => ∃ (k : Nat), k ≤ ws.length ∧ i = .int .i64 k ∧ s = .int .i64 (sumL (ws.take k))) (fun _ i => ws.length - (intOf i).toNat)
  case atStart => exact ⟨0, Nat.zero_le _, rfl, rfl⟩
  case round =>
    obtain ⟨k, hk, rfl, rfl⟩ := hrel
    have hsb := sumL_bd (ws.take k) 1048576 (fun x hx => HW.out x (List.mem_of_mem_take hx))
    have hlk : (ws.take k).length = k := by simp; omega
    rw [hlk] at hsb
    obtain ⟨sb0, sb1⟩ := hsb
    by_cases hlt : k < ws.length
    · obtain ⟨x0, x1⟩ := HW.out (ws.getD k 0) (mem_getD hlt)
      have hcx := (HC.out k hlt)
      have hst := sumL_take ws k hlt
      generalize ws.getD k 0 = x at *
      have HST := Lib.hid hst
      clear hst hlk
      go_wp2
      go_round
      case rel => exact ⟨k + 1, by omega, by go_num, by rw [HST.out]⟩
      case measure => simp [intOf]; omega
    · obtain rfl : k = ws.length := by omega
      rw [List.take_length] at sb0 sb1 ⊢
      obtain ⟨S, hS⟩ : ∃ S, S = sumL ws := ⟨_, rfl⟩
      rw [← hS] at hs lb0 lb1 sb0 sb1 HBI HPS HBD ⊢
      have HSE := Lib.hid hS
      have hSz : (S == 0) = false := by simp; omega
      have hS2 : S ≤ 524288000 := by omega
      obtain ⟨R, hR⟩ : ∃ R : Nat, T - sumL (bases T S ws) = R := ⟨(T - sumL (bases T S ws)).toNat, by omega⟩
      have HRR := Lib.hid hR
      rw [hR] at lb1
      clear hS hlt hlk hR hk lb0
      obtain ⟨n, hn⟩ : ∃ n, n = ws.length := ⟨_, rfl⟩
      rw [← hn] at HOL lb1 hl ⊢
      have HN := Lib.hid hn
      clear hn
      go_wp2
      go_loopw [8, 9, 10, 11, 12] (fun v r lf i _ wr => ∃ (k : Nat) (a : Option Nat) (c : Nat) (a2 : Option Nat) (c2 : Nat), k ≤ n ∧ i = .int .i64 k ∧ v = sv a k c ∧ r = sv a2 k c2 ∧ lf = .int .i64 (T - sumL ((bases T S ws).take k)) ∧
        SliceAt wr 3 1 a k c (((bases T S ws).take k).map (Value.int .i64)) ∧ SliceAt wr 3 1 a2 k c2 (((rests T S ws).take k).map (Value.int .i64)) ∧ Keeps [] w wr ∧
        (∀ g, a = some g → w.heap.size ≤ g) ∧ (∀ g, a2 = some g → w.heap.size ≤ g) ∧ (∀ g, a = some g → a2 ≠ some g) ∧ (0 < k → a.isSome = true ∧ a2.isSome = true)) (fun _ _ _ i _ _ => n - (intOf i).toNat)
      case atStart => exact ⟨0, none, 0, none, 0, Nat.zero_le _, rfl, rfl, rfl, by simp [sumL], SliceAt.nil _ _ _, SliceAt.nil _ _ _, Keeps.refl _ _, by simp, by simp, by simp, by simp⟩
      case round =>
        obtain ⟨k, a, c, a2, c2, hk, rfl, rfl, rfl, rfl, hsl, hsl2, hkp, ha, ha2, hne, hsm⟩ := hrel
        have HSL := Lib.hid hsl
        have HSL2 := Lib.hid hsl2
        have HK := Lib.hid hkp
        have HA := Lib.hid ha
        have HA2 := Lib.hid ha2
        have HNE := Lib.hid hne
        have HSM := Lib.hid hsm
        clear hsl hsl2 hkp ha ha2 hne hsm
        by_cases hlt : k < n
        · have hkw : k < ws.length := by rw [← HN.out]; exact hlt
          obtain ⟨x0, x1⟩ := HW.out (ws.getD k 0) (mem_getD hkw)
          have dx := HK.out.cell (HC.out k hkw) (by simp)
          have hbk := take_snoc (bases T S ws) k (by rw [bases_length]; exact hkw)
          have hsk := sumL_take (bases T S ws) k (by rw [bases_length]; exact hkw)
          have hrk := take_snoc (rests T S ws) k (by rw [rests_length]; exact hkw)
          have hxS : ws.getD k 0 ≤ S := by rw [HSE.out]; exact mem_le_sumL _ (fun z hz => (HW.out z hz).1) _ (mem_getD hkw)
          rw [bases_get _ _ _ _ hkw, (split_div T S (ws.getD k 0) hs).1] at hbk hsk
          rw [rests_get _ _ _ _ hkw, keyOf, Int.toNat_natCast, (split_div T S (ws.getD k 0) hs).2] at hrk
          have hs0 := sumL_nonneg ((bases T S ws).take k) (fun x hx => (HBD.out x (List.mem_of_mem_take hx)).1)
          have hs1 := (sumL_bd ((bases T S ws).take k) T (fun x hx => HBD.out x (List.mem_of_mem_take hx))).2
          have hs2 : (((bases T S ws).take k).length : Int) ≤ 500 := by rw [List.length_take]; omega
          have hs3 : sumL ((bases T S ws).take k) ≤ T * 500 := Int.le_trans hs1 (Int.mul_le_mul_of_nonneg_left hs2 ht0)
          obtain ⟨x, hx⟩ : ∃ x, x = ws.getD k 0 := ⟨_, rfl⟩
          rw [← hx] at x0 x1 dx hbk hsk hrk hxS
          have HXX := Lib.hid hx
          clear hx
          have hA0 : 0 ≤ T / S * x := Int.mul_nonneg (Int.ediv_nonneg ht0 (by omega)) x0
          have hA1 : T / S * x ≤ T := Int.le_trans (Int.mul_le_mul_of_nonneg_left hxS (Int.ediv_nonneg ht0 (by omega))) (Int.ediv_mul_le T (by omega))
          have hM0 := Int.emod_nonneg T (show S ≠ 0 by omega)
          have hM1 := Int.emod_lt_of_pos T hs
          have hB0 : 0 ≤ T % S * x := Int.mul_nonneg hM0 x0
          have hB1 : T % S * x ≤ S * 1048576 := Int.mul_le_mul (by omega) x1 x0 (by omega)
          have hC0 : 0 ≤ T % S * x / S := Int.ediv_nonneg hB0 (by omega)
          have hC1 : T % S * x / S ≤ T % S * x := Int.ediv_le_self _ hB0
          generalize sumL ((bases T S ws).take k) = B at *
          have HBK := Lib.hid hbk
          have HSK := Lib.hid hsk
          have HRK := Lib.hid hrk
          clear hbk hsk hrk hs1 hs2
          go_wp2
          go_quiet (fail)
          have HKq := Lib.hid (HK.out.drewN nq)
          have HSLq := Lib.hid (HSL.out.drewN nq)
          have HSL2q := Lib.hid (HSL2.out.drewN nq)
          have dxq : (wr.drewN nq).cell? ⟨b, off + k, none⟩ = some (.int .i64 x) := dx
          generalize wr.drewN nq = wq at *
          have hy0 : 0 ≤ T / S * x + T % S * x / S := by omega
          have hy1 : T / S * x + T % S * x / S ≤ 1000000000000000 := by omega
          generalize T / S * x + T % S * x / S = y at *
          clear dx HK HSL HSL2
          go_wp2_with (at_builtin; refine wpList_append_sl rfl (.tmp 76) (.tmp 78) 22 rfl 3 i0 _ 1 8 Try.underlying22 Hi.out Hz0.out Hz1.out Hz2.out rfl (by decide) a k c _ rfl (HSLq.out.alloc _) ⟨wq.heap.size, 0, none⟩ 1 1 [.int .i64 y] rfl rfl ?hnews (int_one _) (by decide) (by omega) (by omega) ?hk)
          case hnews => exact news_row' _ _ _ _ rfl
          case hk =>
            intro g c' w2 hsl hk2 hg
            have hK2 : Keeps [] w w2 := ((HKq.out.alloc _).after hk2 (by intro x hx; simp at hx; exact .inr (HA.out x hx)))
            have hG2 : w.heap.size ≤ g := by rcases hg with hg | hg; exact HA.out g hg; have := HKq.out.size; omega
            have hsl2 := (HSL2q.out.alloc (.cells #[.int .i64 y] 3)).keep hk2 (by intro z hz hz2; simp at hz2; exact HNE.out z hz2 hz)
            have hgn : ∀ z, some g = some z → a2 ≠ some z := by
              intro z hz
              simp at hz
              subst hz
              rcases hg with hg | hg
              · exact HNE.out g hg
              · intro h2
                rw [h2] at HSL2q
                have := HSL2q.out.lt
                omega
            have dx2 := hK2.cell (HC.out k hkw) (by simp)
            rw [← HXX.out] at dx2
            have HSL1 := Lib.hid hsl
            have HSL2 := Lib.hid hsl2
            have HK2 := Lib.hid hK2
            have HGN := Lib.hid hgn
            clear hsl hk2 hg hK2 hsl2 hgn HKq HSLq HSL2q dxq
            have e1 : ¬ S = 0 := by omega
            have e2 : T.tmod S = T % S := Int.tmod_eq_emod_of_nonneg ht0
            have e3 : (T % S * x).tmod S = T % S * x % S := Int.tmod_eq_emod_of_nonneg hB0
            have e4 : IntKind.i64.wrap (T % S * x) = T % S * x := IntWalk.i64_in _ (by omega)
            have hdr : ∀ W : World, W.drew.heap.size = W.heap.size := fun _ => rfl
            have hal : ∀ (W : World) (o : Obj), (W.alloc o).heap.size = W.heap.size + 1 := fun W o => by simp
            have HDR := Lib.hid hdr
            have HAL := Lib.hid hal
            clear hdr hal
            go_wp2
            go_region_law (refine stepd_append_sl rfl (.tmp 80) (.tmp 91) 22 rfl 3 i0 _ 1 8 Try.underlying22 Hi.out Hz0.out Hz1.out Hz2.out rfl (by decide) a2 k c2 _ rfl ((HSL2.out.alloc _).keep ((Keeps.refl [] _).drew) (by simp)) ⟨w2.heap.size, 0, none⟩ 1 1 [.int .i64 (T % S * x % S)] rfl rfl (news_row' w2 [.int .i64 (T % S * x % S)] 3 _ rfl) (int_one _) (by decide) (by omega) (by omega) ?_; intro g2 c2' w3 hsl3 hk3 hg3)
            have hK3 : Keeps [] w w3 := ((HK2.out.alloc _).drew).after hk3 (by intro x hx; simp at hx; exact .inr (HA2.out x hx))
            have hG3 : w.heap.size ≤ g2 := by
              rcases hg3 with hg | hg
              · exact HA2.out g2 hg
              · have := HK2.out.size; rw [HDR.out, HAL.out] at hg; omega
            have hgg : g ≠ g2 := by
              rintro rfl
              rcases hg3 with hg | hg
              · exact HGN.out g rfl hg
              · have := HSL1.out.lt; rw [HDR.out, HAL.out] at hg; omega
            have hsl1 := ((HSL1.out.alloc _).keep ((Keeps.refl [] _).drew) (by simp)).keep hk3 (by intro z hz hz2; simp at hz2; exact HGN.out z hz hz2)
            have HSL3 := Lib.hid hsl3
            have HSL1' := Lib.hid hsl1
            have HK3 := Lib.hid hK3
            have HGG := Lib.hid hgg
            clear hsl3 hk3 hg3 hK3 hgg hsl1 HSL1 HSL2 HK2 e1 e2 e3 e4
            go_wp2
            go_roundw
            case rel =>
              refine ⟨k + 1, some g, c', some g2, c2', by omega, by go_num, rfl, rfl, by rw [HSK.out]; go_num, ?_, ?_, HK3.out, by intro z hz; simp at hz; omega, by intro z hz; simp at hz; omega, by intro z hz hz2; simp at hz hz2; exact HGG.out (by omega), by simp⟩
              · rw [HBK.out, List.map_append, List.map_take]; exact HSL1'.out
              · rw [HRK.out, List.map_append]; exact HSL3.out
            case measure => simp [intOf]; omega
        · obtain rfl : k = n := by omega
          have hwl : ws.length = k := HN.out.symm
          rw [List.take_of_length_le (by rw [bases_length]; omega)] at HSL ⊢
          rw [List.take_of_length_le (by rw [rests_length]; omega)] at HSL2
          rw [HRR.out]
          have hn1 : 0 < k := by
            apply Nat.pos_of_ne_zero
            intro h0
            have := HSE.out
            rw [List.eq_nil_of_length_eq_zero (hwl.trans h0)] at this
            simp [sumL] at this
            omega
          obtain ⟨g, rfl⟩ := Option.isSome_iff_exists.1 (HSM.out hn1).1
          obtain ⟨g2, rfl⟩ := Option.isSome_iff_exists.1 (HSM.out hn1).2
          have hga := HA.out g rfl
          have hga2 := HA2.out g2 rfl
          have hgg : g ≠ g2 := fun h => HNE.out g rfl (by rw [h])
          simp only [sv, Option.map_some]
          clear hlt
          go_wp2
          go_loopw [10, 13, 14] (fun lf _ _ wl => ∃ t : Nat, t ≤ R ∧ lf = .int .i64 ((R - t : Nat) : Int) ∧ SliceAt wl 3 1 (some g) k c ((bump (bases T S ws) (ord.take t)).map (Value.int .i64)) ∧ SliceAt wl 3 1 (some g2) k c2 ((mark (rests T S ws) (ord.take t)).map (Value.int .i64)) ∧ Keeps [] w wl) (fun lf _ _ _ => (intOf lf).toNat)
          case atStart => exact ⟨0, Nat.zero_le _, by simp, HSL.out, HSL2.out, HK.out⟩
          case round =>
            obtain ⟨t, ht, rfl, hL, hM, hK2⟩ := hrel
            have hbl : (bump (bases T S ws) (ord.take t)).length = k := by rw [bump_length, bases_length]; exact hwl
            have hml : (mark (rests T S ws) (ord.take t)).length = k := by rw [mark_length, rests_length]; exact hwl
            by_cases htR : t < R
            · have hto : t < ord.length := by rw [HOL.out]; omega
              have HBI2 := Lib.hid (HBI.out t hto)
              have HB := Lib.hid (show bump (bases T S ws) (ord.take (t + 1)) = (bump (bases T S ws) (ord.take t)).set ord[t].toNat ((bump (bases T S ws) (ord.take t)).getD ord[t].toNat 0 + 1) by
                rw [List.take_succ_eq_append_getElem hto, bump_snoc])
              have HM := Lib.hid (show mark (rests T S ws) (ord.take (t + 1)) = (mark (rests T S ws) (ord.take t)).set ord[t].toNat (-1) by
                rw [List.take_succ_eq_append_getElem hto, mark_snoc])
              have HPB := Lib.hid (show ∀ j, j < k → 0 ≤ (bump (bases T S ws) (ord.take t)).getD j 0 ∧ (bump (bases T S ws) (ord.take t)).getD j 0 ≤ 2000000000000 from fun j hj => by
                rw [bump_get _ _ (HND.out.sublist (List.take_sublist _ _)) (fun x hx => by rw [bases_length]; exact HOM.out x (List.mem_of_mem_take hx)) j]
                have := HBD.out _ (mem_getD (xs := bases T S ws) (i := j) (by rw [bases_length]; omega))
                split <;> omega)
              generalize bump (bases T S ws) (ord.take t) = o at *
              generalize mark (rests T S ws) (ord.take t) = l at *
              generalize ord[t] = q at *
              have hRt : 0 < R - t := by omega
              have HL := Lib.hid hL
              have HMM := Lib.hid hM
              have HK2 := Lib.hid hK2
              have HTR := Lib.hid htR
              clear hL hM hK2
              go_wp2
              clear htR
              go_loopw [13, 14] (fun s13 s14 wl => ∃ i best : Nat, i ≤ k ∧ s14 = .int .i64 i ∧ s13 = .int .i64 best ∧ Best l i best ∧ SliceAt wl 3 1 (some g) k c (o.map (Value.int .i64)) ∧ SliceAt wl 3 1 (some g2) k c2 (l.map (Value.int .i64)) ∧ Keeps [] w wl) (fun _ s14 _ => k - (intOf s14).toNat)
              case atStart => exact ⟨0, 0, Nat.zero_le _, rfl, rfl, Best.zero _ (by omega), HL.out, HMM.out, HK2.out⟩
              case round =>
                obtain ⟨i, best, hi, rfl, rfl, hB, hL, hM, hK3⟩ := hrel
                have hbk := hB.lt
                rw [hml] at hbk
                have HBB := Lib.hid hB
                have HL3 := Lib.hid hL
                have HM3 := Lib.hid hM
                have HK3 := Lib.hid hK3
                by_cases hik : i < k
                · have d1 : wr.cell? ⟨g2, i, none⟩ = some (.int .i64 (l.getD i 0)) := by
                    have hil : i < l.length := by omega
                    rw [hM.cell i (by simpa using hil)]; simp [hil]
                  have d2 : wr.cell? ⟨g2, best, none⟩ = some (.int .i64 (l.getD best 0)) := by
                    have hil : best < l.length := by omega
                    rw [hM.cell best (by simpa using hil)]; simp [hil]
                  clear hL hM hK3 hB
                  by_cases hgt : l.getD best 0 < l.getD i 0
                  · have HBN := Lib.hid (HBB.out.up (by omega) hgt)
                    obtain ⟨p1, hp1⟩ : ∃ p1, p1 = l.getD i 0 := ⟨_, rfl⟩
                    obtain ⟨p2, hp2⟩ : ∃ p2, p2 = l.getD best 0 := ⟨_, rfl⟩
                    rw [← hp1] at d1 hgt
                    rw [← hp2] at d2 hgt
                    clear hp1 hp2
                    go_wp2
                    go_quiet (fail)
                    go_wp2
                    go_roundw
                    case rel => exact ⟨i + 1, i, by omega, by go_num, rfl, HBN.out, HL3.out.drewN _, HM3.out.drewN _, HK3.out.drewN _⟩
                    case measure => simp [intOf]; omega
                  · have HBN := Lib.hid (HBB.out.stay hgt)
                    obtain ⟨p1, hp1⟩ : ∃ p1, p1 = l.getD i 0 := ⟨_, rfl⟩
                    obtain ⟨p2, hp2⟩ : ∃ p2, p2 = l.getD best 0 := ⟨_, rfl⟩
                    rw [← hp1] at d1 hgt
                    rw [← hp2] at d2 hgt
                    have HGT := Lib.hid hgt
                    clear hp1 hp2 hgt
                    go_wp2
                    go_quiet (fail)
                    have hgt := HGT.out
                    go_wp2
                    go_roundw
                    case rel => exact ⟨i + 1, best, by omega, by go_num, rfl, HBN.out, HL3.out.drewN _, HM3.out.drewN _, HK3.out.drewN _⟩
                    case measure => simp [intOf]; omega
                · obtain rfl : i = k := by omega
                  have htR := HTR.out
                  have hq := HBI2.out best (by rw [hwl]; exact hB)
                  have hob : best < o.length := by omega
                  have d1 : wr.cell? ⟨g, best, none⟩ = some (.int .i64 (o.getD best 0)) := by
                    rw [hL.cell best (by simpa using hob)]; simp [hob]
                  have f1 := hL.fz best
                  have f2 := hM.fz best
                  have hob2 := HPB.out best hbk
                  have HQ := Lib.hid hq
                  obtain ⟨v, hv⟩ : ∃ v, v = o.getD best 0 := ⟨_, rfl⟩
                  rw [← hv] at d1 hob2
                  obtain ⟨v0, v1⟩ := hob2
                  have HV := Lib.hid hv
                  have d2 : wr.cell? ⟨g2, best, none⟩ = some (.int .i64 (l.getD best 0)) := by
                    have hil : best < l.length := by omega
                    rw [hM.cell best (by simpa using hil)]; simp [hil]
                  have d3 : (wr.setCell ⟨g, best, none⟩ (.int .i64 (v + 1))).cell? ⟨g2, best, none⟩ = some (.int .i64 (l.getD best 0)) := ((Keeps.refl [g] wr).setCell (.inl (by simp)) _).cell d2 (by simp; exact fun h => hgg h.symm)
                  obtain ⟨lb, hlb⟩ : ∃ lb, lb = l.getD best 0 := ⟨_, rfl⟩
                  rw [← hlb] at d2 d3
                  clear hlb
                  have f3 : (wr.setCell ⟨g, best, none⟩ (.int .i64 (v + 1))).frozen? ⟨g2, best, none⟩ = false := ((HM3.out.keep ((Keeps.refl [g] wr).setCell (.inl (by simp)) _) (by simp; exact fun h => hgg h.symm)).fz best)
                  clear hL hM hK3 hB hq hv HBI2
                  go_wp2
                  go_roundw
                  case rel =>
                    have hq2 : q.toNat = best := by have := HQ.out; omega
                    refine ⟨t + 1, by omega, by go_num, ?_, ?_, (HK3.out.setCell (.inr hga) _).setCell (.inr hga2) _⟩
                    · rw [HB.out, hq2, ← HV.out, List.map_set]
                      exact (HL3.out.set best _).keep ((Keeps.refl [g2] _).setCell (.inl (by simp)) _) (by simp; exact hgg)
                    · rw [HM.out, hq2, List.map_set]
                      exact (HM3.out.keep ((Keeps.refl [g] _).setCell (.inl (by simp)) _) (by simp; exact fun h => hgg h.symm)).set best _
                  case measure => simp [intOf]; omega
            · obtain rfl : t = R := by omega
              have HL := Lib.hid hL
              have HK2 := Lib.hid hK2
              clear hL hM hK2
              go_wp2
              go_ret2
              refine ⟨g, c, by rw [hwl]; rfl, ?_, HK2.out⟩
              have h1 := HL.out
              rw [hwl]
              have h2 := HRR.out
              rw [HSE.out] at h1 h2
              rw [h2, Int.toNat_natCast]
              exact h1


theorem refs_every (T : Int) (ws : List Int) (a : Option Addr) (c : Nat) (w : World) (code : Int) (ps : List Int) (hA : Answer T ws code ps) (hx : IntsIn w a ws) (hlen : ws.length ≤ 1000000) :
    Calls Try.prog 12 #[.int .i64 T, .slice a ws.length c] w fun e w' =>
      ∃ (a' : Option Addr) (c' : Nat), e = .returned (.tuple #[.slice a' ps.length c', .int .i64 code]) ∧ IntsIn w' a' ps ∧ Keeps [] w w' := by
  have hnil : ∀ w' : World, IntsIn w' none [] := fun _ h => by simp at h
  cases hA with
  | total h => exact (refs_badTotal T a ws.length c w h).mono fun e w' ⟨h1, h2⟩ => ⟨none, 0, h1, hnil _, h2⟩
  | weight h m hm hb =>
    obtain ⟨b, off, rfl, hc⟩ := hx (by omega)
    have ht : 0 ≤ T ∧ T ≤ 1099511627776 := by simp [outB] at h; omega
    exact (refs_badWeight T ws b off c w ht.1 ht.2 hlen m hm hb hc).mono fun e w' ⟨h1, h2⟩ => ⟨none, 0, h1, hnil _, h2⟩
  | many h hw hl =>
    obtain ⟨b, off, rfl, hc⟩ := hx (by omega)
    have ht : 0 ≤ T ∧ T ≤ 1099511627776 := by simp [outB] at h; omega
    exact (refs_many T ws b off c w ht.1 ht.2 hlen hw hl hc).mono fun e w' ⟨h1, h2⟩ => ⟨none, 0, h1, hnil _, h2⟩
  | zero h hw hl hs =>
    have ht : 0 ≤ T ∧ T ≤ 1099511627776 := by simp [outB] at h; omega
    exact (refs_zero T ws a c w ht.1 ht.2 hw hl hs hx).mono fun e w' ⟨h1, h2⟩ => ⟨none, 0, h1, hnil _, h2⟩
  | parts h hw hl hs ord hp hpw =>
    have ht : 0 ≤ T ∧ T ≤ 1099511627776 := by simp [outB] at h; omega
    have h0 : 0 < ws.length := by
      apply Nat.pos_of_ne_zero
      intro h0
      rw [List.eq_nil_of_length_eq_zero h0] at hs
      simp [sumL] at hs
    obtain ⟨b, off, rfl, hc⟩ := hx h0
    refine (refs_parts T ws ord b off c w ht.1 ht.2 hw hl hs hp hpw hc).mono fun e w' ⟨g, c', h1, h2, h3⟩ => ?_
    exact ⟨some ⟨g, 0, none⟩, c', by rw [h1, bump_length, bases_length], h2.to_in, h3⟩

end Go.Proofs.Ytdpmkbiibmjbfaa
