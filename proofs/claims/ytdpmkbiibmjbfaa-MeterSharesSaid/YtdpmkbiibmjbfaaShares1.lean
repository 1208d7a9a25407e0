/- meter.Shares where it answers with an error. Conditions: the weights lie in memory. -/
import Derived.Test.YtdpmkbiibmjbfaaShares
namespace Go.Proofs.Ytdpmkbiibmjbfaa
open Go.RowKit

set_option maxHeartbeats 2000000 in
theorem shares_zero (total : Int) (ws : List Int) (bw off cap : Nat) (w : World) (ht0 : 0 ≤ total) (ht1 : total ≤ 1099511627776) (hwb : ∀ x ∈ ws, 0 ≤ x ∧ x ≤ 1048576) (hlen : ws.length ≤ 500) (hs : sumL ws = 0)
    (hc : ∀ j, j < ws.length → w.cell? ⟨bw, off + j, none⟩ = some (.int .i64 (ws.getD j 0))) (hbw : bw < w.heap.size) :
    Calls Try.prog 11 #[.int .i64 total, .slice (some ⟨bw, off, none⟩) ws.length cap] w fun e w' => e = .returned (.tuple #[.slice none 0 0, .int .i64 5]) ∧ Keeps [] w w' := by
  have HWB := Lib.hid hwb
  have HS := Lib.hid hs
  have HC := Lib.hid hc
  have ho0 : outB total 0 1099511627776 = false := by simp [outB]; omega
  have HO0 := Lib.hid ho0
  clear hwb hs hc ho0
  go_enter Try.func11, Try.ntmps11
  go_wp2_with (go_at_call 27; refine (outside_any _ _ _ _).mono ?_; rintro e w' ⟨rfl, rfl⟩; rw [HO0.out])
  go_loop [22] (fun i => ∃ k : Nat, k ≤ ws.length ∧ i = .int .i64 k) (fun i => ws.length - (intOf i).toNat)
  case atStart => exact ⟨0, Nat.zero_le _, rfl⟩
  case round =>
    obtain ⟨k, hk, rfl⟩ := hrel
    by_cases hlt : k < ws.length
    · have hb := HWB.out (ws.getD k 0) (by rw [List.getD_eq_getElem?_getD, List.getElem?_eq_getElem hlt]; simp)
      have hcx := (HC.out k hlt)
      obtain ⟨x, hx⟩ : ∃ x, x = ws.getD k 0 := ⟨_, rfl⟩
      rw [← hx] at hb hcx
      have ho : outB x 0 1048576 = false := by simp [outB]; omega
      have HO := Lib.hid ho
      clear hx ho
      go_wp2_with (go_at_call 27; refine (outside_any _ _ _ _).mono ?_; rintro e w' ⟨rfl, rfl⟩; rw [HO.out])
      go_round
      case rel => exact ⟨k + 1, by omega, by go_num⟩
      case measure => simp [intOf]; omega
    · obtain rfl : k = ws.length := by omega
      go_wp2
      have hE0 : SEnv w (((w.alloc (.cells #[.int .i64 total] 3)).alloc (.cells #[.slice (some ⟨bw, off, none⟩) ws.length cap] 22)).alloc (.cells #[.int .i64 0] 3)) total ws.length bw off cap 0 := by
        refine ⟨?_, ?_, ?_, (((Keeps.refl [] w).alloc _).alloc _).alloc _⟩
        · rw [heap_alloc_old _ _ (by simp; omega), heap_alloc_old _ _ (by simp)]; exact heap_alloc_new _ _
        · rw [heap_alloc_old _ _ (by simp)]
          have := heap_alloc_new (w.alloc (.cells #[.int .i64 total] 3)) (.cells #[.slice (some ⟨bw, off, none⟩) ws.length cap] 22)
          simpa using this
        · have := heap_alloc_new ((w.alloc (.cells #[.int .i64 total] 3)).alloc (.cells #[.slice (some ⟨bw, off, none⟩) ws.length cap] 22)) (.cells #[.int .i64 0] 3)
          simpa using this
      have HE0 := Lib.hid hE0
      clear hE0
      go_loopw [34] (fun i wr => ∃ k : Nat, k ≤ ws.length ∧ i = .int .i64 k ∧ SEnv w wr total ws.length bw off cap (sumL (ws.take k))) (fun i _ => ws.length - (intOf i).toNat)
      case atStart => exact ⟨0, Nat.zero_le _, rfl, HE0.out⟩
      case round =>
        obtain ⟨k, hk, rfl, hE⟩ := hrel
        have c2 := hE.c2
        have f2 := hE.f2
        have hsb := sumL_bd (ws.take k) 1048576 (fun x hx => HWB.out x (List.mem_of_mem_take hx))
        have hlk : (ws.take k).length = k := by simp; omega
        rw [hlk] at hsb
        obtain ⟨sb0, sb1⟩ := hsb
        by_cases hlt : k < ws.length
        · obtain ⟨hb0, hb1⟩ := HWB.out (ws.getD k 0) (by rw [List.getD_eq_getElem?_getD, List.getElem?_eq_getElem hlt]; simp)
          have hcx := hE.kp.cell (HC.out k hlt) (by simp)
          have hst := sumL_take ws k hlt
          obtain ⟨x, hx⟩ : ∃ x, x = ws.getD k 0 := ⟨_, rfl⟩
          rw [← hx] at hb0 hb1 hcx hst
          have HST := Lib.hid hst
          have HE := Lib.hid hE
          clear hx hst hE hlk
          go_wp2
          go_roundw
          case rel => exact ⟨k + 1, by omega, by go_num, by rw [HST.out]; exact HE.out.set _⟩
          case measure => simp [intOf]; omega
        · obtain rfl : k = ws.length := by omega
          rw [List.take_length] at c2 sb0 sb1 hE
          rw [HS.out] at c2
          have HK := Lib.hid hE.kp
          clear hE
          go_wp2
          go_ret2
          exact ⟨rfl, HK.out⟩

theorem shares_badTotal (total : Int) (ao : Option Addr) (n cap : Nat) (w : World) (h : outB total 0 1099511627776 = true) :
    Calls Try.prog 11 #[.int .i64 total, .slice ao n cap] w fun e w' => e = .returned (.tuple #[.slice none 0 0, .int .i64 1]) ∧ Keeps [] w w' := by
  have HO := Lib.hid h
  clear h
  go_enter Try.func11, Try.ntmps11
  go_wp2_with (go_at_call 27; refine (outside_any _ _ _ _).mono ?_; rintro e w' ⟨rfl, rfl⟩; rw [HO.out])
  go_ret2
  exact ⟨rfl, ((Keeps.refl [] w).alloc _).alloc _⟩

set_option maxHeartbeats 1000000 in
theorem shares_badWeight (total : Int) (ws : List Int) (bw off cap : Nat) (w : World) (ht : outB total 0 1099511627776 = false) (hlen : ws.length ≤ 1000000) (m : Nat) (hm : m < ws.length) (hbad : outB (ws.getD m 0) 0 1048576 = true)
    (hc : ∀ j, j < ws.length → w.cell? ⟨bw, off + j, none⟩ = some (.int .i64 (ws.getD j 0))) (hbw : bw < w.heap.size) :
    Calls Try.prog 11 #[.int .i64 total, .slice (some ⟨bw, off, none⟩) ws.length cap] w fun e w' => e = .returned (.tuple #[.slice none 0 0, .int .i64 1]) ∧ Keeps [] w w' := by
  have HC := Lib.hid hc
  have HO0 := Lib.hid ht
  have HBAD := Lib.hid hbad
  clear hc ht hbad
  go_enter Try.func11, Try.ntmps11
  go_wp2_with (go_at_call 27; refine (outside_any _ _ _ _).mono ?_; rintro e w' ⟨rfl, rfl⟩; rw [HO0.out])
  go_loop [22] (fun i => ∃ k : Nat, k ≤ m ∧ i = .int .i64 k) (fun i => ws.length - (intOf i).toNat)
  case atStart => exact ⟨0, Nat.zero_le _, rfl⟩
  case round =>
    obtain ⟨k, hk, rfl⟩ := hrel
    have hlt : k < ws.length := by omega
    have hcx := (HC.out k hlt)
    obtain ⟨x, hx⟩ : ∃ x, x = ws.getD k 0 := ⟨_, rfl⟩
    rw [← hx] at hcx
    cases ho : outB x 0 1048576 with
    | true =>
      have HO := Lib.hid ho
      clear hx ho
      go_wp2_with (go_at_call 27; refine (outside_any _ _ _ _).mono ?_; rintro e w' ⟨rfl, rfl⟩; rw [HO.out])
      go_ret2
      exact ⟨rfl, ((Keeps.refl [] w).alloc _).alloc _⟩
    | false =>
      have hne : k ≠ m := by
        rintro rfl
        rw [hx, HBAD.out] at ho
        cases ho
      have hkm : k + 1 ≤ m := by omega
      have HO := Lib.hid ho
      clear hx ho hne
      go_wp2_with (go_at_call 27; refine (outside_any _ _ _ _).mono ?_; rintro e w' ⟨rfl, rfl⟩; rw [HO.out])
      go_round
      case rel => exact ⟨k + 1, hkm, by go_num⟩
      case measure => simp [intOf]; omega

set_option maxHeartbeats 1000000 in
theorem shares_many (total : Int) (ws : List Int) (bw off cap : Nat) (w : World) (ht : outB total 0 1099511627776 = false) (hlen : ws.length ≤ 1000000) (hmany : 500 < ws.length) (hwb : ∀ x ∈ ws, 0 ≤ x ∧ x ≤ 1048576)
    (hc : ∀ j, j < ws.length → w.cell? ⟨bw, off + j, none⟩ = some (.int .i64 (ws.getD j 0))) (hbw : bw < w.heap.size) :
    Calls Try.prog 11 #[.int .i64 total, .slice (some ⟨bw, off, none⟩) ws.length cap] w fun e w' => e = .returned (.tuple #[.slice none 0 0, .int .i64 4]) ∧ Keeps [] w w' := by
  have HC := Lib.hid hc
  have HO0 := Lib.hid ht
  have HWB := Lib.hid hwb
  clear hc ht hwb
  go_enter Try.func11, Try.ntmps11
  go_wp2_with (go_at_call 27; refine (outside_any _ _ _ _).mono ?_; rintro e w' ⟨rfl, rfl⟩; rw [HO0.out])
  go_loop [22] (fun i => ∃ k : Nat, k ≤ ws.length ∧ i = .int .i64 k) (fun i => ws.length - (intOf i).toNat)
  case atStart => exact ⟨0, Nat.zero_le _, rfl⟩
  case round =>
    obtain ⟨k, hk, rfl⟩ := hrel
    by_cases hlt : k < ws.length
    · have hb := HWB.out (ws.getD k 0) (by rw [List.getD_eq_getElem?_getD, List.getElem?_eq_getElem hlt]; simp)
      have hcx := (HC.out k hlt)
      obtain ⟨x, hx⟩ : ∃ x, x = ws.getD k 0 := ⟨_, rfl⟩
      rw [← hx] at hb hcx
      have ho : outB x 0 1048576 = false := by simp [outB]; omega
      have HO := Lib.hid ho
      clear hx ho
      go_wp2_with (go_at_call 27; refine (outside_any _ _ _ _).mono ?_; rintro e w' ⟨rfl, rfl⟩; rw [HO.out])
      go_round
      case rel => exact ⟨k + 1, by omega, by go_num⟩
      case measure => simp [intOf]; omega
    · obtain rfl : k = ws.length := by omega
      go_wp2
      go_ret2
      exact ⟨rfl, ((Keeps.refl [] w).alloc _).alloc _⟩

end Go.Proofs.Ytdpmkbiibmjbfaa
