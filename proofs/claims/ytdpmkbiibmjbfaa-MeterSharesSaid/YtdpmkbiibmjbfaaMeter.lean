/- What each method of package meter's Meter does, said of the blocks that hold it. Conditions: the meter is laid in memory as MeterAt says; ticks within the package's limits where a division is made. -/
import Derived.Test.YtdpmkbiibmjbfaaProg
import Derived.Test.YtdpmkbiibmjbfaaBase
import Derived.Deep.QuietTactic
import Derived.BigQuiet
import Derived.BigRegion
namespace Go.Proofs.Ytdpmkbiibmjbfaa
open Go.RowKit

def outB (x lo hi : Int) : Bool := decide (x < lo ∨ hi < x)
set_option maxHeartbeats 400000 in
theorem outside_any (x lo hi : Int) (w : World) :
    Calls Try.prog 27 #[.int .i64 x, .int .i64 lo, .int .i64 hi] w fun e w' => e = .returned (.bool (outB x lo hi)) ∧ w = w' := by
  have hd : (decide (x < lo) || decide (hi < x)) = outB x lo hi := by simp [outB, Bool.decide_or]
  have HD := Lib.hid hd
  clear hd
  by_cases h : x < lo
  · go_enter Try.func27, Try.ntmps27
    go_wp2
    go_ret
    exact ⟨by rw [← HD.out]; simp [h], rfl⟩
  · go_enter Try.func27, Try.ntmps27
    go_wp2
    go_ret
    exact ⟨by rw [← HD.out, decide_eq_false (Int.not_lt.2 h)]; rfl, rfl⟩

/-- A meter: its own block b, the block u of what was used; its numbers within the package's limits. -/
structure MeterAt (w : World) (b u : Nat) (share period tick : Int) (used : List Int) : Prop where
  cells : w.heap[b]? = some (.cells #[.int .i64 share, .int .i64 period, .int .i64 tick, .slice (some ⟨u, 0, none⟩) used.length used.length] 56 (0, 0))
  us : Ints 3 w u used
  ne : b ≠ u
  len : used.length ≤ 500
  per : 1 ≤ period ∧ period ≤ 1099511627776
  shr : 0 ≤ share ∧ share ≤ 1099511627776
  tck : 0 ≤ tick ∧ tick ≤ 1099511627776
  bd : ∀ x ∈ used, 0 ≤ x ∧ x ≤ share

section
variable {w : World} {b u : Nat} {share period tick : Int} {used : List Int} (h : MeterAt w b u share period tick used)
include h
theorem MeterAt.c0 : w.cell? ⟨b, 0, none⟩ = some (.int .i64 share) := by simp [World.cell?, h.cells]
theorem MeterAt.c1 : w.cell? ⟨b, 1, none⟩ = some (.int .i64 period) := by simp [World.cell?, h.cells]
theorem MeterAt.c2 : w.cell? ⟨b, 2, none⟩ = some (.int .i64 tick) := by simp [World.cell?, h.cells]
theorem MeterAt.c3 : w.cell? ⟨b, 3, none⟩ = some (.slice (some ⟨u, 0, none⟩) used.length used.length) := by simp [World.cell?, h.cells]
theorem MeterAt.fz (i : Nat) : w.frozen? ⟨b, i, none⟩ = false := by simp [World.frozen?, h.cells]
theorem MeterAt.keep {S : List Nat} {w' : World} (k : Keeps S w w') (hb : b ∉ S) (hu : u ∉ S) : MeterAt w' b u share period tick used :=
  ⟨k.heap h.cells hb, h.us.keep k hu, h.ne, h.len, h.per, h.shr, h.tck, h.bd⟩
theorem MeterAt.drewN (n : Nat) : MeterAt (w.drewN n) b u share period tick used := h.keep ((Keeps.refl [] _).drewN n) (by simp) (by simp)
theorem MeterAt.getB (i : Nat) (hi : i < used.length) : 0 ≤ used[i]?.getD 0 ∧ used[i]?.getD 0 ≤ share := by
  simp [hi]; exact h.bd _ (by simp)
theorem MeterAt.setTick (t : Int) (h0 : 0 ≤ t) (h1 : t ≤ 1099511627776) : MeterAt (w.setCell ⟨b, 2, none⟩ (.int .i64 t)) b u share period t used := by
  refine ⟨?_, ?_, h.ne, h.len, h.per, h.shr, ⟨h0, h1⟩, h.bd⟩
  · rw [heap_setCell_same _ _ _ _ _ _ h.cells]; rfl
  · exact (heap_setCell_other _ _ _ _ (by intro e; exact h.ne e.symm)).trans h.us
theorem MeterAt.setUsed (i : Nat) (x : Int) (h0 : 0 ≤ x) (h1 : x ≤ share) : MeterAt (w.setCell ⟨u, i, none⟩ (.int .i64 x)) b u share period tick (used.set i x) := by
  refine ⟨?_, h.us.set i x, h.ne, by simp [h.len], h.per, h.shr, h.tck, ?_⟩
  · rw [heap_setCell_other _ _ _ _ h.ne]; simpa using h.cells
  · intro y hy
    rcases List.mem_or_eq_of_mem_set hy with h2 | h2
    · exact h.bd y h2
    · subst h2; exact ⟨h0, h1⟩
theorem MeterAt.cleared : MeterAt (w.setRow u ((used.map fun _ => (0 : Int)).map (Value.int .i64)).toArray) b u share period tick (used.map fun _ => 0) := by
  refine ⟨?_, setRow_heap _ _ _ _ _ _ h.us, h.ne, by simp [h.len], h.per, h.shr, h.tck, ?_⟩
  · rw [setRow_other _ _ _ _ h.ne]; simpa using h.cells
  · intro y hy
    simp at hy
    obtain ⟨_, rfl⟩ := hy
    exact ⟨by omega, h.shr.1⟩
end

def wrongF (tk len rule n tick : Int) : Int :=
  if outB rule 0 (len - 1) || outB n 0 1099511627776 || outB tick 0 1099511627776 then 1 else if tick < tk then 16 else 0

set_option maxHeartbeats 400000 in
theorem wrong_any (b u : Nat) (share period tk : Int) (used : List Int) (rule n tick : Int) (w : World) (hM : MeterAt w b u share period tk used) :
    Calls Try.prog 31 #[.pointer (some ⟨b, 0, none⟩), .int .i64 rule, .int .i64 n, .int .i64 tick] w fun e w' => e = .returned (.int .i64 (wrongF tk used.length rule n tick)) ∧ w = w' := by
  have c2 := hM.c2
  have c3 := hM.c3
  have hl := hM.len
  clear hM
  go_enter Try.func31, Try.ntmps31
  go_wp2_with (go_at_call 27; refine (outside_any _ _ _ _).mono ?_; rintro e w' ⟨rfl, rfl⟩)
  all_goals go_ret
  all_goals exact ⟨by simp [wrongF, *], rfl⟩

def freshB (period tk tick : Int) : Bool := tick / period != tk / period
set_option maxHeartbeats 400000 in
theorem fresh_any (b u : Nat) (share period tk : Int) (used : List Int) (tick : Int) (w : World) (hM : MeterAt w b u share period tk used) (ht0 : 0 ≤ tick) (ht : tick ≤ 1099511627776) :
    Calls Try.prog 40 #[.pointer (some ⟨b, 0, none⟩), .int .i64 tick] w fun e w' => e = .returned (.bool (freshB period tk tick)) ∧ ∃ n, w' = w.drewN n := by
  have c1 := hM.c1
  have c2 := hM.c2
  obtain ⟨p0, p1⟩ := hM.per
  obtain ⟨t0, t1⟩ := hM.tck
  clear hM
  go_enter Try.func40, Try.ntmps40
  go_wp2
  go_quiet (fail)
  go_wp2
  go_ret
  exact ⟨rfl, _, rfl⟩

/-- What a rule has used in the period of a tick. -/
def usedAt (period tk tick : Int) (used : List Int) : List Int := if freshB period tk tick then used.map fun _ => 0 else used
theorem usedAt_length (period tk tick : Int) (used : List Int) : (usedAt period tk tick used).length = used.length := by unfold usedAt; split <;> simp

set_option maxHeartbeats 400000 in
theorem spent_any (b u : Nat) (share period tk : Int) (used : List Int) (rule tick : Int) (w : World) (hM : MeterAt w b u share period tk used) (ht0 : 0 ≤ tick) (ht : tick ≤ 1099511627776) (hr0 : 0 ≤ rule) (hr : rule < used.length) :
    Calls Try.prog 33 #[.pointer (some ⟨b, 0, none⟩), .int .i64 rule, .int .i64 tick] w fun e w' => e = .returned (.int .i64 ((usedAt period tk tick used)[rule.toNat]?.getD 0)) ∧ ∃ n, w' = w.drewN n := by
  obtain ⟨r, rfl⟩ := Int.eq_ofNat_of_zero_le hr0
  have hr' : r < used.length := by omega
  have c3 := hM.c3
  have cu := hM.us.cellD r hr'
  have hl := hM.len
  have HM := Lib.hid hM
  clear hM
  cases hf : freshB period tk tick
  · have hU : usedAt period tk tick used = used := by simp [usedAt, hf]
    have HU := Lib.hid hU
    have HF := Lib.hid hf
    clear hU hf
    go_enter Try.func33, Try.ntmps33
    go_wp2_with fail
    refine (fresh_any b u share period tk used tick _ HM.out ht0 ht).mono ?_
    rintro e w' ⟨rfl, n, rfl⟩
    rw [HF.out]
    go_wp2
    go_ret
    exact ⟨by rw [HU.out]; simp [hr'], _, rfl⟩
  · have hU : usedAt period tk tick used = used.map fun _ => 0 := by simp [usedAt, hf]
    have HU := Lib.hid hU
    have HF := Lib.hid hf
    clear hU hf
    go_enter Try.func33, Try.ntmps33
    go_wp2_with fail
    refine (fresh_any b u share period tk used tick _ HM.out ht0 ht).mono ?_
    rintro e w' ⟨rfl, n, rfl⟩
    rw [HF.out]
    go_wp2
    go_ret
    exact ⟨by rw [HU.out]; simp [hr'], _, rfl⟩

theorem zero3 (w : World) : (zeroValue 3).run Try.prog w = .ok (.int .i64 0) w := by kernel_rfl

set_option maxHeartbeats 400000 in
theorem move_any (b u : Nat) (share period tk : Int) (used : List Int) (tick : Int) (w : World) (hM : MeterAt w b u share period tk used) (ht0 : 0 ≤ tick) (ht : tick ≤ 1099511627776) :
    Calls Try.prog 32 #[.pointer (some ⟨b, 0, none⟩), .int .i64 tick] w fun e w' => e = .returned (.tuple #[]) ∧ MeterAt w' b u share period tick (usedAt period tk tick used) ∧ Keeps [b, u] w w' := by
  have HM := Lib.hid hM
  have c3 := hM.c3
  have hfz := hM.fz 2
  have c2 := hM.c2
  cases hf : freshB period tk tick
  · have hU : usedAt period tk tick used = used := by simp [usedAt, hf]
    have HU := Lib.hid hU
    have HF := Lib.hid hf
    clear hU hf hM
    go_enter Try.func32, Try.ntmps32
    go_wp2_with fail
    refine (fresh_any b u share period tk used tick _ HM.out ht0 ht).mono ?_
    rintro e w' ⟨rfl, n, rfl⟩
    rw [HF.out]
    go_wp2
    go_end0
    refine ⟨rfl, ?_, ?_⟩
    · rw [HU.out]; exact (HM.out.keep ((Keeps.refl [] _).drewN n) (by simp) (by simp)).setTick tick ht0 ht
    · exact ((Keeps.refl _ _).setCell (by simp) _).drewN _
  · have hU : usedAt period tk tick used = used.map fun _ => 0 := by simp [usedAt, hf]
    have HU := Lib.hid hU
    have HF := Lib.hid hf
    clear hU hf
    clear hM hfz c2
    go_enter Try.func32, Try.ntmps32
    go_wp2_with fail
    refine (fresh_any b u share period tk used tick _ HM.out ht0 ht).mono ?_
    rintro e w' ⟨rfl, n, rfl⟩
    rw [HF.out]
    have hM1 : MeterAt (w.drewN n) b u share period tk used := HM.out.keep ((Keeps.refl [] _).drewN n) (by simp) (by simp)
    obtain ⟨w1, hw1⟩ : ∃ w1, w1 = (w.drewN n).setRow u ((used.map fun _ => (0 : Int)).map (Value.int .i64)).toArray := ⟨_, rfl⟩
    have hcl := fun ty c => run_clear_ints (P := Try.prog) (T := 22) hM1.us Try.underlying22 zero3 ty c
    have hM2 := hM1.cleared
    have hk2 := (((Keeps.refl [b, u] w).drewN n).setRow (g := u) (by simp) ((used.map fun _ => (0 : Int)).map (Value.int .i64)).toArray)
    rw [← hw1] at hcl hM2 hk2
    clear hw1
    have d2 := hM2.c2
    have dz := hM2.fz 2
    have HM2 := Lib.hid hM2
    clear hM2 hM1
    go_wp2
    go_end0
    refine ⟨rfl, ?_, ?_⟩
    · rw [HU.out]; exact HM2.out.setTick tick ht0 ht
    · exact hk2.setCell (by simp) _

/-- A call of Take, Back or Left that is let by: its rule, number and tick are in their ranges. -/
theorem wrongF_zero {tk len rule n tick : Int} (h : wrongF tk len rule n tick = 0) : 0 ≤ rule ∧ rule < len ∧ 0 ≤ n ∧ n ≤ 1099511627776 ∧ 0 ≤ tick ∧ tick ≤ 1099511627776 ∧ tk ≤ tick := by
  unfold wrongF outB at h
  split at h
  · omega
  · rename_i h1
    simp at h1
    split at h <;> omega

theorem takeB (u s want : Int) (h0 : 0 ≤ u) (h1 : u ≤ s) (hw : 0 ≤ want) : 0 ≤ u + min want (s - u) ∧ u + min want (s - u) ≤ s := by omega

set_option maxHeartbeats 400000 in
theorem take_bad (b u : Nat) (share period tk : Int) (used : List Int) (rule want tick : Int) (w : World) (hM : MeterAt w b u share period tk used) (hw : wrongF tk used.length rule want tick ≠ 0) :
    Calls Try.prog 16 #[.pointer (some ⟨b, 0, none⟩), .int .i64 rule, .int .i64 want, .int .i64 tick] w fun e w' => e = .returned (.tuple #[.int .i64 0, .int .i64 (wrongF tk used.length rule want tick)]) ∧ w = w' := by
  have HM := Lib.hid hM
  have hb : (wrongF tk used.length rule want tick != 0) = true := by simpa using hw
  clear hM hw
  go_enter Try.func16, Try.ntmps16
  go_wp2_with fail
  refine (wrong_any b u share period tk used _ _ _ _ HM.out).mono ?_
  rintro e w' ⟨rfl, rfl⟩
  go_wp2
  go_ret2
  exact ⟨rfl, rfl⟩

set_option maxHeartbeats 400000 in
theorem take_ok (b u : Nat) (share period tk : Int) (used : List Int) (rule want tick : Int) (w : World) (hM : MeterAt w b u share period tk used) (hw : wrongF tk used.length rule want tick = 0) :
    Calls Try.prog 16 #[.pointer (some ⟨b, 0, none⟩), .int .i64 rule, .int .i64 want, .int .i64 tick] w fun e w' =>
      e = .returned (.tuple #[.int .i64 (min want (share - (usedAt period tk tick used)[rule.toNat]?.getD 0)), .int .i64 0]) ∧
      MeterAt w' b u share period tick ((usedAt period tk tick used).set rule.toNat ((usedAt period tk tick used)[rule.toNat]?.getD 0 + min want (share - (usedAt period tk tick used)[rule.toNat]?.getD 0))) ∧ Keeps [b, u] w w' := by
  obtain ⟨hr0, hr1, hn0, hn1, ht0, ht1, htt⟩ := wrongF_zero hw
  obtain ⟨r, rfl⟩ := Int.eq_ofNat_of_zero_le hr0
  have HM := Lib.hid hM
  have HW := Lib.hid hw
  clear hM hw
  go_enter Try.func16, Try.ntmps16
  go_wp2_with fail
  refine (wrong_any b u share period tk used _ _ _ _ HM.out).mono ?_
  rintro e w' ⟨rfl, rfl⟩
  rw [HW.out]
  go_wp2_with fail
  refine (move_any b u share period tk used _ _ HM.out ht0 ht1).mono ?_
  rintro e w1 ⟨rfl, hM1, hk⟩
  have hL := usedAt_length period tk tick used
  have hr2 : r < (usedAt period tk tick used).length := by omega
  obtain ⟨us, hus⟩ : ∃ us, us = usedAt period tk tick used := ⟨_, rfl⟩
  rw [← hus] at hM1 hL hr2
  have HUS := Lib.hid hus
  clear hus
  have c0 := hM1.c0
  have c3 := hM1.c3
  have cu := hM1.us.cell r hr2
  have fu := hM1.us.fz r
  have hl := hM1.len
  have hs := hM1.shr
  have hB := hM1.bd us[r] (by simp)
  have hT := takeB us[r] share want hB.1 hB.2 hn0
  obtain ⟨hB1, hB2⟩ := hB
  obtain ⟨hs1, hs2⟩ := hs
  obtain ⟨hT1, hT2⟩ := hT
  have HM1 := Lib.hid hM1
  have HL := Lib.hid hL
  clear hM1 hL
  go_wp2
  go_quiet (fail)
  go_wp2
  · have h : share - us[r] < want := by assumption
    have hm : min want (share - us[r]) = share - us[r] := by omega
    have hM2 := (HM1.out.keep ((Keeps.refl [] _).drewN nq) (by simp) (by simp)).setUsed r (us[r] + (share - us[r])) (by omega) (by omega)
    go_ret2
    refine ⟨?_, ?_, ?_⟩
    · rw [← HUS.out]; simp [hr2, hm]
    · rw [← HUS.out]; simp only [List.getElem?_eq_getElem hr2, Option.getD_some, hm]; exact hM2
    · exact (hk.drewN nq).setCell (by simp) _
  · have h : want ≤ share - us[r] := by assumption
    have hm : min want (share - us[r]) = want := by omega
    have hM2 := (HM1.out.keep ((Keeps.refl [] _).drewN nq) (by simp) (by simp)).setUsed r (us[r] + want) (by omega) (by omega)
    go_ret2
    refine ⟨?_, ?_, ?_⟩
    · rw [← HUS.out]; simp [hr2, hm]
    · rw [← HUS.out]; simp only [List.getElem?_eq_getElem hr2, Option.getD_some, hm]; exact hM2
    · exact (hk.drewN nq).setCell (by simp) _

set_option maxHeartbeats 400000 in
theorem back_bad (b u : Nat) (share period tk : Int) (used : List Int) (rule n tick : Int) (w : World) (hM : MeterAt w b u share period tk used) (hw : wrongF tk used.length rule n tick ≠ 0) :
    Calls Try.prog 18 #[.pointer (some ⟨b, 0, none⟩), .int .i64 rule, .int .i64 n, .int .i64 tick] w fun e w' => e = .returned (.int .i64 (wrongF tk used.length rule n tick)) ∧ w = w' := by
  have HM := Lib.hid hM
  have hb : (wrongF tk used.length rule n tick != 0) = true := by simpa using hw
  clear hM hw
  go_enter Try.func18, Try.ntmps18
  go_wp2_with fail
  refine (wrong_any b u share period tk used _ _ _ _ HM.out).mono ?_
  rintro e w' ⟨rfl, rfl⟩
  go_wp2
  go_ret
  exact ⟨rfl, rfl⟩

set_option maxHeartbeats 400000 in
theorem back_quota (b u : Nat) (share period tk : Int) (used : List Int) (rule n tick : Int) (w : World) (hM : MeterAt w b u share period tk used) (hw : wrongF tk used.length rule n tick = 0)
    (hq : (usedAt period tk tick used)[rule.toNat]?.getD 0 < n) :
    Calls Try.prog 18 #[.pointer (some ⟨b, 0, none⟩), .int .i64 rule, .int .i64 n, .int .i64 tick] w fun e w' => e = .returned (.int .i64 21) ∧ ∃ k, w' = w.drewN k := by
  obtain ⟨hr0, hr1, hn0, hn1, ht0, ht1, htt⟩ := wrongF_zero hw
  have HM := Lib.hid hM
  have HW := Lib.hid hw
  clear hM hw
  go_enter Try.func18, Try.ntmps18
  go_wp2_with fail
  refine (wrong_any b u share period tk used _ _ _ _ HM.out).mono ?_
  rintro e w' ⟨rfl, rfl⟩
  rw [HW.out]
  go_wp2_with fail
  refine (spent_any b u share period tk used _ _ _ HM.out ht0 ht1 hr0 hr1).mono ?_
  rintro e w1 ⟨rfl, k, rfl⟩
  go_wp2
  go_ret
  exact ⟨rfl, _, rfl⟩

set_option maxHeartbeats 400000 in
theorem back_ok (b u : Nat) (share period tk : Int) (used : List Int) (rule n tick : Int) (w : World) (hM : MeterAt w b u share period tk used) (hw : wrongF tk used.length rule n tick = 0)
    (hq : n ≤ (usedAt period tk tick used)[rule.toNat]?.getD 0) :
    Calls Try.prog 18 #[.pointer (some ⟨b, 0, none⟩), .int .i64 rule, .int .i64 n, .int .i64 tick] w fun e w' => e = .returned (.int .i64 0) ∧
      MeterAt w' b u share period tick ((usedAt period tk tick used).set rule.toNat ((usedAt period tk tick used)[rule.toNat]?.getD 0 - n)) ∧ Keeps [b, u] w w' := by
  obtain ⟨hr0, hr1, hn0, hn1, ht0, ht1, htt⟩ := wrongF_zero hw
  obtain ⟨r, rfl⟩ := Int.eq_ofNat_of_zero_le hr0
  simp only [Int.toNat_natCast] at hq
  have HM := Lib.hid hM
  have HW := Lib.hid hw
  clear hM hw
  go_enter Try.func18, Try.ntmps18
  go_wp2_with fail
  refine (wrong_any b u share period tk used _ _ _ _ HM.out).mono ?_
  rintro e w' ⟨rfl, rfl⟩
  rw [HW.out]
  go_wp2_with fail
  refine (spent_any b u share period tk used _ _ _ HM.out ht0 ht1 hr0 hr1).mono ?_
  rintro e w1 ⟨rfl, k, rfl⟩
  go_wp2_with fail
  refine (move_any b u share period tk used _ _ (HM.out.drewN k) ht0 ht1).mono ?_
  rintro e w1 ⟨rfl, hM1, hk⟩
  have hL := usedAt_length period tk tick used
  have hr2 : r < (usedAt period tk tick used).length := by omega
  obtain ⟨us, hus⟩ : ∃ us, us = usedAt period tk tick used := ⟨_, rfl⟩
  rw [← hus] at hM1 hL hr2 hq
  have HUS := Lib.hid hus
  clear hus
  have c3 := hM1.c3
  have cu := hM1.us.cell r hr2
  have fu := hM1.us.fz r
  have hl := hM1.len
  obtain ⟨hs1, hs2⟩ := hM1.shr
  obtain ⟨hB1, hB2⟩ := hM1.bd us[r] (by simp)
  simp only [List.getElem?_eq_getElem hr2, Option.getD_some] at hq
  have HM1 := Lib.hid hM1
  have HL := Lib.hid hL
  clear hM1 hL
  go_wp2
  go_ret
  refine ⟨rfl, ?_, ?_⟩
  · have hM2 := HM1.out.setUsed r (us[r] - n) (by omega) (by omega)
    rw [← HUS.out]; simp only [List.getElem?_eq_getElem hr2, Option.getD_some, Int.toNat_natCast]; exact hM2
  · exact (((Keeps.refl _ _).drewN k).trans hk).setCell (by simp) _

set_option maxHeartbeats 400000 in
theorem left_bad (b u : Nat) (share period tk : Int) (used : List Int) (rule tick : Int) (w : World) (hM : MeterAt w b u share period tk used) (hw : wrongF tk used.length rule 0 tick ≠ 0) :
    Calls Try.prog 19 #[.pointer (some ⟨b, 0, none⟩), .int .i64 rule, .int .i64 tick] w fun e w' => e = .returned (.tuple #[.int .i64 0, .int .i64 (wrongF tk used.length rule 0 tick)]) ∧ w = w' := by
  have HM := Lib.hid hM
  have hb : (wrongF tk used.length rule 0 tick != 0) = true := by simpa using hw
  clear hM hw
  go_enter Try.func19, Try.ntmps19
  go_wp2_with fail
  refine (wrong_any b u share period tk used _ _ _ _ HM.out).mono ?_
  rintro e w' ⟨rfl, rfl⟩
  go_wp2
  go_ret2
  exact ⟨rfl, rfl⟩

theorem usedAt_bd {w : World} {b u : Nat} {share period tk : Int} {used : List Int} (h : MeterAt w b u share period tk used) (tick : Int) (i : Nat) :
    0 ≤ (usedAt period tk tick used)[i]?.getD 0 ∧ (usedAt period tk tick used)[i]?.getD 0 ≤ share := by
  have hs := h.shr
  by_cases hi : i < used.length
  · unfold usedAt; split
    · simp [hi]; omega
    · simp [hi]; exact h.bd _ (by simp)
  · rw [List.getElem?_eq_none (by rw [usedAt_length]; omega)]; simp; omega

set_option maxHeartbeats 400000 in
theorem left_ok (b u : Nat) (share period tk : Int) (used : List Int) (rule tick : Int) (w : World) (hM : MeterAt w b u share period tk used) (hw : wrongF tk used.length rule 0 tick = 0) :
    Calls Try.prog 19 #[.pointer (some ⟨b, 0, none⟩), .int .i64 rule, .int .i64 tick] w fun e w' => e = .returned (.tuple #[.int .i64 (share - (usedAt period tk tick used)[rule.toNat]?.getD 0), .int .i64 0]) ∧ ∃ k, w' = w.drewN k := by
  obtain ⟨hr0, hr1, hn0, hn1, ht0, ht1, htt⟩ := wrongF_zero hw
  obtain ⟨hB1, hB2⟩ := usedAt_bd hM tick rule.toNat
  obtain ⟨hs1, hs2⟩ := hM.shr
  have c0 := hM.c0
  have HM := Lib.hid hM
  have HW := Lib.hid hw
  clear hM hw
  go_enter Try.func19, Try.ntmps19
  go_wp2_with fail
  refine (wrong_any b u share period tk used _ _ _ _ HM.out).mono ?_
  rintro e w' ⟨rfl, rfl⟩
  rw [HW.out]
  go_wp2
  go_quiet ((go_at_call 33; exact Calls.quiet_of (spent_any b u share period tk used _ _ _ (HM.out.drewN _) ht0 ht1 hr0 hr1)))
  go_wp2
  go_ret2
  exact ⟨rfl, _, rfl⟩

theorem info3 : (Try.prog.info? 3).map (fun i => (i.zero, i.size, i.bytes)) = some (some (.int .i64 0), 1, 8) := by kernel_rfl

set_option maxHeartbeats 400000 in
theorem used_any (b u : Nat) (share period tk : Int) (used : List Int) (w : World) (hM : MeterAt w b u share period tk used) :
    Calls Try.prog 22 #[.pointer (some ⟨b, 0, none⟩)] w fun e w' =>
      e = .returned (.slice (some ⟨w.heap.size, 0, none⟩) used.length used.length) ∧ Ints 3 w' w.heap.size used ∧ Keeps [] w w' ∧ w.heap.size < w'.heap.size := by
  obtain ⟨i0, hi, hz0, hz1, hz2⟩ := info_parts info3
  have c3 := hM.c3
  have hl := hM.len
  have hne : b ≠ w.heap.size := by have := lt_of_block hM.cells; omega
  have hmk := run_make_ints (P := Try.prog) (T := 22) Try.underlying22 hi hz0 hz1 hz2 w used.length (by omega) (by omega)
  obtain ⟨w1, hw1⟩ : ∃ w1, w1 = w.alloc (.cells ((List.replicate (used.length : Int).toNat (0 : Int)).map (Value.int .i64)).toArray 3) := ⟨_, rfl⟩
  have hI1 := Ints.alloc 3 w (List.replicate (used.length : Int).toNat (0 : Int))
  have hk1 := (Keeps.refl [] w).alloc (.cells ((List.replicate (used.length : Int).toNat (0 : Int)).map (Value.int .i64)).toArray 3)
  have hs1 : w.heap.size < (w.alloc (.cells ((List.replicate (used.length : Int).toNat (0 : Int)).map (Value.int .i64)).toArray 3)).heap.size := by simp
  rw [← hw1] at hmk hI1 hk1 hs1
  have hM1 := hM.keep hk1 (by simp) (by simp)
  have d3 := hM1.c3
  obtain ⟨w2, hw2⟩ : ∃ w2, w2 = w1.setRow w.heap.size (used.map (Value.int .i64)).toArray := ⟨_, rfl⟩
  have hcp := run_copy_ints (P := Try.prog) (T := 22) Try.underlying22 hi hz1 hI1 hM1.us (by simp)
  have hI2 : Ints 3 (w1.setRow w.heap.size (used.map (Value.int .i64)).toArray) w.heap.size used := setRow_heap _ _ _ _ _ _ hI1
  have hk2 := hk1.setRow (g := w.heap.size) (by simp) (used.map (Value.int .i64)).toArray
  have hs2 : w.heap.size < (w1.setRow w.heap.size (used.map (Value.int .i64)).toArray).heap.size := by simpa using hs1
  rw [← hw2] at hcp hI2 hk2 hs2
  have HI2 := Lib.hid hI2
  have HK2 := Lib.hid hk2
  simp only [Int.toNat_natCast] at hmk
  clear hw1 hw2 hI1 hk1 hM hM1 hI2 hk2 hi hz0 hz1 hz2 hs1
  go_enter Try.func22, Try.ntmps22
  go_wp2
  go_ret
  exact ⟨rfl, HI2.out, HK2.out, hs2⟩

def newBad (rules share period : Int) : Bool := outB rules 1 500 || outB share 0 1099511627776 || outB period 1 1099511627776

set_option maxHeartbeats 400000 in
theorem new_bad (rules share period : Int) (w : World) (hb : newBad rules share period = true) :
    Calls Try.prog 15 #[.int .i64 rules, .int .i64 share, .int .i64 period] w fun e w' => e = .returned (.tuple #[.pointer none, .int .i64 1]) ∧ w = w' := by
  cases h1 : outB rules 1 500 <;> cases h2 : outB share 0 1099511627776 <;> cases h3 : outB period 1 1099511627776 <;> first | (exfalso; simp [newBad, h1, h2, h3] at hb; done) | skip
  all_goals
    have H1 := Lib.hid h1
    have H2 := Lib.hid h2
    have H3 := Lib.hid h3
    clear h1 h2 h3 hb
    go_enter Try.func15, Try.ntmps15
    go_wp2_with (go_at_call 27; refine (outside_any _ _ _ _).mono ?_; rintro e w' ⟨rfl, rfl⟩; first | rw [H1.out] | rw [H2.out] | rw [H3.out])
    go_ret2
    exact ⟨rfl, rfl⟩

set_option maxHeartbeats 400000 in
theorem new_ok (rules share period : Int) (w : World) (hb : newBad rules share period = false) :
    Calls Try.prog 15 #[.int .i64 rules, .int .i64 share, .int .i64 period] w fun e w' =>
      e = .returned (.tuple #[.pointer (some ⟨w.heap.size + 1, 0, none⟩), .int .i64 0]) ∧ MeterAt w' (w.heap.size + 1) w.heap.size share period 0 (List.replicate rules.toNat 0) ∧ Keeps [] w w' ∧ w.heap.size + 2 ≤ w'.heap.size := by
  obtain ⟨i0, hi, hz0, hz1, hz2⟩ := info_parts info3
  obtain ⟨⟨h1, h2⟩, h3⟩ : (outB rules 1 500 = false ∧ outB share 0 1099511627776 = false) ∧ outB period 1 1099511627776 = false := by simpa [newBad] using hb
  have b1 : 1 ≤ rules ∧ rules ≤ 500 := by simp [outB] at h1; omega
  have b2 : 0 ≤ share ∧ share ≤ 1099511627776 := by simp [outB] at h2; omega
  have b3 : 1 ≤ period ∧ period ≤ 1099511627776 := by simp [outB] at h3; omega
  obtain ⟨r, rfl⟩ := Int.eq_ofNat_of_zero_le (show 0 ≤ rules by omega)
  have hmk := run_make_ints (P := Try.prog) (T := 22) Try.underlying22 hi hz0 hz1 hz2 w r (by omega) (by omega)
  simp only [Int.toNat_natCast] at hmk
  have H1 := Lib.hid h1
  have H2 := Lib.hid h2
  have H3 := Lib.hid h3
  have B1 := Lib.hid b1
  clear h1 h2 h3 hb hi hz0 hz1 hz2 b1
  go_enter Try.func15, Try.ntmps15
  go_wp2_with (go_at_call 27; refine (outside_any _ _ _ _).mono ?_; rintro e w' ⟨rfl, rfl⟩; first | rw [H1.out] | rw [H2.out] | rw [H3.out])
  go_ret2
  refine ⟨rfl, ⟨?_, ?_, by omega, ?_, b3, b2, by omega, ?_⟩, ((Keeps.refl _ _).alloc _).alloc _, by simp⟩
  · rw [show w.heap.size + 1 = (w.alloc (.cells (Array.replicate r (Value.int .i64 0)) 3)).heap.size from by simp]
    rw [heap_alloc_new]
    simp
  · have h := heap_alloc_new w (.cells (Array.replicate r (Value.int .i64 0)) 3)
    unfold Ints
    rw [heap_alloc_old, h]
    · simp
    · simp
  · have := B1.out; simp; omega
  · intro x hx; simp at hx; omega

set_option maxHeartbeats 400000 in
theorem copy_any (b u : Nat) (share period tk : Int) (used : List Int) (w : World) (hM : MeterAt w b u share period tk used) :
    Calls Try.prog 25 #[.pointer (some ⟨b, 0, none⟩)] w fun e w' =>
      e = .returned (.pointer (some ⟨w.heap.size, 0, none⟩)) ∧ MeterAt w' w.heap.size (w.heap.size + 1) share period tk used ∧ Keeps [] w w' ∧ w.heap.size + 2 ≤ w'.heap.size := by
  have c0 := hM.c0
  have c1 := hM.c1
  have c2 := hM.c2
  have c3 := hM.c3
  have HM := Lib.hid hM
  clear hM
  go_enter Try.func25, Try.ntmps25
  go_wp2_with fail
  refine (used_any b u share period tk used _ (HM.out.keep ((Keeps.refl [] _).alloc _) (by simp) (by simp))).mono ?_
  rintro e w1 ⟨rfl, hI, hk, hs⟩
  have hb1 : w1.heap[w.heap.size]? = _ := hk.heap (heap_alloc_new w _) (by simp)
  simp only [World.size_alloc] at hI hs
  have d3 : w1.cell? ⟨w.heap.size, 3, none⟩ = some (.slice (some ⟨u, 0, none⟩) used.length used.length) := by simp [World.cell?, hb1]
  have dz : w1.frozen? ⟨w.heap.size, 3, none⟩ = false := by simp [World.frozen?, hb1]
  have HI := Lib.hid hI
  have HB1 := Lib.hid hb1
  clear hI hb1
  go_wp2
  go_ret
  refine ⟨rfl, ⟨?_, ?_, by omega, HM.out.len, HM.out.per, HM.out.shr, HM.out.tck, HM.out.bd⟩, ?_, ?_⟩
  · rw [heap_setCell_same _ _ _ _ _ _ HB1.out]; rfl
  · exact (heap_setCell_other _ _ _ _ (by simp)).trans HI.out
  · exact (((Keeps.refl [] w).alloc _).trans hk).setCell (by simp) _
  · simp [World.setCell]; omega

end Go.Proofs.Ytdpmkbiibmjbfaa
