/- rexmilllaw33.step: an operation on a meter and its model gives the same, and both stay a pair. Conditions: they are a pair; the model's list holds fewer than 1000 triples. -/
import Derived.Test.YtdpmkbiibmjbfaaPair
import Derived.Deep.RegionHeld3
namespace Go.Proofs.Ytdpmkbiibmjbfaa
open Go.RowKit

/-- What a step leaves: both are a pair again. -/
def StepPost (w : World) (mb mu rb : Nat) (share period : Int) (a : Option Nat) (n : Nat) (k : Nat) (e : Ending) (w' : World) : Prop :=
  e = .returned (.bool true) ∧ ∃ (tick : Int) (used : List Int) (a' : Option Nat) (c' : Nat) (L : List (Int × Int × Int)), Pair w' mb mu rb share period tick used a' c' L ∧ used.length = n ∧ L.length ≤ k ∧
    Keeps (mb :: mu :: rb :: a.toList) w w' ∧ (a' = a ∨ ∃ g, a' = some g ∧ w.heap.size ≤ g)

set_option maxRecDepth 100000 in
set_option maxHeartbeats 2000000 in
theorem step_take (mb mu rb : Nat) (share period tick : Int) (used : List Int) (a : Option Nat) (c : Nat) (L : List (Int × Int × Int)) (rule n wait : Int) (w : World) (hP : Pair w mb mu rb share period tick used a c L) (hL : L.length < 1000) :
    Calls Try.prog 21 #[.pointer (some ⟨mb, 0, none⟩), .pointer (some ⟨rb, 0, none⟩), .agg #[.int .i64 0, .int .i64 rule, .int .i64 n, .int .i64 wait]] w (StepPost w mb mu rb share period a used.length (L.length + 1)) := by
  have c3 := hP.r.c3
  have HP := Lib.hid hP
  clear hP
  go_enter Try.func21, Try.ntmps21
  go_wp2
  obtain ⟨W, hW⟩ : ∃ W, W = w.alloc (.cells #[.int .i64 0, .int .i64 rule, .int .i64 n, .int .i64 wait] 41) := ⟨_, rfl⟩
  have hkW : Keeps [] w W := by rw [hW]; exact (Keeps.refl [] w).alloc _
  have hbW : W.heap[w.heap.size]? = some (.cells #[.int .i64 0, .int .i64 rule, .int .i64 n, .int .i64 wait] 41 (0, 0)) := by rw [hW]; exact heap_alloc_new _ _
  have HPW := Lib.hid (HP.out.keep hkW (by simp) (by simp) (by simp) (by simp))
  have hBm : w.heap.size ≠ mb ∧ w.heap.size ≠ mu ∧ w.heap.size ≠ rb ∧ a ≠ some w.heap.size := by
    refine ⟨?_, ?_, ?_, ?_⟩
    · have := lt_of_block HP.out.m.cells; omega
    · have := lt_of_block HP.out.m.us; omega
    · have := lt_of_block HP.out.r.cells; omega
    · intro h; cases a with
      | none => simp at h
      | some g => have := HP.out.r.sl.lt; simp at h; omega
  rw [← hW]
  have HKW := Lib.hid hkW
  obtain ⟨B, hB⟩ : ∃ B, B = w.heap.size := ⟨_, rfl⟩
  rw [← hB] at hbW hBm ⊢
  have HB := Lib.hid hB
  have HBM := Lib.hid hBm
  have b0 : W.cell? ⟨B, 0, none⟩ = some (.int .i64 0) := by simp [World.cell?, hbW]
  have b1 : W.cell? ⟨B, 1, none⟩ = some (.int .i64 rule) := by simp [World.cell?, hbW]
  have b2 : W.cell? ⟨B, 2, none⟩ = some (.int .i64 n) := by simp [World.cell?, hbW]
  have b3 : W.cell? ⟨B, 3, none⟩ = some (.int .i64 wait) := by simp [World.cell?, hbW]
  have HBW := Lib.hid hbW
  have d3 := HPW.out.r.c3
  clear hW hkW hbW hB hBm c3
  go_quiet (fail)
  generalize wrap64 (tick + wait) = T
  have HPQ := Lib.hid (HPW.out.drewN nq)
  have HKQ := Lib.hid (HKW.out.drewN nq)
  have q1 : W.cell? ⟨B, 1, none⟩ = (W.drewN nq).cell? ⟨B, 1, none⟩ := rfl
  have q2 : W.cell? ⟨B, 2, none⟩ = (W.drewN nq).cell? ⟨B, 2, none⟩ := rfl
  have q0 : W.cell? ⟨B, 0, none⟩ = (W.drewN nq).cell? ⟨B, 0, none⟩ := rfl
  rw [q0] at b0
  rw [q1] at b1
  rw [q2] at b2
  clear q0 q1 q2 b3 d3 HBW HPW HKW HP
  generalize W.drewN nq = V at *
  by_cases hw : wrongF tick used.length rule n T = 0
  · obtain ⟨hr0, hr1, hn0, hn1, ht0, ht1, htt⟩ := wrongF_zero hw
    have htk := take_ok mb mu share period tick used rule n T V HPQ.out.m hw
    have hx := HPQ.out.at' T htt rule hr0 hr1
    have hub := usedAt_bd HPQ.out.m T rule.toNat
    have hag := agree_step period tick T used L rule.toNat (min n (share - (usedAt period tick T used)[rule.toNat]?.getD 0)) HPQ.out.m.per.1 htt HPQ.out.old HPQ.out.agree
    have hln := usedAt_length period tick T used
    obtain ⟨u, hu⟩ : ∃ u, u = (usedAt period tick T used)[rule.toNat]?.getD 0 := ⟨_, rfl⟩
    rw [← hu] at htk hx hub hag
    obtain ⟨v, hv⟩ : ∃ v, v = min n (share - u) := ⟨_, rfl⟩
    rw [← hv] at htk hag
    have hrc : checkF used.length tick rule n T = 0 := by rw [checkF_eq]; exact hw
    have hrt := fun w' hr => rtake_ok rb used.length share period tick a c L rule n T w' hr hrc hL u v hx hub.1 hub.2 hv.symm
    have hrn : ((rule.toNat : Nat) : Int) = rule := by omega
    rw [hrn] at hag
    have HRT := Lib.hid hrt
    have HTK := Lib.hid htk
    have HAG := Lib.hid hag
    have HLN := Lib.hid hln
    clear hrt htk hag hln hrc hw hx hub hu hv hrn
    go_wp2_with fail
    refine Calls.mono HTK.out ?_
    rintro e w1 ⟨rfl, hM1, hk1⟩
    have HM1 := Lib.hid hM1
    have HK1 := Lib.hid hk1
    have e1 := hk1.cell b1 (by simp; exact ⟨HBM.out.1, HBM.out.2.1⟩)
    have e2 := hk1.cell b2 (by simp; exact ⟨HBM.out.1, HBM.out.2.1⟩)
    have HR1 := Lib.hid (HPQ.out.r.keep hk1 (by simp; exact ⟨HPQ.out.n1, HPQ.out.n2⟩) (by intro g hg; simp; exact ⟨fun h => HPQ.out.n3 (by rw [hg, h]), fun h => HPQ.out.n4 (by rw [hg, h])⟩))
    clear hM1 hk1 b1 b2 b0 HTK
    go_wp2_with fail
    refine Calls.mono (HRT.out _ HR1.out) ?_
    rintro e w2 ⟨rfl, a', c', hR2, hk2, ha2⟩
    have HR2 := Lib.hid hR2
    have HK2 := Lib.hid hk2
    have HA2 := Lib.hid ha2
    clear hR2 hk2 ha2 e1 e2 HRT
    go_wp2
    go_ret
    have hkA : Keeps (mb :: mu :: rb :: a.toList) w w2 := by
      refine (Keeps.mono HKQ.out (by simp)).after HK1.out (by intro x hx; simp at hx ⊢; rcases hx with rfl | rfl <;> simp) |>.after HK2.out ?_
      intro x hx; left; simp at hx ⊢; rcases hx with h | h
      · right; right; left; exact h
      · right; right; right; exact h
    have hM2 : MeterAt w2 mb mu share period T _ := HM1.out.keep HK2.out (by simp; exact ⟨Ne.symm HPQ.out.n1, HPQ.out.n3⟩) (by simp; exact ⟨Ne.symm HPQ.out.n2, HPQ.out.n4⟩)
    have hVz := HKQ.out.size
    have h1z := HK1.out.size
    have hmb1 : mb < V.heap.size := lt_of_block HPQ.out.m.cells
    have hmu1 : mu < V.heap.size := lt_of_block HPQ.out.m.us
    refine ⟨rfl, T, _, a', c', L ++ [(rule, v, T)], ⟨hM2, ?_, HPQ.out.n1, HPQ.out.n2, ?_, ?_, HAG.out, ?_⟩, ?_, ?_, hkA, ?_⟩
    · rw [List.length_set, HLN.out]; exact HR2.out
    · rcases HA2.out with rfl | ⟨g, rfl, hg⟩
      · exact HPQ.out.n3
      · simp; omega
    · rcases HA2.out with rfl | ⟨g, rfl, hg⟩
      · exact HPQ.out.n4
      · simp; omega
    · intro x hx
      simp at hx
      rcases hx with hx | rfl
      · have := HPQ.out.old x hx; omega
      · exact Int.le_refl _
    · rw [List.length_set, HLN.out]
    · simp
    · rcases HA2.out with rfl | ⟨g, rfl, hg⟩
      · exact .inl rfl
      · exact .inr ⟨g, rfl, by omega⟩
  · have htk := take_bad mb mu share period tick used rule n T V HPQ.out.m hw
    have hrt := rtake_bad rb used.length share period tick a c L rule n T V HPQ.out.r (by rw [checkF_eq]; exact hw)
    rw [checkF_eq] at hrt
    obtain ⟨er, her⟩ : ∃ er, er = wrongF tick used.length rule n T := ⟨_, rfl⟩
    rw [← her] at htk hrt
    have HTK := Lib.hid htk
    have HRT := Lib.hid hrt
    clear htk hrt her hw
    go_wp2_with fail
    refine Calls.mono HTK.out ?_
    rintro e w1 ⟨rfl, rfl⟩
    go_wp2_with fail
    refine Calls.mono HRT.out ?_
    rintro e w1 ⟨rfl, rfl⟩
    clear HTK HRT b0 b1 b2
    go_wp2
    go_ret
    exact ⟨rfl, tick, used, a, c, L, HPQ.out, rfl, by omega, HKQ.out.mono (by simp), .inl rfl⟩

set_option maxRecDepth 100000 in
set_option maxHeartbeats 2000000 in
theorem step_back (mb mu rb : Nat) (share period tick : Int) (used : List Int) (a : Option Nat) (c : Nat) (L : List (Int × Int × Int)) (rule n wait : Int) (w : World) (hP : Pair w mb mu rb share period tick used a c L) (hL : L.length < 1000) :
    Calls Try.prog 21 #[.pointer (some ⟨mb, 0, none⟩), .pointer (some ⟨rb, 0, none⟩), .agg #[.int .i64 1, .int .i64 rule, .int .i64 n, .int .i64 wait]] w (StepPost w mb mu rb share period a used.length (L.length + 1)) := by
  have c3 := hP.r.c3
  have HP := Lib.hid hP
  clear hP
  go_enter Try.func21, Try.ntmps21
  go_wp2
  obtain ⟨W, hW⟩ : ∃ W, W = w.alloc (.cells #[.int .i64 1, .int .i64 rule, .int .i64 n, .int .i64 wait] 41) := ⟨_, rfl⟩
  have hkW : Keeps [] w W := by rw [hW]; exact (Keeps.refl [] w).alloc _
  have hbW : W.heap[w.heap.size]? = some (.cells #[.int .i64 1, .int .i64 rule, .int .i64 n, .int .i64 wait] 41 (0, 0)) := by rw [hW]; exact heap_alloc_new _ _
  have HPW := Lib.hid (HP.out.keep hkW (by simp) (by simp) (by simp) (by simp))
  have hBm : w.heap.size ≠ mb ∧ w.heap.size ≠ mu ∧ w.heap.size ≠ rb ∧ a ≠ some w.heap.size := by
    refine ⟨?_, ?_, ?_, ?_⟩
    · have := lt_of_block HP.out.m.cells; omega
    · have := lt_of_block HP.out.m.us; omega
    · have := lt_of_block HP.out.r.cells; omega
    · intro h; cases a with
      | none => simp at h
      | some g => have := HP.out.r.sl.lt; simp at h; omega
  rw [← hW]
  have HKW := Lib.hid hkW
  obtain ⟨B, hB⟩ : ∃ B, B = w.heap.size := ⟨_, rfl⟩
  rw [← hB] at hbW hBm ⊢
  have HB := Lib.hid hB
  have HBM := Lib.hid hBm
  have b0 : W.cell? ⟨B, 0, none⟩ = some (.int .i64 1) := by simp [World.cell?, hbW]
  have b1 : W.cell? ⟨B, 1, none⟩ = some (.int .i64 rule) := by simp [World.cell?, hbW]
  have b2 : W.cell? ⟨B, 2, none⟩ = some (.int .i64 n) := by simp [World.cell?, hbW]
  have b3 : W.cell? ⟨B, 3, none⟩ = some (.int .i64 wait) := by simp [World.cell?, hbW]
  have HBW := Lib.hid hbW
  have d3 := HPW.out.r.c3
  clear hW hkW hbW hB hBm c3
  go_quiet (fail)
  generalize wrap64 (tick + wait) = T
  have HPQ := Lib.hid (HPW.out.drewN nq)
  have HKQ := Lib.hid (HKW.out.drewN nq)
  have q1 : W.cell? ⟨B, 1, none⟩ = (W.drewN nq).cell? ⟨B, 1, none⟩ := rfl
  have q2 : W.cell? ⟨B, 2, none⟩ = (W.drewN nq).cell? ⟨B, 2, none⟩ := rfl
  have q0 : W.cell? ⟨B, 0, none⟩ = (W.drewN nq).cell? ⟨B, 0, none⟩ := rfl
  rw [q0] at b0
  rw [q1] at b1
  rw [q2] at b2
  clear q0 q1 q2 b3 d3 HBW HPW HKW HP
  generalize W.drewN nq = V at *
  by_cases hw : wrongF tick used.length rule n T = 0
  · obtain ⟨hr0, hr1, hn0, hn1, ht0, ht1, htt⟩ := wrongF_zero hw
    have hrc : checkF used.length tick rule n T = 0 := by rw [checkF_eq]; exact hw
    have hx := HPQ.out.at' T htt rule hr0 hr1
    have hub := usedAt_bd HPQ.out.m T rule.toNat
    by_cases hq : (usedAt period tick T used)[rule.toNat]?.getD 0 < n
    · have hbq := fun w' hm => back_quota mb mu share period tick used rule n T w' hm hw hq
      have hrq := fun w' hr => rback_quota rb used.length share period tick a c L rule n T w' hr hrc _ hx hq
      have HBQ := Lib.hid hbq
      have HRQ := Lib.hid hrq
      clear hbq hrq hw hrc hx hub hq
      go_wp2
      go_quiet ((first | (go_at_call 18; exact Calls.quiet_of (HBQ.out _ (HPQ.out.m.drewN _))) | (go_at_call 34; exact Calls.quiet_of (HRQ.out _ (HPQ.out.r.drewN _)))))
      go_wp2
      go_ret
      exact ⟨rfl, tick, used, a, c, L, HPQ.out.drewN _, rfl, by omega, (HKQ.out.mono (by simp)).drewN _, .inl rfl⟩
    · have hq' : n ≤ (usedAt period tick T used)[rule.toNat]?.getD 0 := by omega
      have hbk := back_ok mb mu share period tick used rule n T (V.drew) (HPQ.out.m.keep ((Keeps.refl [] V).drew) (by simp) (by simp)) hw hq'
      have hag := agree_step period tick T used L rule.toNat (-n) HPQ.out.m.per.1 htt HPQ.out.old HPQ.out.agree
      have hln := usedAt_length period tick T used
      obtain ⟨u, hu⟩ : ∃ u, u = (usedAt period tick T used)[rule.toNat]?.getD 0 := ⟨_, rfl⟩
      rw [← hu] at hbk hx hub hag hq'
      rw [show u - n = u + -n by omega] at hbk
      have hrt := fun w' hr => rback_ok rb used.length share period tick a c L rule n T w' hr hrc hL u hx hq'
      have hrn : ((rule.toNat : Nat) : Int) = rule := by omega
      rw [hrn] at hag
      have HRT := Lib.hid hrt
      have HBK := Lib.hid hbk
      have HAG := Lib.hid hag
      have HLN := Lib.hid hln
      clear hrt hbk hag hln hrc hw hx hub hu hrn hq hq'
      go_wp2
      go_region_held3 (fun w' => w'.cell? ⟨B, 1, none⟩ = some (.int .i64 rule) ∧ w'.cell? ⟨B, 2, none⟩ = some (.int .i64 n)) (first | exact ⟨b1, b2⟩ | exact E1.out | exact E2.out)
        (first
          | (go_at_call 18; refine Calls.mono HBK.out ?_; rintro e w1 ⟨rfl, hM1, hk1⟩; have HM1 := Lib.hid hM1; have HK1 := Lib.hid hk1; have E1 := Lib.hid (And.intro (hk1.cell (a := ⟨B, 1, none⟩) b1 (by simp; exact ⟨HBM.out.1, HBM.out.2.1⟩)) (hk1.cell (a := ⟨B, 2, none⟩) b2 (by simp; exact ⟨HBM.out.1, HBM.out.2.1⟩))); clear hM1 hk1)
          | (go_at_call 34; refine Calls.mono (HRT.out _ (HPQ.out.r.keep ((Keeps.refl [mb, mu] V).drew.trans HK1.out) (by simp; exact ⟨HPQ.out.n1, HPQ.out.n2⟩) (by intro g hg; simp; exact ⟨fun h => HPQ.out.n3 (by rw [hg, h]), fun h => HPQ.out.n4 (by rw [hg, h])⟩))) ?_; rintro e w2 ⟨rfl, a', c', hR2, hk2, ha2⟩; have HR2 := Lib.hid hR2; have HK2 := Lib.hid hk2; have HA2 := Lib.hid ha2; have E2 := Lib.hid (And.intro (hk2.cell (a := ⟨B, 1, none⟩) E1.out.1 (by simp; exact ⟨HBM.out.2.2.1, HBM.out.2.2.2⟩)) (hk2.cell (a := ⟨B, 2, none⟩) E1.out.2 (by simp; exact ⟨HBM.out.2.2.1, HBM.out.2.2.2⟩))); clear hR2 hk2 ha2))
      go_wp2
      go_ret
      have hkA : Keeps (mb :: mu :: rb :: a.toList) w w2 := by
        refine (Keeps.mono HKQ.out (by simp)).drew.after HK1.out (by intro x hx; simp at hx ⊢; rcases hx with rfl | rfl <;> simp) |>.after HK2.out ?_
        intro x hx; left; simp at hx ⊢; rcases hx with h | h
        · right; right; left; exact h
        · right; right; right; exact h
      have hM2 : MeterAt w2 mb mu share period T _ := HM1.out.keep HK2.out (by simp; exact ⟨Ne.symm HPQ.out.n1, HPQ.out.n3⟩) (by simp; exact ⟨Ne.symm HPQ.out.n2, HPQ.out.n4⟩)
      have hVz := HKQ.out.size
      have h1z : V.heap.size ≤ w1.heap.size := HK1.out.size
      have hmb1 : mb < V.heap.size := lt_of_block HPQ.out.m.cells
      have hmu1 : mu < V.heap.size := lt_of_block HPQ.out.m.us
      refine ⟨rfl, T, _, a', c', L ++ [(rule, -n, T)], ⟨hM2, ?_, HPQ.out.n1, HPQ.out.n2, ?_, ?_, HAG.out, ?_⟩, ?_, ?_, hkA, ?_⟩
      · rw [List.length_set, HLN.out]; exact HR2.out
      · rcases HA2.out with rfl | ⟨g, rfl, hg⟩
        · exact HPQ.out.n3
        · simp; omega
      · rcases HA2.out with rfl | ⟨g, rfl, hg⟩
        · exact HPQ.out.n4
        · simp; omega
      · intro x hx
        simp at hx
        rcases hx with hx | rfl
        · have := HPQ.out.old x hx; omega
        · exact Int.le_refl _
      · rw [List.length_set, HLN.out]
      · simp
      · rcases HA2.out with rfl | ⟨g, rfl, hg⟩
        · exact .inl rfl
        · exact .inr ⟨g, rfl, by omega⟩
  · have hbk := fun w' hm => back_bad mb mu share period tick used rule n T w' hm hw
    have hrt := fun w' hr => rback_bad rb used.length share period tick a c L rule n T w' hr (by rw [checkF_eq]; exact hw)
    rw [checkF_eq] at hrt
    obtain ⟨er, her⟩ : ∃ er, er = wrongF tick used.length rule n T := ⟨_, rfl⟩
    rw [← her] at hbk hrt
    have HBK := Lib.hid hbk
    have HRT := Lib.hid hrt
    clear hbk hrt her hw
    go_wp2
    go_quiet ((first | (go_at_call 18; exact quiet_left (HBK.out _ (HPQ.out.m.drewN _))) | (go_at_call 34; exact quiet_left (HRT.out _ (HPQ.out.r.drewN _)))))
    go_wp2
    go_ret
    exact ⟨rfl, tick, used, a, c, L, HPQ.out.drewN _, rfl, by omega, (HKQ.out.mono (by simp)).drewN _, .inl rfl⟩


set_option maxRecDepth 100000 in
set_option maxHeartbeats 2000000 in
theorem step_left (mb mu rb : Nat) (share period tick : Int) (used : List Int) (a : Option Nat) (c : Nat) (L : List (Int × Int × Int)) (kd rule n wait : Int) (w : World) (hk0 : kd ≠ 0) (hk1 : kd ≠ 1) (hP : Pair w mb mu rb share period tick used a c L) :
    Calls Try.prog 21 #[.pointer (some ⟨mb, 0, none⟩), .pointer (some ⟨rb, 0, none⟩), .agg #[.int .i64 kd, .int .i64 rule, .int .i64 n, .int .i64 wait]] w (StepPost w mb mu rb share period a used.length (L.length + 1)) := by
  have hk0' : (kd == 0) = false := by simp [hk0]
  have hk1' : (kd == 1) = false := by simp [hk1]
  clear hk0 hk1
  have c3 := hP.r.c3
  have HP := Lib.hid hP
  clear hP
  go_enter Try.func21, Try.ntmps21
  go_wp2
  obtain ⟨W, hW⟩ : ∃ W, W = w.alloc (.cells #[.int .i64 kd, .int .i64 rule, .int .i64 n, .int .i64 wait] 41) := ⟨_, rfl⟩
  have hkW : Keeps [] w W := by rw [hW]; exact (Keeps.refl [] w).alloc _
  have hbW : W.heap[w.heap.size]? = some (.cells #[.int .i64 kd, .int .i64 rule, .int .i64 n, .int .i64 wait] 41 (0, 0)) := by rw [hW]; exact heap_alloc_new _ _
  have HPW := Lib.hid (HP.out.keep hkW (by simp) (by simp) (by simp) (by simp))
  have hBm : w.heap.size ≠ mb ∧ w.heap.size ≠ mu ∧ w.heap.size ≠ rb ∧ a ≠ some w.heap.size := by
    refine ⟨?_, ?_, ?_, ?_⟩
    · have := lt_of_block HP.out.m.cells; omega
    · have := lt_of_block HP.out.m.us; omega
    · have := lt_of_block HP.out.r.cells; omega
    · intro h; cases a with
      | none => simp at h
      | some g => have := HP.out.r.sl.lt; simp at h; omega
  rw [← hW]
  have HKW := Lib.hid hkW
  obtain ⟨B, hB⟩ : ∃ B, B = w.heap.size := ⟨_, rfl⟩
  rw [← hB] at hbW hBm ⊢
  have HB := Lib.hid hB
  have HBM := Lib.hid hBm
  have b0 : W.cell? ⟨B, 0, none⟩ = some (.int .i64 kd) := by simp [World.cell?, hbW]
  have b1 : W.cell? ⟨B, 1, none⟩ = some (.int .i64 rule) := by simp [World.cell?, hbW]
  have b2 : W.cell? ⟨B, 2, none⟩ = some (.int .i64 n) := by simp [World.cell?, hbW]
  have b3 : W.cell? ⟨B, 3, none⟩ = some (.int .i64 wait) := by simp [World.cell?, hbW]
  have HBW := Lib.hid hbW
  have d3 := HPW.out.r.c3
  clear hW hkW hbW hB hBm c3
  go_quiet (fail)
  generalize wrap64 (tick + wait) = T
  have HPQ := Lib.hid (HPW.out.drewN nq)
  have HKQ := Lib.hid (HKW.out.drewN nq)
  have q1 : W.cell? ⟨B, 1, none⟩ = (W.drewN nq).cell? ⟨B, 1, none⟩ := rfl
  have q2 : W.cell? ⟨B, 2, none⟩ = (W.drewN nq).cell? ⟨B, 2, none⟩ := rfl
  have q0 : W.cell? ⟨B, 0, none⟩ = (W.drewN nq).cell? ⟨B, 0, none⟩ := rfl
  rw [q0] at b0
  rw [q1] at b1
  rw [q2] at b2
  clear q0 q1 q2 b3 d3 HBW HPW HKW HP
  generalize W.drewN nq = V at *
  by_cases hw : wrongF tick used.length rule 0 T = 0
  · obtain ⟨hr0, hr1, hn0, hn1, ht0, ht1, htt⟩ := wrongF_zero hw
    have hrc : checkF used.length tick rule 0 T = 0 := by rw [checkF_eq]; exact hw
    have hx := HPQ.out.at' T htt rule hr0 hr1
    have hub := usedAt_bd HPQ.out.m T rule.toNat
    have hlf := left_ok mb mu share period tick used rule T V HPQ.out.m hw
    obtain ⟨u, hu⟩ : ∃ u, u = (usedAt period tick T used)[rule.toNat]?.getD 0 := ⟨_, rfl⟩
    rw [← hu] at hlf hx hub
    have hrt := fun w' hr => rleft_ok rb used.length share period tick a c L rule T w' hr hrc u hx hub.1 hub.2
    have HLF := Lib.hid hlf
    have HRT := Lib.hid hrt
    clear hlf hrt hrc hw hx hub hu
    go_wp2_with fail
    refine Calls.mono HLF.out ?_
    rintro e w1 ⟨rfl, k1, rfl⟩
    go_wp2_with fail
    refine Calls.mono (HRT.out _ (HPQ.out.r.drewN k1)) ?_
    rintro e w1 ⟨rfl, k2, rfl⟩
    go_wp2
    go_ret
    exact ⟨rfl, tick, used, a, c, L, HPQ.out.drewN _, rfl, by omega, (HKQ.out.mono (by simp)).drewN _, .inl rfl⟩
  · have hlf := left_bad mb mu share period tick used rule T V HPQ.out.m hw
    have hrt := rleft_bad rb used.length share period tick a c L rule T V HPQ.out.r (by rw [checkF_eq]; exact hw)
    rw [checkF_eq] at hrt
    obtain ⟨er, her⟩ : ∃ er, er = wrongF tick used.length rule 0 T := ⟨_, rfl⟩
    rw [← her] at hlf hrt
    have HLF := Lib.hid hlf
    have HRT := Lib.hid hrt
    clear hlf hrt her hw
    go_wp2_with fail
    refine Calls.mono HLF.out ?_
    rintro e w1 ⟨rfl, rfl⟩
    go_wp2_with fail
    refine Calls.mono HRT.out ?_
    rintro e w1 ⟨rfl, rfl⟩
    clear HLF HRT b0 b1 b2
    go_wp2
    go_ret
    exact ⟨rfl, tick, used, a, c, L, HPQ.out, rfl, by omega, HKQ.out.mono (by simp), .inl rfl⟩

theorem step_any (mb mu rb : Nat) (share period tick : Int) (used : List Int) (a : Option Nat) (c : Nat) (L : List (Int × Int × Int)) (kd rule n wait : Int) (w : World) (hP : Pair w mb mu rb share period tick used a c L) (hL : L.length < 1000) :
    Calls Try.prog 21 #[.pointer (some ⟨mb, 0, none⟩), .pointer (some ⟨rb, 0, none⟩), .agg #[.int .i64 kd, .int .i64 rule, .int .i64 n, .int .i64 wait]] w (StepPost w mb mu rb share period a used.length (L.length + 1)) := by
  by_cases h0 : kd = 0
  · subst h0; exact step_take mb mu rb share period tick used a c L rule n wait w hP hL
  · by_cases h1 : kd = 1
    · subst h1; exact step_back mb mu rb share period tick used a c L rule n wait w hP hL
    · exact step_left mb mu rb share period tick used a c L kd rule n wait w h0 h1 hP

end Go.Proofs.Ytdpmkbiibmjbfaa
