/- Part 4 of the proof. No condition: every lemma says its own. -/
import Derived.Test.YtkekenaamnhbhaaGreatZsac
namespace Go.Proofs.YtkekenaamnhbhaaGreat
open Go.RowKit
set_option maxRecDepth 100000
set_option maxHeartbeats 16000000
theorem rightB_any (s : Int × Int) (w : World) : Calls Tryz.prog 108 #[.agg #[.int .i64 s.1, .int .i64 s.2]] w fun e w' => e = .returned (.bool (rightB s)) ∧ Keeps [] w w' := by
 obtain ⟨lo, hi⟩ := s
 have HR := gI (show rightB (lo, hi) = (decide (0 ≤ lo) && (decide (lo ≤ hi) && decide (hi ≤ 1114111))) from rfl)
 rw [HR.out]
 by_cases h1 : 0 ≤ lo
 ·by_cases h2 : lo ≤ hi
  ·by_cases h3 : hi ≤ 1114111
   all_goals
    go_enter Tryz.func108, Tryz.ntmps108
    go_wp2
    go_ret
    exact ⟨by simp [h1, h2, h3], Keeps.a1 _ _⟩
  ·have H2 := gI h2
   go_enter Tryz.func108, Tryz.ntmps108
   go_wp2
   go_ret
   exact ⟨by rw [decide_eq_false (Int.not_le.2 H2.out)]; simp, Keeps.a1 _ _⟩
 ·have H1 := gI h1
  go_enter Tryz.func108, Tryz.ntmps108
  go_wp2
  go_ret
  exact ⟨by rw [decide_eq_false (Int.not_le.2 H1.out)]; simp, Keeps.a1 _ _⟩
theorem setE_any (sa : Option Addr) (sc : Nat) (l : List (Int × Int)) (w : World) (hs : SpIn w sa l) (hn : l.length ≤ 1000000000000) :
  Calls Tryz.prog 87 #[.slice sa l.length sc] w fun e w' => e = .returned (.int .i64 (setE l)) ∧ Keeps [] w w' := by
 obtain ⟨R, hR⟩ : ∃ R, R = setE l := ⟨_, rfl⟩
 rw [← hR]
 have HR := gI hR
 have HS := gI hs
 clear hs hR
 go_enter Tryz.func87, Tryz.ntmps87
 go_wp2
 go_loopw [7] (fun i wr => ∃ k : Nat, k ≤ l.length ∧ i = .int .i64 k ∧ setGo none l = setGo (lastHi l k) (l.drop k) ∧ (∀ h, lastHi l k = some h → 0 ≤ h ∧ h ≤ 1114111) ∧ Keeps [] w wr) (fun i _ => l.length - (intOf i).toNat)
 case atStart => exact ⟨0, Nat.zero_le _, rfl, rfl, (fun h hh => by cases hh), Keeps.refl _ _⟩
 case round =>
  obtain ⟨k, hk, rfl, hgo, hpb, hkp⟩ := hrel
  have HK := gI hkp
  by_cases hlt : k < l.length
  ·obtain ⟨b, off, rfl, hx⟩ := (HS.out.keep hkp) (by omega)
   obtain ⟨x0, x1⟩ := hx k hlt
   have hd : l.drop k = l[k] :: l.drop (k + 1) := List.drop_eq_getElem_cons hlt
   rw [hd] at hgo
   have hls := lastHi_succ hlt
   have hprev : ∀ (h : 0 < k), wr.cell? ⟨b, off + (k - 1) * 2 + 1, none⟩ = some (.int .i64 l[k - 1].2) := fun h => (hx (k - 1) (by omega)).2
   have hlast : ∀ (h : 0 < k), lastHi l k = some l[k - 1].2 := fun h => by
    obtain ⟨j, rfl⟩ : ∃ j, k = j + 1 := ⟨k - 1, by omega⟩
    exact lastHi_succ (by omega)
   obtain ⟨s, hs⟩ : ∃ s, s = l[k] := ⟨_, rfl⟩
   rw [← hs] at x0 x1 hgo hls
   have RI := gI (fun W => rightB_any s W)
   obtain ⟨rb, hrb⟩ : ∃ rb, rb = rightB s := ⟨_, rfl⟩
   simp only [← hrb] at RI
   have HGO := gI hgo
   have HLS := gI hls
   have HRB := gI hrb
   clear hx hkp hs hd hgo hls hrb
   obtain ⟨lo, hi⟩ := s
   obtain ⟨C, hC⟩ : ∃ C, C = wr.heap.size := ⟨_, rfl⟩
   have hC0 : ∀ ob, (wr.alloc ob).heap.size = C + 1 := fun ob => by rw [hC]; simp
   go_upto_region 4 with fail
   obtain ⟨Y, hY⟩ : ∃ Y, Y = wr.alloc (.cells #[.int .i64 lo, .int .i64 hi] 51) := ⟨_, rfl⟩
   have hkY : Keeps [] wr Y := by rw [hY]; exact Keeps.a1 _ _
   have hYH : Y.heap[C]? = some (.cells #[.int .i64 lo, .int .i64 hi] 51 (0, 0)) := by rw [hY, hC]; exact heap_alloc_new wr _
   have y0 : Y.cell? ⟨C, 0, none⟩ = some (.int .i64 lo) := by simp [World.cell?, hYH]
   have y1 : Y.cell? ⟨C, 1, none⟩ = some (.int .i64 hi) := by simp [World.cell?, hYH]
   rw [← hY, ← hC]
   have KY := gI hkY
   clear hY hC hC0 hkY hYH x0 x1
   cases rb with
   | false =>
    have HF := gI (show R = 1 by rw [HR.out, setE, HGO.out, setGo, ← HRB.out]; rfl)
    clear hprev hlast hpb
    refine wp_region_held_drew (S := fun w' => w'.cell? ⟨C, 0, none⟩ = some (.int .i64 lo) ∧ w'.cell? ⟨C, 1, none⟩ = some (.int .i64 hi)) (by kernel_rfl) ⟨y0, y1⟩ (fun hHeld => ?_)
    refine take_on (i := 0) (v := ?_) rfl (by kernel_rfl) (by kernel_rfl) (by kernel_rfl) (fun _ _ _ h => h) (by rfl) (by assumption) ?_ ?_
    rotate_left
    ·((intro w hSw; (try dsimp only at hSw); go_simp <;> with_reducible rfl); done)
    try simp only [Act.put, List.setIfInBounds_toArray, List.set_cons_zero, List.set_cons_succ]
    refine branch_one (i := 1) rfl (by kernel_rfl) (by rfl) (fun K hK => ?_)
    go_simp
    go_at_call 108
    refine Calls.mono (RI.out _) ?_
    rintro e w3 ⟨rfl, hk3⟩
    have K3 := gI (((Keeps.refl [] Y).drew).trans hk3)
    clear hk3
    refine hK.out _ _ (⟨K3.out.cell y0 (by simp), K3.out.cell y1 (by simp)⟩) (fun hHeld => ?_)
    clear hK K
    try simp only [Act.put, List.setIfInBounds_toArray, List.set_cons_zero, List.set_cons_succ]
    refine take_on (i := 2) (v := ?_) rfl (by kernel_rfl) (by kernel_rfl) (by kernel_rfl) (fun _ _ _ h => h) (by rfl) (by assumption) ?_ ?_
    rotate_left
    ·((intro w hSw; (try dsimp only at hSw); go_simp <;> with_reducible rfl); done)
    try simp only [Act.put, List.setIfInBounds_toArray, List.set_cons_zero, List.set_cons_succ]
    refine take_on (i := 3) (v := ?_) rfl (by kernel_rfl) (by kernel_rfl) (by kernel_rfl) (fun _ _ _ h => h) (by rfl) (by assumption) ?_ ?_
    rotate_left
    ·((intro w hSw; (try dsimp only at hSw); go_simp <;> with_reducible rfl); done)
    try simp only [Act.put, List.setIfInBounds_toArray, List.set_cons_zero, List.set_cons_succ]
    refine take_off (i := 4) rfl (by kernel_rfl) (by kernel_rfl) (by kernel_rfl) (fun _ _ _ h => h) (by rfl) (by assumption) ?_
    try simp only [Act.put, List.setIfInBounds_toArray, List.set_cons_zero, List.set_cons_succ]
    refine take_off (i := 5) rfl (by kernel_rfl) (by kernel_rfl) (by kernel_rfl) (fun _ _ _ h => h) (by rfl) (by assumption) ?_
    try simp only [Act.put, List.setIfInBounds_toArray, List.set_cons_zero, List.set_cons_succ]
    refine take_off (i := 6) rfl (by kernel_rfl) (by kernel_rfl) (by kernel_rfl) (fun _ _ _ h => h) (by rfl) (by assumption) ?_
    try simp only [Act.put, List.setIfInBounds_toArray, List.set_cons_zero, List.set_cons_succ]
    refine take_off (i := 7) rfl (by kernel_rfl) (by kernel_rfl) (by kernel_rfl) (fun _ _ _ h => h) (by rfl) (by assumption) ?_
    try simp only [Act.put, List.setIfInBounds_toArray, List.set_cons_zero, List.set_cons_succ]
    refine take_off (i := 8) rfl (by kernel_rfl) (by kernel_rfl) (by kernel_rfl) (fun _ _ _ h => h) (by rfl) (by assumption) ?_
    try simp only [Act.put, List.setIfInBounds_toArray, List.set_cons_zero, List.set_cons_succ]
    refine take_off (i := 9) rfl (by kernel_rfl) (by kernel_rfl) (by kernel_rfl) (fun _ _ _ h => h) (by rfl) (by assumption) ?_
    try simp only [Act.put, List.setIfInBounds_toArray, List.set_cons_zero, List.set_cons_succ]
    refine take_off (i := 10) rfl (by kernel_rfl) (by kernel_rfl) (by kernel_rfl) (fun _ _ _ h => h) (by rfl) (by assumption) ?_
    try simp only [Act.put, List.setIfInBounds_toArray, List.set_cons_zero, List.set_cons_succ]
    refine take_off (i := 11) rfl (by kernel_rfl) (by kernel_rfl) (by kernel_rfl) (fun _ _ _ h => h) (by rfl) (by assumption) ?_
    try simp only [Act.put, List.setIfInBounds_toArray, List.set_cons_zero, List.set_cons_succ]
    refine take_off (i := 12) rfl (by kernel_rfl) (by kernel_rfl) (by kernel_rfl) (fun _ _ _ h => h) (by rfl) (by assumption) ?_
    try simp only [Act.put, List.setIfInBounds_toArray, List.set_cons_zero, List.set_cons_succ]
    refine take_off (i := 13) rfl (by kernel_rfl) (by kernel_rfl) (by kernel_rfl) (fun _ _ _ h => h) (by rfl) (by assumption) ?_
    try simp only [Act.put, List.setIfInBounds_toArray, List.set_cons_zero, List.set_cons_succ]
    refine take_off (i := 14) rfl (by kernel_rfl) (by kernel_rfl) (by kernel_rfl) (fun _ _ _ h => h) (by rfl) (by assumption) ?_
    try simp only [Act.put, List.setIfInBounds_toArray, List.set_cons_zero, List.set_cons_succ]
    refine take_off (i := 15) rfl (by kernel_rfl) (by kernel_rfl) (by kernel_rfl) (fun _ _ _ h => h) (by rfl) (by assumption) ?_
    try simp only [Act.put, List.setIfInBounds_toArray, List.set_cons_zero, List.set_cons_succ]
    refine take_off (i := 16) rfl (by kernel_rfl) (by kernel_rfl) (by kernel_rfl) (fun _ _ _ h => h) (by rfl) (by assumption) ?_
    try simp only [Act.put, List.setIfInBounds_toArray, List.set_cons_zero, List.set_cons_succ]
    refine take_off (i := 17) rfl (by kernel_rfl) (by kernel_rfl) (by kernel_rfl) (fun _ _ _ h => h) (by rfl) (by assumption) ?_
    try simp only [Act.put, List.setIfInBounds_toArray, List.set_cons_zero, List.set_cons_succ]
    refine take_on (i := 18) (v := ?_) rfl (by kernel_rfl) (by kernel_rfl) (by kernel_rfl) (fun _ _ _ h => h) (by rfl) (by assumption) ?_ ?_
    rotate_left
    ·((intro w hSw; (try dsimp only at hSw); go_simp <;> with_reducible rfl); done)
    try simp only [Act.put, List.setIfInBounds_toArray, List.set_cons_zero, List.set_cons_succ]
    refine wpAnyH_done (by kernel_rfl) ?_ _
    have KR := gI ((HK.out.trans KY.out).trans K3.out)
    clear y0 y1 hHeld
    go_wp2
    go_ret
    exact ⟨by rw [HF.out]; rfl, KR.out⟩
   | true =>
    have hrr : 0 ≤ hi ∧ hi ≤ 1114111 := by
     have h := HRB.out
     simp [rightB] at h
     omega
    have HG2 := gI (show setGo none l = (behindB (lastHi l k) (lo, hi) && setGo (some hi) (l.drop (k + 1))) by rw [HGO.out, setGo, ← HRB.out]; rfl)
    have HNX := gI (show ∀ h, lastHi l (k + 1) = some h → 0 ≤ h ∧ h ≤ 1114111 from fun h hh => by rw [HLS.out] at hh; cases hh; exact hrr)
    by_cases h0 : k = 0
    ·subst h0
     have HG3 := gI (show setGo none l = setGo (lastHi l 1) (l.drop 1) by rw [HG2.out, HLS.out]; rfl)
     clear hprev hlast hpb hrr
     refine wp_region_held_drew (S := fun w' => w'.cell? ⟨C, 0, none⟩ = some (.int .i64 lo) ∧ w'.cell? ⟨C, 1, none⟩ = some (.int .i64 hi)) (by kernel_rfl) ⟨y0, y1⟩ (fun hHeld => ?_)
     refine take_on (i := 0) (v := ?_) rfl (by kernel_rfl) (by kernel_rfl) (by kernel_rfl) (fun _ _ _ h => h) (by rfl) (by assumption) ?_ ?_
     rotate_left
     ·((intro w hSw; (try dsimp only at hSw); go_simp <;> with_reducible rfl); done)
     try simp only [Act.put, List.setIfInBounds_toArray, List.set_cons_zero, List.set_cons_succ]
     refine branch_one (i := 1) rfl (by kernel_rfl) (by rfl) (fun K hK => ?_)
     go_simp
     go_at_call 108
     refine Calls.mono (RI.out _) ?_
     rintro e w3 ⟨rfl, hk3⟩
     have K3 := gI (((Keeps.refl [] Y).drew).trans hk3)
     clear hk3
     refine hK.out _ _ (⟨K3.out.cell y0 (by simp), K3.out.cell y1 (by simp)⟩) (fun hHeld => ?_)
     clear hK K
     try simp only [Act.put, List.setIfInBounds_toArray, List.set_cons_zero, List.set_cons_succ]
     refine take_on (i := 2) (v := ?_) rfl (by kernel_rfl) (by kernel_rfl) (by kernel_rfl) (fun _ _ _ h => h) (by rfl) (by assumption) ?_ ?_
     rotate_left
     ·((intro w hSw; (try dsimp only at hSw); go_simp <;> with_reducible rfl); done)
     try simp only [Act.put, List.setIfInBounds_toArray, List.set_cons_zero, List.set_cons_succ]
     refine take_on (i := 3) (v := ?_) rfl (by kernel_rfl) (by kernel_rfl) (by kernel_rfl) (fun _ _ _ h => h) (by rfl) (by assumption) ?_ ?_
     rotate_left
     ·((intro w hSw; (try dsimp only at hSw); go_simp <;> with_reducible rfl); done)
     try simp only [Act.put, List.setIfInBounds_toArray, List.set_cons_zero, List.set_cons_succ]
     refine take_on (i := 4) (v := ?_) rfl (by kernel_rfl) (by kernel_rfl) (by kernel_rfl) (fun _ _ _ h => h) (by rfl) (by assumption) ?_ ?_
     rotate_left
     ·((intro w hSw; (try dsimp only at hSw); go_simp <;> with_reducible rfl); done)
     try simp only [Act.put, List.setIfInBounds_toArray, List.set_cons_zero, List.set_cons_succ]
     refine take_on (i := 5) (v := ?_) rfl (by kernel_rfl) (by kernel_rfl) (by kernel_rfl) (fun _ _ _ h => h) (by rfl) (by assumption) ?_ ?_
     rotate_left
     ·((intro w hSw; (try dsimp only at hSw); go_simp <;> with_reducible rfl); done)
     try simp only [Act.put, List.setIfInBounds_toArray, List.set_cons_zero, List.set_cons_succ]
     refine take_on (i := 6) (v := ?_) rfl (by kernel_rfl) (by kernel_rfl) (by kernel_rfl) (fun _ _ _ h => h) (by rfl) (by assumption) ?_ ?_
     rotate_left
     ·((intro w hSw; (try dsimp only at hSw); go_simp <;> with_reducible rfl); done)
     try simp only [Act.put, List.setIfInBounds_toArray, List.set_cons_zero, List.set_cons_succ]
     refine take_off (i := 7) rfl (by kernel_rfl) (by kernel_rfl) (by kernel_rfl) (fun _ _ _ h => h) (by rfl) (by assumption) ?_
     try simp only [Act.put, List.setIfInBounds_toArray, List.set_cons_zero, List.set_cons_succ]
     refine take_off (i := 8) rfl (by kernel_rfl) (by kernel_rfl) (by kernel_rfl) (fun _ _ _ h => h) (by rfl) (by assumption) ?_
     try simp only [Act.put, List.setIfInBounds_toArray, List.set_cons_zero, List.set_cons_succ]
     refine take_off (i := 9) rfl (by kernel_rfl) (by kernel_rfl) (by kernel_rfl) (fun _ _ _ h => h) (by rfl) (by assumption) ?_
     try simp only [Act.put, List.setIfInBounds_toArray, List.set_cons_zero, List.set_cons_succ]
     refine take_off (i := 10) rfl (by kernel_rfl) (by kernel_rfl) (by kernel_rfl) (fun _ _ _ h => h) (by rfl) (by assumption) ?_
     try simp only [Act.put, List.setIfInBounds_toArray, List.set_cons_zero, List.set_cons_succ]
     refine take_off (i := 11) rfl (by kernel_rfl) (by kernel_rfl) (by kernel_rfl) (fun _ _ _ h => h) (by rfl) (by assumption) ?_
     try simp only [Act.put, List.setIfInBounds_toArray, List.set_cons_zero, List.set_cons_succ]
     refine take_off (i := 12) rfl (by kernel_rfl) (by kernel_rfl) (by kernel_rfl) (fun _ _ _ h => h) (by rfl) (by assumption) ?_
     try simp only [Act.put, List.setIfInBounds_toArray, List.set_cons_zero, List.set_cons_succ]
     refine take_off (i := 13) rfl (by kernel_rfl) (by kernel_rfl) (by kernel_rfl) (fun _ _ _ h => h) (by rfl) (by assumption) ?_
     try simp only [Act.put, List.setIfInBounds_toArray, List.set_cons_zero, List.set_cons_succ]
     refine take_off (i := 14) rfl (by kernel_rfl) (by kernel_rfl) (by kernel_rfl) (fun _ _ _ h => h) (by rfl) (by assumption) ?_
     try simp only [Act.put, List.setIfInBounds_toArray, List.set_cons_zero, List.set_cons_succ]
     refine take_off (i := 15) rfl (by kernel_rfl) (by kernel_rfl) (by kernel_rfl) (fun _ _ _ h => h) (by rfl) (by assumption) ?_
     try simp only [Act.put, List.setIfInBounds_toArray, List.set_cons_zero, List.set_cons_succ]
     refine take_off (i := 16) rfl (by kernel_rfl) (by kernel_rfl) (by kernel_rfl) (fun _ _ _ h => h) (by rfl) (by assumption) ?_
     try simp only [Act.put, List.setIfInBounds_toArray, List.set_cons_zero, List.set_cons_succ]
     refine take_on (i := 17) (v := ?_) rfl (by kernel_rfl) (by kernel_rfl) (by kernel_rfl) (fun _ _ _ h => h) (by rfl) (by assumption) ?_ ?_
     rotate_left
     ·((intro w hSw; (try dsimp only at hSw); go_simp <;> with_reducible rfl); done)
     try simp only [Act.put, List.setIfInBounds_toArray, List.set_cons_zero, List.set_cons_succ]
     refine take_on (i := 18) (v := ?_) rfl (by kernel_rfl) (by kernel_rfl) (by kernel_rfl) (fun _ _ _ h => h) (by rfl) (by assumption) ?_ ?_
     rotate_left
     ·((intro w hSw; (try dsimp only at hSw); go_simp <;> with_reducible rfl); done)
     try simp only [Act.put, List.setIfInBounds_toArray, List.set_cons_zero, List.set_cons_succ]
     refine wpAnyH_done (by kernel_rfl) ?_ _
     have KR := gI ((HK.out.trans KY.out).trans K3.out)
     clear y0 y1 hHeld
     go_wp2
     go_roundw
     case rel => exact ⟨1, by omega, rfl, HG3.out, HNX.out, KR.out⟩
     case measure => simp [intOf]; omega
    ·have hk0 : 0 < k := by omega
     have p0 := KY.out.cell (hprev hk0) (by simp)
     have hl := hlast hk0
     obtain ⟨q1, q2⟩ := hpb _ hl
     obtain ⟨z, hz⟩ : ∃ z, z = l[k - 1].2 := ⟨_, rfl⟩
     rw [← hz] at p0 q1 q2 hl
     have HG3 := gI (show setGo none l = (!decide (lo < z + 2) && setGo (lastHi l (k + 1)) (l.drop (k + 1))) by rw [HG2.out, HLS.out, hl]; rfl)
     have hk0i : (0 : Int) < (k : Int) := by omega
     have hk1i : (1 : Int) ≤ (k : Int) := by omega
     have hw1 : IntKind.i64.wrap ((k : Int) - 1) = (k : Int) - 1 := IntWalk.i64_in _ (by omega)
     have hw2 : IntKind.i64.wrap (z + 2) = z + 2 := IntWalk.i64_in _ (by omega)
     have hb1 : (0 : Int) ≤ (k : Int) - 1 := by omega
     have hb2 : (k : Int) - 1 < (l.length : Int) := by omega
     have hb3 : ((k : Int) - 1).toNat = k - 1 := by omega
     clear hprev hpb hz hlast hl hrr
     by_cases hno : lo < z + 2
     ·have HF := gI (show R = 1 by rw [HR.out, setE, HG3.out]; simp [hno])
      refine wp_region_held_drew (S := fun w' => (w'.cell? ⟨C, 0, none⟩ = some (.int .i64 lo) ∧ w'.cell? ⟨C, 1, none⟩ = some (.int .i64 hi)) ∧ w'.cell? ⟨b, off + (k - 1) * 2 + 1, none⟩ = some (.int .i64 z)) (by kernel_rfl) ⟨⟨y0, y1⟩, p0⟩ (fun hHeld => ?_)
      refine take_on (i := 0) (v := ?_) rfl (by kernel_rfl) (by kernel_rfl) (by kernel_rfl) (fun _ _ _ h => h) (by rfl) (by assumption) ?_ ?_
      rotate_left
      ·((intro w hSw; (try dsimp only at hSw); go_simp <;> with_reducible rfl); done)
      try simp only [Act.put, List.setIfInBounds_toArray, List.set_cons_zero, List.set_cons_succ]
      refine branch_one (i := 1) rfl (by kernel_rfl) (by rfl) (fun K hK => ?_)
      go_simp
      go_at_call 108
      refine Calls.mono (RI.out _) ?_
      rintro e w3 ⟨rfl, hk3⟩
      have K3 := gI (((Keeps.refl [] Y).drew).trans hk3)
      clear hk3
      refine hK.out _ _ (⟨⟨K3.out.cell y0 (by simp), K3.out.cell y1 (by simp)⟩, K3.out.cell p0 (by simp)⟩) (fun hHeld => ?_)
      clear hK K
      try simp only [Act.put, List.setIfInBounds_toArray, List.set_cons_zero, List.set_cons_succ]
      refine take_on (i := 2) (v := ?_) rfl (by kernel_rfl) (by kernel_rfl) (by kernel_rfl) (fun _ _ _ h => h) (by rfl) (by assumption) ?_ ?_
      rotate_left
      ·((intro w hSw; (try dsimp only at hSw); go_simp <;> with_reducible rfl); done)
      try simp only [Act.put, List.setIfInBounds_toArray, List.set_cons_zero, List.set_cons_succ]
      refine take_on (i := 3) (v := ?_) rfl (by kernel_rfl) (by kernel_rfl) (by kernel_rfl) (fun _ _ _ h => h) (by rfl) (by assumption) ?_ ?_
      rotate_left
      ·((intro w hSw; (try dsimp only at hSw); go_simp <;> with_reducible rfl); done)
      try simp only [Act.put, List.setIfInBounds_toArray, List.set_cons_zero, List.set_cons_succ]
      refine take_on (i := 4) (v := ?_) rfl (by kernel_rfl) (by kernel_rfl) (by kernel_rfl) (fun _ _ _ h => h) (by rfl) (by assumption) ?_ ?_
      rotate_left
      ·((intro w hSw; (try dsimp only at hSw); go_simp <;> with_reducible rfl); done)
      try simp only [Act.put, List.setIfInBounds_toArray, List.set_cons_zero, List.set_cons_succ]
      refine take_on (i := 5) (v := ?_) rfl (by kernel_rfl) (by kernel_rfl) (by kernel_rfl) (fun _ _ _ h => h) (by rfl) (by assumption) ?_ ?_
      rotate_left
      ·((intro w hSw; (try dsimp only at hSw); go_simp <;> with_reducible rfl); done)
      try simp only [Act.put, List.setIfInBounds_toArray, List.set_cons_zero, List.set_cons_succ]
      refine take_on (i := 6) (v := ?_) rfl (by kernel_rfl) (by kernel_rfl) (by kernel_rfl) (fun _ _ _ h => h) (by rfl) (by assumption) ?_ ?_
      rotate_left
      ·((intro w hSw; (try dsimp only at hSw); go_simp <;> with_reducible rfl); done)
      try simp only [Act.put, List.setIfInBounds_toArray, List.set_cons_zero, List.set_cons_succ]
      refine take_on (i := 7) (v := ?_) rfl (by kernel_rfl) (by kernel_rfl) (by kernel_rfl) (fun _ _ _ h => h) (by rfl) (by assumption) ?_ ?_
      rotate_left
      ·((intro w hSw; (try dsimp only at hSw); go_simp <;> with_reducible rfl); done)
      try simp only [Act.put, List.setIfInBounds_toArray, List.set_cons_zero, List.set_cons_succ]
      refine take_on (i := 8) (v := ?_) rfl (by kernel_rfl) (by kernel_rfl) (by kernel_rfl) (fun _ _ _ h => h) (by rfl) (by assumption) ?_ ?_
      rotate_left
      ·((intro w hSw; (try dsimp only at hSw); go_simp <;> with_reducible rfl); done)
      try simp only [Act.put, List.setIfInBounds_toArray, List.set_cons_zero, List.set_cons_succ]
      refine take_on (i := 9) (v := ?_) rfl (by kernel_rfl) (by kernel_rfl) (by kernel_rfl) (fun _ _ _ h => h) (by rfl) (by assumption) ?_ ?_
      rotate_left
      ·((intro w hSw; (try dsimp only at hSw); go_simp <;> with_reducible rfl); done)
      try simp only [Act.put, List.setIfInBounds_toArray, List.set_cons_zero, List.set_cons_succ]
      refine take_on (i := 10) (v := ?_) rfl (by kernel_rfl) (by kernel_rfl) (by kernel_rfl) (fun _ _ _ h => h) (by rfl) (by assumption) ?_ ?_
      rotate_left
      ·((intro w hSw; (try dsimp only at hSw); go_simp <;> with_reducible rfl); done)
      try simp only [Act.put, List.setIfInBounds_toArray, List.set_cons_zero, List.set_cons_succ]
      refine take_on (i := 11) (v := ?_) rfl (by kernel_rfl) (by kernel_rfl) (by kernel_rfl) (fun _ _ _ h => h) (by rfl) (by assumption) ?_ ?_
      rotate_left
      ·((intro w hSw; (try dsimp only at hSw); go_simp <;> with_reducible rfl); done)
      try simp only [Act.put, List.setIfInBounds_toArray, List.set_cons_zero, List.set_cons_succ]
      refine take_on (i := 12) (v := ?_) rfl (by kernel_rfl) (by kernel_rfl) (by kernel_rfl) (fun _ _ _ h => h) (by rfl) (by assumption) ?_ ?_
      rotate_left
      ·((intro w hSw; (try dsimp only at hSw); go_simp <;> with_reducible rfl); done)
      try simp only [Act.put, List.setIfInBounds_toArray, List.set_cons_zero, List.set_cons_succ]
      refine take_on (i := 13) (v := ?_) rfl (by kernel_rfl) (by kernel_rfl) (by kernel_rfl) (fun _ _ _ h => h) (by rfl) (by assumption) ?_ ?_
      rotate_left
      ·((intro w hSw; (try dsimp only at hSw); go_simp <;> with_reducible rfl); done)
      try simp only [Act.put, List.setIfInBounds_toArray, List.set_cons_zero, List.set_cons_succ]
      refine take_on (i := 14) (v := ?_) rfl (by kernel_rfl) (by kernel_rfl) (by kernel_rfl) (fun _ _ _ h => h) (by rfl) (by assumption) ?_ ?_
      rotate_left
      ·((intro w hSw; (try dsimp only at hSw); go_simp <;> with_reducible rfl); done)
      try simp only [Act.put, List.setIfInBounds_toArray, List.set_cons_zero, List.set_cons_succ]
      refine take_on (i := 15) (v := ?_) rfl (by kernel_rfl) (by kernel_rfl) (by kernel_rfl) (fun _ _ _ h => h) (by rfl) (by assumption) ?_ ?_
      rotate_left
      ·((intro w hSw; (try dsimp only at hSw); go_simp <;> with_reducible rfl); done)
      try simp only [Act.put, List.setIfInBounds_toArray, List.set_cons_zero, List.set_cons_succ]
      refine take_on (i := 16) (v := ?_) rfl (by kernel_rfl) (by kernel_rfl) (by kernel_rfl) (fun _ _ _ h => h) (by rfl) (by assumption) ?_ ?_
      rotate_left
      ·((intro w hSw; (try dsimp only at hSw); go_simp <;> with_reducible rfl); done)
      try simp only [Act.put, List.setIfInBounds_toArray, List.set_cons_zero, List.set_cons_succ]
      refine take_on (i := 17) (v := ?_) rfl (by kernel_rfl) (by kernel_rfl) (by kernel_rfl) (fun _ _ _ h => h) (by rfl) (by assumption) ?_ ?_
      rotate_left
      ·((intro w hSw; (try dsimp only at hSw); go_simp <;> with_reducible rfl); done)
      try simp only [Act.put, List.setIfInBounds_toArray, List.set_cons_zero, List.set_cons_succ]
      refine take_on (i := 18) (v := ?_) rfl (by kernel_rfl) (by kernel_rfl) (by kernel_rfl) (fun _ _ _ h => h) (by rfl) (by assumption) ?_ ?_
      rotate_left
      ·((intro w hSw; (try dsimp only at hSw); go_simp <;> with_reducible rfl); done)
      try simp only [Act.put, List.setIfInBounds_toArray, List.set_cons_zero, List.set_cons_succ]
      refine wpAnyH_done (by kernel_rfl) ?_ _
      have KR := gI ((HK.out.trans KY.out).trans K3.out)
      clear y0 y1 hHeld p0
      go_wp2
      go_ret
      exact ⟨by rw [HF.out]; rfl, KR.out⟩
     ·have HF := gI (show setGo none l = setGo (lastHi l (k + 1)) (l.drop (k + 1)) by rw [HG3.out]; simp [hno])
      refine wp_region_held_drew (S := fun w' => (w'.cell? ⟨C, 0, none⟩ = some (.int .i64 lo) ∧ w'.cell? ⟨C, 1, none⟩ = some (.int .i64 hi)) ∧ w'.cell? ⟨b, off + (k - 1) * 2 + 1, none⟩ = some (.int .i64 z)) (by kernel_rfl) ⟨⟨y0, y1⟩, p0⟩ (fun hHeld => ?_)
      refine take_on (i := 0) (v := ?_) rfl (by kernel_rfl) (by kernel_rfl) (by kernel_rfl) (fun _ _ _ h => h) (by rfl) (by assumption) ?_ ?_
      rotate_left
      ·((intro w hSw; (try dsimp only at hSw); go_simp <;> with_reducible rfl); done)
      try simp only [Act.put, List.setIfInBounds_toArray, List.set_cons_zero, List.set_cons_succ]
      refine branch_one (i := 1) rfl (by kernel_rfl) (by rfl) (fun K hK => ?_)
      go_simp
      go_at_call 108
      refine Calls.mono (RI.out _) ?_
      rintro e w3 ⟨rfl, hk3⟩
      have K3 := gI (((Keeps.refl [] Y).drew).trans hk3)
      clear hk3
      refine hK.out _ _ (⟨⟨K3.out.cell y0 (by simp), K3.out.cell y1 (by simp)⟩, K3.out.cell p0 (by simp)⟩) (fun hHeld => ?_)
      clear hK K
      try simp only [Act.put, List.setIfInBounds_toArray, List.set_cons_zero, List.set_cons_succ]
      refine take_on (i := 2) (v := ?_) rfl (by kernel_rfl) (by kernel_rfl) (by kernel_rfl) (fun _ _ _ h => h) (by rfl) (by assumption) ?_ ?_
      rotate_left
      ·((intro w hSw; (try dsimp only at hSw); go_simp <;> with_reducible rfl); done)
      try simp only [Act.put, List.setIfInBounds_toArray, List.set_cons_zero, List.set_cons_succ]
      refine take_on (i := 3) (v := ?_) rfl (by kernel_rfl) (by kernel_rfl) (by kernel_rfl) (fun _ _ _ h => h) (by rfl) (by assumption) ?_ ?_
      rotate_left
      ·((intro w hSw; (try dsimp only at hSw); go_simp <;> with_reducible rfl); done)
      try simp only [Act.put, List.setIfInBounds_toArray, List.set_cons_zero, List.set_cons_succ]
      refine take_on (i := 4) (v := ?_) rfl (by kernel_rfl) (by kernel_rfl) (by kernel_rfl) (fun _ _ _ h => h) (by rfl) (by assumption) ?_ ?_
      rotate_left
      ·((intro w hSw; (try dsimp only at hSw); go_simp <;> with_reducible rfl); done)
      try simp only [Act.put, List.setIfInBounds_toArray, List.set_cons_zero, List.set_cons_succ]
      refine take_on (i := 5) (v := ?_) rfl (by kernel_rfl) (by kernel_rfl) (by kernel_rfl) (fun _ _ _ h => h) (by rfl) (by assumption) ?_ ?_
      rotate_left
      ·((intro w hSw; (try dsimp only at hSw); go_simp <;> with_reducible rfl); done)
      try simp only [Act.put, List.setIfInBounds_toArray, List.set_cons_zero, List.set_cons_succ]
      refine take_on (i := 6) (v := ?_) rfl (by kernel_rfl) (by kernel_rfl) (by kernel_rfl) (fun _ _ _ h => h) (by rfl) (by assumption) ?_ ?_
      rotate_left
      ·((intro w hSw; (try dsimp only at hSw); go_simp <;> with_reducible rfl); done)
      try simp only [Act.put, List.setIfInBounds_toArray, List.set_cons_zero, List.set_cons_succ]
      refine take_on (i := 7) (v := ?_) rfl (by kernel_rfl) (by kernel_rfl) (by kernel_rfl) (fun _ _ _ h => h) (by rfl) (by assumption) ?_ ?_
      rotate_left
      ·((intro w hSw; (try dsimp only at hSw); go_simp <;> with_reducible rfl); done)
      try simp only [Act.put, List.setIfInBounds_toArray, List.set_cons_zero, List.set_cons_succ]
      refine take_on (i := 8) (v := ?_) rfl (by kernel_rfl) (by kernel_rfl) (by kernel_rfl) (fun _ _ _ h => h) (by rfl) (by assumption) ?_ ?_
      rotate_left
      ·((intro w hSw; (try dsimp only at hSw); go_simp <;> with_reducible rfl); done)
      try simp only [Act.put, List.setIfInBounds_toArray, List.set_cons_zero, List.set_cons_succ]
      refine take_on (i := 9) (v := ?_) rfl (by kernel_rfl) (by kernel_rfl) (by kernel_rfl) (fun _ _ _ h => h) (by rfl) (by assumption) ?_ ?_
      rotate_left
      ·((intro w hSw; (try dsimp only at hSw); go_simp <;> with_reducible rfl); done)
      try simp only [Act.put, List.setIfInBounds_toArray, List.set_cons_zero, List.set_cons_succ]
      refine take_on (i := 10) (v := ?_) rfl (by kernel_rfl) (by kernel_rfl) (by kernel_rfl) (fun _ _ _ h => h) (by rfl) (by assumption) ?_ ?_
      rotate_left
      ·((intro w hSw; (try dsimp only at hSw); go_simp <;> with_reducible rfl); done)
      try simp only [Act.put, List.setIfInBounds_toArray, List.set_cons_zero, List.set_cons_succ]
      refine take_on (i := 11) (v := ?_) rfl (by kernel_rfl) (by kernel_rfl) (by kernel_rfl) (fun _ _ _ h => h) (by rfl) (by assumption) ?_ ?_
      rotate_left
      ·((intro w hSw; (try dsimp only at hSw); go_simp <;> with_reducible rfl); done)
      try simp only [Act.put, List.setIfInBounds_toArray, List.set_cons_zero, List.set_cons_succ]
      refine take_on (i := 12) (v := ?_) rfl (by kernel_rfl) (by kernel_rfl) (by kernel_rfl) (fun _ _ _ h => h) (by rfl) (by assumption) ?_ ?_
      rotate_left
      ·((intro w hSw; (try dsimp only at hSw); go_simp <;> with_reducible rfl); done)
      try simp only [Act.put, List.setIfInBounds_toArray, List.set_cons_zero, List.set_cons_succ]
      refine take_on (i := 13) (v := ?_) rfl (by kernel_rfl) (by kernel_rfl) (by kernel_rfl) (fun _ _ _ h => h) (by rfl) (by assumption) ?_ ?_
      rotate_left
      ·((intro w hSw; (try dsimp only at hSw); go_simp <;> with_reducible rfl); done)
      try simp only [Act.put, List.setIfInBounds_toArray, List.set_cons_zero, List.set_cons_succ]
      refine take_on (i := 14) (v := ?_) rfl (by kernel_rfl) (by kernel_rfl) (by kernel_rfl) (fun _ _ _ h => h) (by rfl) (by assumption) ?_ ?_
      rotate_left
      ·((intro w hSw; (try dsimp only at hSw); go_simp <;> with_reducible rfl); done)
      try simp only [Act.put, List.setIfInBounds_toArray, List.set_cons_zero, List.set_cons_succ]
      refine take_on (i := 15) (v := ?_) rfl (by kernel_rfl) (by kernel_rfl) (by kernel_rfl) (fun _ _ _ h => h) (by rfl) (by assumption) ?_ ?_
      rotate_left
      ·((intro w hSw; (try dsimp only at hSw); go_simp <;> with_reducible rfl); done)
      try simp only [Act.put, List.setIfInBounds_toArray, List.set_cons_zero, List.set_cons_succ]
      refine take_on (i := 16) (v := ?_) rfl (by kernel_rfl) (by kernel_rfl) (by kernel_rfl) (fun _ _ _ h => h) (by rfl) (by assumption) ?_ ?_
      rotate_left
      ·((intro w hSw; (try dsimp only at hSw); go_simp <;> with_reducible rfl); done)
      try simp only [Act.put, List.setIfInBounds_toArray, List.set_cons_zero, List.set_cons_succ]
      refine take_on (i := 17) (v := ?_) rfl (by kernel_rfl) (by kernel_rfl) (by kernel_rfl) (fun _ _ _ h => h) (by rfl) (by assumption) ?_ ?_
      rotate_left
      ·((intro w hSw; (try dsimp only at hSw); go_simp <;> with_reducible rfl); done)
      try simp only [Act.put, List.setIfInBounds_toArray, List.set_cons_zero, List.set_cons_succ]
      refine take_on (i := 18) (v := ?_) rfl (by kernel_rfl) (by kernel_rfl) (by kernel_rfl) (fun _ _ _ h => h) (by rfl) (by assumption) ?_ ?_
      rotate_left
      ·((intro w hSw; (try dsimp only at hSw); go_simp <;> with_reducible rfl); done)
      try simp only [Act.put, List.setIfInBounds_toArray, List.set_cons_zero, List.set_cons_succ]
      refine wpAnyH_done (by kernel_rfl) ?_ _
      have KR := gI ((HK.out.trans KY.out).trans K3.out)
      clear y0 y1 hHeld p0
      go_wp2
      go_roundw
      case rel => exact ⟨k + 1, by omega, by go_num, HF.out, HNX.out, KR.out⟩
      case measure => simp [intOf]; omega
  ·obtain rfl : k = l.length := by omega
   have HT := gI (show setGo none l = true by rw [hgo, List.drop_length]; cases lastHi l l.length <;> rfl)
   clear hkp hgo hpb
   by_cases h64 : l.length ≤ 64
   ·have HF := gI (show R = 0 by rw [HR.out, setE, HT.out]; simp [h64])
    go_wp2
    go_ret
    exact ⟨by rw [HF.out]; rfl, HK.out⟩
   ·have HF := gI (show R = 4 by rw [HR.out, setE, HT.out]; simp [h64])
    have h64i : (64 : Int) < (l.length : Int) := by omega
    go_wp2
    go_ret
    exact ⟨by rw [HF.out]; rfl, HK.out⟩
def hasB (l : List (Int × Int)) (s : Int) : Bool := l.any fun x => decide (x.1 ≤ s) && decide (s ≤ x.2)
theorem has_any (sa : Option Addr) (sc : Nat) (l : List (Int × Int)) (s : Int) (w : World) (hs : SpIn w sa l) (hn : l.length ≤ 1000000000000) :
  Calls Tryz.prog 92 #[.slice sa l.length sc, .int .i64 s] w fun e w' => e = .returned (.bool (hasB l s)) ∧ Keeps [] w w' := by
 obtain ⟨R, hR⟩ : ∃ R, R = hasB l s := ⟨_, rfl⟩
 rw [← hR]
 have HR := gI hR
 have HS := gI hs
 clear hs hR
 go_enter Tryz.func92, Tryz.ntmps92
 go_wp2
 go_loopw [9] (fun i wr => ∃ k : Nat, k ≤ l.length ∧ i = .int .i64 k ∧ hasB l s = hasB (l.drop k) s ∧ Keeps [] w wr) (fun i _ => l.length - (intOf i).toNat)
 case atStart => exact ⟨0, Nat.zero_le _, rfl, rfl, Keeps.refl _ _⟩
 case round =>
  obtain ⟨k, hk, rfl, hgo, hkp⟩ := hrel
  have HK := gI hkp
  by_cases hlt : k < l.length
  ·obtain ⟨b, off, rfl, hx⟩ := (HS.out.keep hkp) (by omega)
   obtain ⟨x0, x1⟩ := hx k hlt
   have hd : l.drop k = l[k] :: l.drop (k + 1) := List.drop_eq_getElem_cons hlt
   rw [hd] at hgo
   obtain ⟨x, hxe⟩ : ∃ x, x = l[k] := ⟨_, rfl⟩
   rw [← hxe] at x0 x1 hgo
   obtain ⟨lo, hi⟩ := x
   have HGO := gI (show hasB l s = ((decide (lo ≤ s) && decide (s ≤ hi)) || hasB (l.drop (k + 1)) s) from hgo)
   clear hx hkp hxe hd hgo
   by_cases h1 : lo ≤ s
   ·by_cases h2 : s ≤ hi
    ·have HF := gI (show R = true by rw [HR.out, HGO.out]; simp [h1, h2])
     go_wp2
     go_ret
     exact ⟨by rw [HF.out]; rfl, HK.out.trans (Keeps.a1 _ _)⟩
    ·have HF := gI (show hasB l s = hasB (l.drop (k + 1)) s by rw [HGO.out]; simp [h2])
     go_wp2
     go_roundw
     case rel => exact ⟨k + 1, by omega, by go_num, HF.out, HK.out.trans (Keeps.a1 _ _)⟩
     case measure => simp [intOf]; omega
   ·have HF := gI (show hasB l s = hasB (l.drop (k + 1)) s by rw [HGO.out]; simp [h1])
    go_wp2
    go_roundw
    case rel => exact ⟨k + 1, by omega, by go_num, HF.out, HK.out.trans (Keeps.a1 _ _)⟩
    case measure => simp [intOf]; omega
  ·obtain rfl : k = l.length := by omega
   have HT := gI (show R = false by rw [HR.out, hgo, List.drop_length]; rfl)
   clear hkp hgo
   go_wp2
   go_ret
   exact ⟨by rw [HT.out]; rfl, HK.out⟩
end Go.Proofs.YtkekenaamnhbhaaGreat
