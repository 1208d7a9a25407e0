/- Part 46 of the proof. No condition: every lemma says its own. -/
import Derived.Test.YtkekenaamnhbhaaGreatZsbs
import Derived.Test.YtkekenaamnhbhaaGreatZsaa
namespace Go.Proofs.YtkekenaamnhbhaaGreat
open Go.RowKit Go.BigFrame
open Go.RowKit
set_option maxRecDepth 100000
set_option maxHeartbeats 16000000
theorem own_any (a : Option Addr) (n c : Nat) (f d : Int) (w : World) : Calls Tryz.prog 8 #[.agg #[.slice a n c, .int .i64 f, .int .i64 d]] w fun e w' => e = .returned (.agg #[.slice a n c, .int .i64 f, .int .i64 d]) ∧ Keeps [] w w' := by
 obtain ⟨Q, hQ⟩ : ∃ Q : Ending → World → Prop, Q = fun e w' => e = .returned (.agg #[.slice a n c, .int .i64 f, .int .i64 d]) ∧ Keeps [] w w' := ⟨_, rfl⟩
 rw [← hQ]
 have HQ := gI hQ
 obtain ⟨B, hB⟩ : ∃ B, B = w.heap.size := ⟨_, rfl⟩
 obtain ⟨Y1, hY1⟩ : ∃ Y, Y = w.alloc (.cells #[.slice a n c, .int .i64 f, .int .i64 d] 26) := ⟨_, rfl⟩
 have k1 : Keeps [] w Y1 := by rw [hY1]; exact Keeps.a1 _ _
 have s1 : Y1.heap.size = B + 1 := by rw [hY1, hB]; simp
 obtain ⟨Y, hY⟩ : ∃ Y, Y = Y1.alloc (.cells #[.slice none 0 0, .int .i64 0, .int .i64 0] 30) := ⟨_, rfl⟩
 have k2 : Keeps [] Y1 Y := by rw [hY]; exact Keeps.a1 _ _
 have hb1 : Y1.heap[B]? = some (.cells #[.slice a n c, .int .i64 f, .int .i64 d] 26 (0, 0)) := by rw [hY1, hB]; exact heap_alloc_new _ _
 have hb2 := k2.heap hb1 (by simp)
 have hb3 : Y.heap[B + 1]? = some (.cells #[.slice none 0 0, .int .i64 0, .int .i64 0] 30 (0, 0)) := by rw [hY, ← s1]; exact heap_alloc_new _ _
 have e0 : Y.cell? ⟨B, 0, none⟩ = some (.slice a n c) := by simp [World.cell?, hb2]
 have e1 : Y.cell? ⟨B, 1, none⟩ = some (.int .i64 f) := by simp [World.cell?, hb2]
 have e2 : Y.cell? ⟨B, 2, none⟩ = some (.int .i64 d) := by simp [World.cell?, hb2]
 have g0 : Y.cell? ⟨B + 1, 0, none⟩ = some (.slice none 0 0) := by simp [World.cell?, hb3]
 have g1 : Y.cell? ⟨B + 1, 1, none⟩ = some (.int .i64 0) := by simp [World.cell?, hb3]
 have g2 : Y.cell? ⟨B + 1, 2, none⟩ = some (.int .i64 0) := by simp [World.cell?, hb3]
 have gf0 : Y.frozen? ⟨B + 1, 0, none⟩ = false := by simp [World.frozen?, hb3]
 have gf1 : Y.frozen? ⟨B + 1, 1, none⟩ = false := by simp [World.frozen?, hb3]
 have gf2 : Y.frozen? ⟨B + 1, 2, none⟩ = false := by simp [World.frozen?, hb3]
 obtain ⟨X1, hX1⟩ : ∃ X1, X1 = Y.setCell ⟨B + 1, 0, none⟩ (.slice a n c) := ⟨_, rfl⟩
 obtain ⟨X2, hX2⟩ : ∃ X2, X2 = X1.setCell ⟨B + 1, 1, none⟩ (.int .i64 f) := ⟨_, rfl⟩
 obtain ⟨X3, hX3⟩ : ∃ X3, X3 = X2.setCell ⟨B + 1, 2, none⟩ (.int .i64 d) := ⟨_, rfl⟩
 have h1 : X1.heap[B + 1]? = some (.cells #[.slice a n c, .int .i64 0, .int .i64 0] 30 (0, 0)) := by
  rw [hX1, heap_setCell_same Y (B + 1) 0 _ _ _ hb3]; simp
 have h2 : X2.heap[B + 1]? = some (.cells #[.slice a n c, .int .i64 f, .int .i64 0] 30 (0, 0)) := by
  rw [hX2, heap_setCell_same X1 (B + 1) 1 _ _ _ h1]; simp
 have h3 : X3.heap[B + 1]? = some (.cells #[.slice a n c, .int .i64 f, .int .i64 d] 30 (0, 0)) := by
  rw [hX3, heap_setCell_same X2 (B + 1) 2 _ _ _ h2]; simp
 have kk : Keeps [B + 1] Y X3 := by
  rw [hX3, hX2, hX1]
  exact (((Keeps.refl [B + 1] Y).setCell (by simp) _).setCell (by simp) _).setCell (by simp) _
 have HV := gI h3
 have HK := gI (show Keeps [] w X3 from (k1.trans k2).after kk (fun b hb => .inr (by simp at hb; omega)))
 have HY1 := gI hY1
 have HY := gI hY
 have HB := gI hB
 have HX1 := gI hX1
 have HX2 := gI hX2
 have HX3 := gI hX3
 clear hQ hB hY1 k1 s1 hY k2 hb1 hb2 hb3 hX1 hX2 hX3 h1 h2 h3 kk
 go_enter Tryz.func8, Tryz.ntmps8
 go_upto_region 1 with fail
 rw [← HY1.out, ← HY.out, ← HB.out]
 go_wp2
 rw [← HX1.out, ← HX2.out, ← HX3.out]
 refine bodyPost_ret (results_cell_row rfl _ _ (B + 1) 30 #[.slice a n c, .int .i64 f, .int .i64 d] (0, 0) _ rfl HV.out Tryz.underlying30 rfl sizeCe) rfl ?_
 rw [HQ.out]
 exact ⟨rfl, HK.out⟩
theorem built_rc (a : Option Addr) (n c : Nat) (f d : Int) : Tryz.prog.built 26 [(0, .slice a n c), (1, .int .i64 f), (2, .int .i64 d)] = some #[.slice a n c, .int .i64 f, .int .i64 d] := by kernel_rfl
def fsS (f d n : Int) (k : Nat) : Int × Int × Int := ([f, wrap64 (1 + aroundF f 1000), 1099511627776, 1099511627777].getD (k % 4) 0, [d, aroundF d 6, 64, 65].getD (k / 4 % 4) 0, [n, aroundF n 100, 65536, 65537, 0].getD (k / 16) 0)
set_option linter.unusedSimpArgs false in
theorem bsteps_walk (la : Option Addr) (lc : Nat) (zs : List Int) (f d n : Int) (w : World) (hin : IntsIn w la zs) (hl : zs.length ≤ 9223372036854775807) (hc : zs.length ≤ lc) (hf : M64 f) (hd : M64 d) (hn : M64 n) :
  Calls Tryz.prog 3 #[.slice la zs.length lc, .int .i64 f, .int .i64 d, .int .i64 n] w fun e w' => e = .returned (.bool true) ∧ Keeps [] w w' := by
 obtain ⟨Q, hQ⟩ : ∃ Q : Ending → World → Prop, Q = fun e w' => e = .returned (.bool true) ∧ Keeps [] w w' := ⟨_, rfl⟩
 rw [← hQ]
 have HQ := gI hQ
 have HA1 := gI (fun W => around_any f 1000 W (by decide) hf)
 have HA2 := gI (fun W => around_any d 6 W (by decide) hd)
 have HA3 := gI (fun W => around_any n 100 W (by decide) hn)
 have HIN := gI (show ∀ W, Keeps [] w W → Calls Tryz.prog 6 #[.slice la zs.length lc, .int .i64 5] W fun e w' => ∃ (a : Option Addr) (l c : Nat), e = .returned (.slice a l c) ∧ Keeps [] W w' from fun W k => (ints2_any la lc 5 zs W (hin.keep k) (by decide) hl hc).mono fun e w' ⟨_, _, he, _, hk, _⟩ => ⟨_, _, _, he, hk⟩)
 have HFS := gI (show ∀ k, fsS f d n k = ([f, wrap64 (1 + aroundF f 1000), 1099511627776, 1099511627777].getD (k % 4) 0, [d, aroundF d 6, 64, 65].getD (k / 4 % 4) 0, [n, aroundF n 100, 65536, 65537, 0].getD (k / 16) 0) from fun k => rfl)
 obtain ⟨f1, hf1⟩ : ∃ v, v = aroundF f 1000 := ⟨_, rfl⟩
 obtain ⟨d1, hd1⟩ : ∃ v, v = aroundF d 6 := ⟨_, rfl⟩
 obtain ⟨n1, hn1⟩ : ∃ v, v = aroundF n 100 := ⟨_, rfl⟩
 simp only [← hf1, ← hd1, ← hn1] at HA1 HA2 HA3 HFS
 obtain ⟨f2, hf2⟩ : ∃ v, v = wrap64 (1 + f1) := ⟨_, rfl⟩
 simp only [← hf2] at HFS
 obtain ⟨F1, hF1⟩ : ∃ v, v = w.heap.size := ⟨_, rfl⟩
 obtain ⟨Y1, hY1⟩ : ∃ Y, Y = w.alloc (.cells #[.int .i64 f, .int .i64 f2, .int .i64 1099511627776, .int .i64 1099511627777] 3) := ⟨_, rfl⟩
 have k1 : Keeps [] w Y1 := by rw [hY1]; exact Keeps.a1 _ _
 have s1 : Y1.heap.size = F1 + 1 := by rw [hY1, hF1]; simp
 have b1 : Y1.heap[F1]? = some (.cells #[.int .i64 f, .int .i64 f2, .int .i64 1099511627776, .int .i64 1099511627777] 3 (0, 0)) := by rw [hY1, hF1]; exact heap_alloc_new _ _
 obtain ⟨Y2, hY2⟩ : ∃ Y, Y = Y1.alloc (.cells #[.int .i64 d, .int .i64 d1, .int .i64 64, .int .i64 65] 3) := ⟨_, rfl⟩
 have k2 : Keeps [] Y1 Y2 := by rw [hY2]; exact Keeps.a1 _ _
 have s2 : Y2.heap.size = F1 + 2 := by rw [hY2]; simp [s1]
 have b2 : Y2.heap[F1 + 1]? = some (.cells #[.int .i64 d, .int .i64 d1, .int .i64 64, .int .i64 65] 3 (0, 0)) := by rw [hY2, ← s1]; exact heap_alloc_new _ _
 obtain ⟨Y, hY⟩ : ∃ Y, Y = Y2.alloc (.cells #[.int .i64 n, .int .i64 n1, .int .i64 65536, .int .i64 65537, .int .i64 0] 3) := ⟨_, rfl⟩
 have k3 : Keeps [] Y2 Y := by rw [hY]; exact Keeps.a1 _ _
 have b3 : Y.heap[F1 + 2]? = some (.cells #[.int .i64 n, .int .i64 n1, .int .i64 65536, .int .i64 65537, .int .i64 0] 3 (0, 0)) := by rw [hY, ← s2]; exact heap_alloc_new _ _
 have HKY := gI (k1.trans (k2.trans k3))
 have HB1 := gI ((k2.trans k3).heap b1 (by simp))
 have HB2 := gI (k3.heap b2 (by simp))
 have HB3 := gI b3
 have HCF := gI (show ∀ W, Keeps [] Y W → ∀ k, k < 80 → W.cell? ⟨F1, k % 4, none⟩ = some (.int .i64 (fsS f d n k).1) ∧ W.cell? ⟨F1 + 1, k / 4 % 4, none⟩ = some (.int .i64 (fsS f d n k).2.1) ∧ W.cell? ⟨F1 + 2, k / 16, none⟩ = some (.int .i64 (fsS f d n k).2.2) from fun W kW k hk => by
  have h1 := kW.heap HB1.out (by simp)
  have h2 := kW.heap HB2.out (by simp)
  have h3 := kW.heap HB3.out (by simp)
  rw [HFS.out]
  refine ⟨?_, ?_, ?_⟩
  ·have hk : k % 4 = 0 ∨ k % 4 = 1 ∨ k % 4 = 2 ∨ k % 4 = 3 := by omega
   rcases hk with e | e | e | e <;> rw [e] <;> simp [World.cell?, h1]
  ·have hk : k / 4 % 4 = 0 ∨ k / 4 % 4 = 1 ∨ k / 4 % 4 = 2 ∨ k / 4 % 4 = 3 := by omega
   rcases hk with e | e | e | e <;> rw [e] <;> simp [World.cell?, h2]
  ·have hk : k / 16 = 0 ∨ k / 16 = 1 ∨ k / 16 = 2 ∨ k / 16 = 3 ∨ k / 16 = 4 := by omega
   rcases hk with e | e | e | e | e <;> rw [e] <;> simp [World.cell?, h3])
 have HY1 := gI hY1
 have HY2 := gI hY2
 have HY := gI hY
 have HF1 := gI hF1
 have HS1 := gI s1
 have HS2 := gI s2
 have HF2 := gI hf2
 obtain ⟨L, hL⟩ : ∃ L, L = zs.length := ⟨_, rfl⟩
 rw [← hL] at HIN ⊢
 clear hQ hin hl hc hf hd hn hf1 hd1 hn1 hf2 hF1 hY1 k1 s1 b1 hY2 k2 s2 b2 hY k3 b3 hL
 go_enter Tryz.func3, Tryz.ntmps3
 go_upto_region 2 with (go_at_call 5; refine (HA1.out _).mono ?_; rintro e w' ⟨rfl, rfl⟩)
 rw [← HF2.out, ← HY1.out, ← HF1.out]
 go_upto_region 3 with (go_at_call 5; refine (HA2.out _).mono ?_; rintro e w' ⟨rfl, rfl⟩)
 rw [HS1.out, ← HY2.out]
 go_upto_region 4 with (go_at_call 5; refine (HA3.out _).mono ?_; rintro e w' ⟨rfl, rfl⟩)
 rw [HS2.out, ← HY.out]
 go_upto_region 5 with fail
 go_loopw [12] (fun i wr => ∃ k : Nat, k ≤ 80 ∧ i = .int .i64 k ∧ Keeps [] Y wr) (fun i _ => 80 - (intOf i).toNat)
 case atStart => exact ⟨0, Nat.zero_le _, rfl, Keeps.refl _ _⟩
 case round =>
  obtain ⟨k, hk, rfl, hkp⟩ := hrel
  have HKP := gI hkp
  clear hkp
  by_cases hk8 : k < 80
  ·have hki : (k : Int) < 80 := by omega
   have hw1 : IntKind.i64.wrap ((k : Int) + 1) = (k : Int) + 1 := IntWalk.i64_in _ (by omega)
   obtain ⟨q1, q2, q3⟩ := HCF.out wr.drew HKP.out.drew k hk8
   have HE1 := gI (show ∀ W, Keeps [] Y W → W.cell? ⟨F1, k % 4, none⟩ = some (.int .i64 (fsS f d n k).1) ∧ W.cell? ⟨F1 + 1, k / 4 % 4, none⟩ = some (.int .i64 (fsS f d n k).2.1) from fun W kW => ⟨(HCF.out W kW k hk8).1, (HCF.out W kW k hk8).2.1⟩)
   have HE3 := gI (show ∀ W, Keeps [] Y W → W.cell? ⟨F1 + 2, k / 16, none⟩ = some (.int .i64 (fsS f d n k).2.2) from fun W kW => (HCF.out W kW k hk8).2.2)
   obtain ⟨s, hs⟩ : ∃ s, s = fsS f d n k := ⟨_, rfl⟩
   rw [← hs] at q1 q2 q3 HE1 HE3
   obtain ⟨x1, x2, x3⟩ := s
   simp only at q1 q2 q3 HE1 HE3
   have l1 : k % 4 < 4 := by omega
   have l2 : k / 4 % 4 < 4 := by omega
   have l3 : k / 16 < 5 := by omega
   obtain ⟨r1, hr1⟩ : ∃ r, r = k % 4 := ⟨_, rfl⟩
   obtain ⟨r2, hr2⟩ : ∃ r, r = k / 4 := ⟨_, rfl⟩
   obtain ⟨r3, hr3⟩ : ∃ r, r = k / 4 % 4 := ⟨_, rfl⟩
   obtain ⟨r4, hr4⟩ : ∃ r, r = k / 16 := ⟨_, rfl⟩
   have e1 : Int.tmod (k : Int) 4 = (r1 : Int) := by rw [Int.tmod_eq_emod_of_nonneg (by omega)]; omega
   have e2 : Int.tdiv (k : Int) 4 = (r2 : Int) := by rw [Int.tdiv_eq_ediv_of_nonneg (by omega)]; omega
   have e3 : Int.tmod (r2 : Int) 4 = (r3 : Int) := by rw [Int.tmod_eq_emod_of_nonneg (by omega)]; omega
   have e4 : Int.tdiv (k : Int) 16 = (r4 : Int) := by rw [Int.tdiv_eq_ediv_of_nonneg (by omega)]; omega
   have e5 : IntKind.i64.wrap (r2 : Int) = (r2 : Int) := IntWalk.i64_in _ (by omega)
   have e6 : IntKind.i64.wrap (r4 : Int) = (r4 : Int) := IntWalk.i64_in _ (by omega)
   rw [← hr1] at q1 l1
   rw [← hr3] at q2 l2
   rw [← hr4] at q3 l3
   simp only [← hr1, ← hr3] at HE1
   simp only [← hr4] at HE3
   have l4 : (r1 : Int) < 4 := by omega
   have l5 : (r3 : Int) < 4 := by omega
   have l6 : (r4 : Int) < 5 := by omega
   clear hr1 hr2 hr3 hr4
   clear hs
   have HC := gI (HIN.out wr.drew (HKY.out.trans HKP.out.drew))
   go_upto_region 7 with fail
   go_cut [13] from 31 to 85 (fun s13 wx => ∃ (C : Nat) (a : Option Addr) (l c : Nat), s13 = .pointer (some ⟨C, 0, none⟩) ∧ wx.heap[C]? = some (.cells #[.slice a l c, .int .i64 x1, .int .i64 x2] 26 (0, 0)) ∧ Keeps [] Y wx)
   case first => as_aux_lemma =>
    refine wp_region_held_drew (S := fun W => W.cell? ⟨F1, r1, none⟩ = some (.int .i64 x1) ∧ W.cell? ⟨F1 + 1, r3, none⟩ = some (.int .i64 x2)) (by kernel_rfl) ⟨q1, q2⟩ (fun hHeld => ?_)
    refine take_on (i := 0) (v := ?_) rfl (by kernel_rfl) (by kernel_rfl) (by kernel_rfl) (fun _ _ _ h => h) (by rfl) (by assumption) ?_ ?_
    rotate_left
    ·((intro w hSw; (try dsimp only at hSw); go_simp <;> with_reducible rfl); done)
    try simp only [Act.put, List.setIfInBounds_toArray, List.set_cons_zero, List.set_cons_succ]
    refine take_on (i := 2) (v := ?_) rfl (by kernel_rfl) (by kernel_rfl) (by kernel_rfl) (fun _ _ _ h => h) (by rfl) (by assumption) ?_ ?_
    rotate_left
    ·((intro w hSw; (try dsimp only at hSw); go_simp <;> with_reducible rfl); done)
    try simp only [Act.put, List.setIfInBounds_toArray, List.set_cons_zero, List.set_cons_succ]
    refine take_on (i := 3) (v := ?_) rfl (by kernel_rfl) (by kernel_rfl) (by kernel_rfl) (fun _ _ _ h => h) (by rfl) (by assumption) ?_ ?_
    rotate_left
    ·((intro w hSw; (try dsimp only at hSw); go_simp <;> with_reducible rfl); done)
    try simp only [Act.put, List.setIfInBounds_toArray, List.set_cons_zero, List.set_cons_succ]
    refine take_on (i := 4) (v := ?_) rfl (by kernel_rfl) (by kernel_rfl) (by kernel_rfl) (fun _ _ _ h => h) (by rfl) (by assumption) ?_ ?_
    rotate_left
    ·((intro w hSw; (try dsimp only at hSw); go_simp <;> with_reducible rfl); done)
    try simp only [Act.put, List.setIfInBounds_toArray, List.set_cons_zero, List.set_cons_succ]
    refine take_on (i := 5) (v := ?_) rfl (by kernel_rfl) (by kernel_rfl) (by kernel_rfl) (fun _ _ _ h => h) (by rfl) (by assumption) ?_ ?_
    rotate_left
    ·((intro w hSw; (try dsimp only at hSw); go_simp <;> with_reducible rfl); done)
    try simp only [Act.put, List.setIfInBounds_toArray, List.set_cons_zero, List.set_cons_succ]
    refine take_on (i := 6) (v := ?_) rfl (by kernel_rfl) (by kernel_rfl) (by kernel_rfl) (fun _ _ _ h => h) (by rfl) (by assumption) ?_ ?_
    rotate_left
    ·((intro w hSw; (try dsimp only at hSw); go_simp <;> with_reducible rfl); done)
    try simp only [Act.put, List.setIfInBounds_toArray, List.set_cons_zero, List.set_cons_succ]
    refine take_on (i := 7) (v := ?_) rfl (by kernel_rfl) (by kernel_rfl) (by kernel_rfl) (fun _ _ _ h => h) (by rfl) (by assumption) ?_ ?_
    rotate_left
    ·((intro w hSw; (try dsimp only at hSw); go_simp <;> with_reducible rfl); done)
    try simp only [Act.put, List.setIfInBounds_toArray, List.set_cons_zero, List.set_cons_succ]
    refine take_on (i := 8) (v := ?_) rfl (by kernel_rfl) (by kernel_rfl) (by kernel_rfl) (fun _ _ _ h => h) (by rfl) (by assumption) ?_ ?_
    rotate_left
    ·((intro w hSw; (try dsimp only at hSw); go_simp <;> with_reducible rfl); done)
    try simp only [Act.put, List.setIfInBounds_toArray, List.set_cons_zero, List.set_cons_succ]
    refine take_on (i := 9) (v := ?_) rfl (by kernel_rfl) (by kernel_rfl) (by kernel_rfl) (fun _ _ _ h => h) (by rfl) (by assumption) ?_ ?_
    rotate_left
    ·((intro w hSw; (try dsimp only at hSw); go_simp <;> with_reducible rfl); done)
    try simp only [Act.put, List.setIfInBounds_toArray, List.set_cons_zero, List.set_cons_succ]
    refine take_on (i := 10) (v := ?_) rfl (by kernel_rfl) (by kernel_rfl) (by kernel_rfl) (fun _ _ _ h => h) (by rfl) (by assumption) ?_ ?_
    rotate_left
    ·((intro w hSw; (try dsimp only at hSw); go_simp <;> with_reducible rfl); done)
    try simp only [Act.put, List.setIfInBounds_toArray, List.set_cons_zero, List.set_cons_succ]
    refine take_on (i := 11) (v := ?_) rfl (by kernel_rfl) (by kernel_rfl) (by kernel_rfl) (fun _ _ _ h => h) (by rfl) (by assumption) ?_ ?_
    rotate_left
    ·((intro w hSw; (try dsimp only at hSw); go_simp <;> with_reducible rfl); done)
    try simp only [Act.put, List.setIfInBounds_toArray, List.set_cons_zero, List.set_cons_succ]
    refine take_on (i := 12) (v := ?_) rfl (by kernel_rfl) (by kernel_rfl) (by kernel_rfl) (fun _ _ _ h => h) (by rfl) (by assumption) ?_ ?_
    rotate_left
    ·((intro w hSw; (try dsimp only at hSw); go_simp <;> with_reducible rfl); done)
    try simp only [Act.put, List.setIfInBounds_toArray, List.set_cons_zero, List.set_cons_succ]
    refine branch_two (i := 1) (j := 14) rfl rfl (by kernel_rfl) (by rfl) (by rfl) (fun K hK => ?_) (fun K hK => ?_)
    ·go_simp
     with_reducible refine Calls.mono HC.out ?_
     rintro e w7 ⟨a, l, c, rfl, hk7⟩
     have hkw := HKP.out.drew.trans hk7
     have p12 := HE1.out w7 hkw
     refine hK.out _ _ (p12) (fun hHeld => ?_)
     clear hK K
     try simp only [Act.put, List.setIfInBounds_toArray, List.set_cons_zero, List.set_cons_succ]
     refine take_on (i := 13) (v := .agg #[.slice a l c, .int .i64 x1, .int .i64 x2]) rfl (by kernel_rfl) (by kernel_rfl) (by kernel_rfl) (fun _ _ _ h => h) (by rfl) (by assumption) ?_ ?_
     ·(intro w hSw; exact exec_build (parts := [(0, .tmp 44), (1, .tmp 49), (2, .tmp 55)]) rfl (built_rc _ _ _ _ _))
     try simp only [Act.put, List.setIfInBounds_toArray, List.set_cons_zero, List.set_cons_succ]
     refine branch_one (i := 14) rfl (by kernel_rfl) (by rfl) (fun K hK => ?_)
     go_simp
     refine hK.out _ _ (HE1.out _ (hkw.trans (Keeps.a1 _ _))) (fun hHeld => ?_)
     clear hK K
     try simp only [Act.put, List.setIfInBounds_toArray, List.set_cons_zero, List.set_cons_succ]
     refine branch_one (i := 15) rfl (by kernel_rfl) (by rfl) (fun K hK => ?_)
     go_simp
     refine hK.out _ _ (HE1.out _ (hkw.trans (Keeps.a1 _ _))) (fun hHeld => ?_)
     clear hK K
     try simp only [Act.put, List.setIfInBounds_toArray, List.set_cons_zero, List.set_cons_succ]
     refine wpAnyH_done (by kernel_rfl) ?_ _
     clear hHeld
     go_wp2
     go_meet
     exact ⟨w7.heap.size, a, l, c, rfl, heap_alloc_new _ _, hkw.trans (Keeps.a1 _ _)⟩
    ·go_simp
     obtain ⟨Z1, hZ1⟩ : ∃ Z, Z = (wr.alloc (.cells #[.slice none 0 0, .int .i64 0, .int .i64 0] 26)).drew := ⟨_, rfl⟩
     obtain ⟨C, hCC⟩ : ∃ C, C = wr.heap.size := ⟨_, rfl⟩
     have hZH : Z1.heap[C]? = some (.cells #[.slice none 0 0, .int .i64 0, .int .i64 0] 26 (0, 0)) := by rw [hZ1, hCC]; exact heap_alloc_new wr _
     have hkZ : Keeps [] Y Z1 := HKP.out.trans (by rw [hZ1]; exact (Keeps.a1 _ _).drew)
     have hYC : Y.heap.size ≤ C := by rw [hCC]; exact HKP.out.size
     rw [← hZ1]
     subst hCC
     refine hK.out _ _ (HE1.out Z1 hkZ) (fun hHeld => ?_)
     clear hK K
     try simp only [Act.put, List.setIfInBounds_toArray, List.set_cons_zero, List.set_cons_succ]
     refine branch_one (i := 1) rfl (by kernel_rfl) (by rfl) (fun K hK => ?_)
     go_simp
     try rw [← hZ1]
     with_reducible refine Calls.mono (HIN.out Z1 (HKY.out.trans hkZ)) ?_
     rintro e w7 ⟨a, l, c, rfl, hk7⟩
     have hkw := hkZ.trans hk7
     have p12 := HE1.out w7 hkw
     have h7 := hk7.heap hZH (by simp)
     refine hK.out _ _ (p12) (fun hHeld => ?_)
     clear hK K
     try simp only [Act.put, List.setIfInBounds_toArray, List.set_cons_zero, List.set_cons_succ]
     refine take_on (i := 13) (v := .agg #[.slice a l c, .int .i64 x1, .int .i64 x2]) rfl (by kernel_rfl) (by kernel_rfl) (by kernel_rfl) (fun _ _ _ h => h) (by rfl) (by assumption) ?_ ?_
     ·(intro w hSw; exact exec_build (parts := [(0, .tmp 44), (1, .tmp 49), (2, .tmp 55)]) rfl (built_rc _ _ _ _ _))
     try simp only [Act.put, List.setIfInBounds_toArray, List.set_cons_zero, List.set_cons_succ]
     have g0 : w7.cell? ⟨wr.heap.size, 0, none⟩ = some (.slice none 0 0) := by simp [World.cell?, h7]
     have g1 : w7.cell? ⟨wr.heap.size, 1, none⟩ = some (.int .i64 0) := by simp [World.cell?, h7]
     have g2 : w7.cell? ⟨wr.heap.size, 2, none⟩ = some (.int .i64 0) := by simp [World.cell?, h7]
     have gf0 : w7.frozen? ⟨wr.heap.size, 0, none⟩ = false := by simp [World.frozen?, h7]
     have gf1 : w7.frozen? ⟨wr.heap.size, 1, none⟩ = false := by simp [World.frozen?, h7]
     have gf2 : w7.frozen? ⟨wr.heap.size, 2, none⟩ = false := by simp [World.frozen?, h7]
     obtain ⟨X1, hX1⟩ : ∃ X1, X1 = w7.setCell ⟨wr.heap.size, 0, none⟩ (.slice a l c) := ⟨_, rfl⟩
     obtain ⟨X2, hX2⟩ : ∃ X2, X2 = X1.setCell ⟨wr.heap.size, 1, none⟩ (.int .i64 x1) := ⟨_, rfl⟩
     obtain ⟨X3, hX3⟩ : ∃ X3, X3 = X2.setCell ⟨wr.heap.size, 2, none⟩ (.int .i64 x2) := ⟨_, rfl⟩
     have h1 : X1.heap[wr.heap.size]? = some (.cells #[.slice a l c, .int .i64 0, .int .i64 0] 26 (0, 0)) := by
      rw [hX1, heap_setCell_same w7 wr.heap.size 0 _ _ _ h7]; simp
     have h2 : X2.heap[wr.heap.size]? = some (.cells #[.slice a l c, .int .i64 x1, .int .i64 0] 26 (0, 0)) := by
      rw [hX2, heap_setCell_same X1 wr.heap.size 1 _ _ _ h1]; simp
     have h3 : X3.heap[wr.heap.size]? = some (.cells #[.slice a l c, .int .i64 x1, .int .i64 x2] 26 (0, 0)) := by
      rw [hX3, heap_setCell_same X2 wr.heap.size 2 _ _ _ h2]; simp
     have kk : Keeps [wr.heap.size] w7 X3 := by
      rw [hX3, hX2, hX1]
      exact (((Keeps.refl [wr.heap.size] w7).setCell (by simp) _).setCell (by simp) _).setCell (by simp) _
     have kX := hkw.after kk (fun b hb => .inr (by simp at hb; omega))
     refine branch_one (i := 15) rfl (by kernel_rfl) (by rfl) (fun K hK => ?_)
     go_simp
     rw [← hX1, ← hX2, ← hX3]
     refine hK.out _ _ (HE1.out X3 kX) (fun hHeld => ?_)
     clear hK K
     try simp only [Act.put, List.setIfInBounds_toArray, List.set_cons_zero, List.set_cons_succ]
     refine wpAnyH_done (by kernel_rfl) ?_ _
     clear hHeld
     go_wp2
     go_meet
     exact ⟨_, a, l, c, rfl, h3, kX⟩
   case rest =>
    obtain ⟨C, a, l, c, rfl, hC, hkC⟩ := hcut
    have HKC := gI hkC
    have HHC := gI hC
    have c0 : wc.drew.cell? ⟨C, 0, none⟩ = some (.slice a l c) := (show wc.cell? ⟨C, 0, none⟩ = some (.slice a l c) by simp [World.cell?, hC])
    have c1 : wc.drew.cell? ⟨C, 1, none⟩ = some (.int .i64 x1) := (show wc.cell? ⟨C, 1, none⟩ = some (.int .i64 x1) by simp [World.cell?, hC])
    have c2 : wc.drew.cell? ⟨C, 2, none⟩ = some (.int .i64 x2) := (show wc.cell? ⟨C, 2, none⟩ = some (.int .i64 x2) by simp [World.cell?, hC])
    have c3 := HE3.out wc.drew hkC.drew
    clear hC hkC q1 q2 q3
    have HOW := gI (own_any a l c x1 x2 wc.drew)
    go_upto_region 8 with fail
    refine wp_region_held_drew (S := fun W => W.cell? ⟨C, 0, none⟩ = some (.slice a l c) ∧ W.cell? ⟨C, 1, none⟩ = some (.int .i64 x1) ∧ W.cell? ⟨C, 2, none⟩ = some (.int .i64 x2) ∧ W.cell? ⟨F1 + 2, r4, none⟩ = some (.int .i64 x3)) (by kernel_rfl) ⟨c0, c1, c2, c3⟩ (fun hHeld => ?_)
    refine take_on (i := 0) (v := ?_) rfl (by kernel_rfl) (by kernel_rfl) (by kernel_rfl) (fun _ _ _ h => h) (by rfl) (by assumption) ?_ ?_
    rotate_left
    ·((intro w hSw; (try dsimp only at hSw); go_simp <;> with_reducible rfl); done)
    try simp only [Act.put, List.setIfInBounds_toArray, List.set_cons_zero, List.set_cons_succ]
    refine take_on (i := 2) (v := ?_) rfl (by kernel_rfl) (by kernel_rfl) (by kernel_rfl) (fun _ _ _ h => h) (by rfl) (by assumption) ?_ ?_
    rotate_left
    ·((intro w hSw; (try dsimp only at hSw); go_simp <;> with_reducible rfl); done)
    try simp only [Act.put, List.setIfInBounds_toArray, List.set_cons_zero, List.set_cons_succ]
    refine take_on (i := 3) (v := ?_) rfl (by kernel_rfl) (by kernel_rfl) (by kernel_rfl) (fun _ _ _ h => h) (by rfl) (by assumption) ?_ ?_
    rotate_left
    ·((intro w hSw; (try dsimp only at hSw); go_simp <;> with_reducible rfl); done)
    try simp only [Act.put, List.setIfInBounds_toArray, List.set_cons_zero, List.set_cons_succ]
    refine take_on (i := 4) (v := ?_) rfl (by kernel_rfl) (by kernel_rfl) (by kernel_rfl) (fun _ _ _ h => h) (by rfl) (by assumption) ?_ ?_
    rotate_left
    ·((intro w hSw; (try dsimp only at hSw); go_simp <;> with_reducible rfl); done)
    try simp only [Act.put, List.setIfInBounds_toArray, List.set_cons_zero, List.set_cons_succ]
    refine take_on (i := 5) (v := ?_) rfl (by kernel_rfl) (by kernel_rfl) (by kernel_rfl) (fun _ _ _ h => h) (by rfl) (by assumption) ?_ ?_
    rotate_left
    ·((intro w hSw; (try dsimp only at hSw); go_simp <;> with_reducible rfl); done)
    try simp only [Act.put, List.setIfInBounds_toArray, List.set_cons_zero, List.set_cons_succ]
    refine take_on (i := 6) (v := ?_) rfl (by kernel_rfl) (by kernel_rfl) (by kernel_rfl) (fun _ _ _ h => h) (by rfl) (by assumption) ?_ ?_
    rotate_left
    ·((intro w hSw; (try dsimp only at hSw); go_simp <;> with_reducible rfl); done)
    try simp only [Act.put, List.setIfInBounds_toArray, List.set_cons_zero, List.set_cons_succ]
    refine branch_one (i := 1) rfl (by kernel_rfl) (by rfl) (fun K hK => ?_)
    go_simp
    with_reducible refine Calls.mono HOW.out ?_
    rintro e w7 ⟨rfl, hk7⟩
    have HK7 := gI (HKC.out.drew.trans hk7)
    have S7 := (⟨hk7.cell c0 (by simp), hk7.cell c1 (by simp), hk7.cell c2 (by simp), hk7.cell c3 (by simp)⟩ : w7.cell? ⟨C, 0, none⟩ = some (.slice a l c) ∧ w7.cell? ⟨C, 1, none⟩ = some (.int .i64 x1) ∧ w7.cell? ⟨C, 2, none⟩ = some (.int .i64 x2) ∧ w7.cell? ⟨F1 + 2, r4, none⟩ = some (.int .i64 x3))
    have HH7 := gI (hk7.heap HHC.out (by simp))
    have HS7 := gI (bsteps_any a l c x1 x2 x3 w7)
    clear hk7
    refine hK.out _ _ (S7) (fun hHeld => ?_)
    clear hK K
    try simp only [Act.put, List.setIfInBounds_toArray, List.set_cons_zero, List.set_cons_succ]
    refine branch_one (i := 7) rfl (by kernel_rfl) (by rfl) (fun K hK => ?_)
    go_simp
    with_reducible refine Calls.mono HS7.out ?_
    rintro e w8 ⟨rfl, hk8⟩
    have HK8 := gI (HK7.out.trans hk8)
    have S8 := (⟨hk8.cell S7.1 (by simp), hk8.cell S7.2.1 (by simp), hk8.cell S7.2.2.1 (by simp), hk8.cell S7.2.2.2 (by simp)⟩ : w8.cell? ⟨C, 0, none⟩ = some (.slice a l c) ∧ w8.cell? ⟨C, 1, none⟩ = some (.int .i64 x1) ∧ w8.cell? ⟨C, 2, none⟩ = some (.int .i64 x2) ∧ w8.cell? ⟨F1 + 2, r4, none⟩ = some (.int .i64 x3))
    clear hk8
    refine hK.out _ _ (S8) (fun hHeld => ?_)
    clear hK K
    try simp only [Act.put, List.setIfInBounds_toArray, List.set_cons_zero, List.set_cons_succ]
    refine take_on (i := 8) (v := ?_) rfl (by kernel_rfl) (by kernel_rfl) (by kernel_rfl) (fun _ _ _ h => h) (by rfl) (by assumption) ?_ ?_
    rotate_left
    ·((intro w hSw; (try dsimp only at hSw); go_simp <;> with_reducible rfl); done)
    try simp only [Act.put, List.setIfInBounds_toArray, List.set_cons_zero, List.set_cons_succ]
    refine take_on (i := 9) (v := ?_) rfl (by kernel_rfl) (by kernel_rfl) (by kernel_rfl) (fun _ _ _ h => h) (by rfl) (by assumption) ?_ ?_
    rotate_left
    ·((intro w hSw; (try dsimp only at hSw); go_simp <;> with_reducible rfl); done)
    try simp only [Act.put, List.setIfInBounds_toArray, List.set_cons_zero, List.set_cons_succ]
    refine take_on (i := 10) (v := ?_) rfl (by kernel_rfl) (by kernel_rfl) (by kernel_rfl) (fun _ _ _ h => h) (by rfl) (by assumption) ?_ ?_
    rotate_left
    ·((intro w hSw; (try dsimp only at hSw); go_simp <;> with_reducible rfl); done)
    try simp only [Act.put, List.setIfInBounds_toArray, List.set_cons_zero, List.set_cons_succ]
    refine take_on (i := 11) (v := ?_) rfl (by kernel_rfl) (by kernel_rfl) (by kernel_rfl) (fun _ _ _ h => h) (by rfl) (by assumption) ?_ ?_
    rotate_left
    ·((intro w hSw; (try dsimp only at hSw); go_simp <;> with_reducible rfl); done)
    try simp only [Act.put, List.setIfInBounds_toArray, List.set_cons_zero, List.set_cons_succ]
    refine take_on (i := 12) (v := ?_) rfl (by kernel_rfl) (by kernel_rfl) (by kernel_rfl) (fun _ _ _ h => h) (by rfl) (by assumption) ?_ ?_
    rotate_left
    ·((intro w hSw; (try dsimp only at hSw); go_simp <;> with_reducible rfl); done)
    try simp only [Act.put, List.setIfInBounds_toArray, List.set_cons_zero, List.set_cons_succ]
    refine wpAnyH_done (by kernel_rfl) ?_ _
    clear hHeld c0 c1 c2 c3 S7
    obtain ⟨R, hR⟩ : ∃ R, R = stepsR x1 x2 x3 := ⟨_, rfl⟩
    rw [← hR]
    have HRS := gI (show Calls Tryz.prog 9 #[.agg #[.slice a l c, .int .i64 x1, .int .i64 x2], .int .i64 x3] w8.drew fun e w' => e = .returned (.tuple #[.int .i64 R.1, .int .i64 R.2]) ∧ Keeps [] w8.drew w' by rw [hR]; exact rsteps_any a l c x1 x2 x3 w8.drew)
    obtain ⟨R1, R2⟩ := R
    simp only at HRS
    clear hR
    obtain ⟨d0, dd1, d2, d3⟩ := (show w8.drew.cell? ⟨C, 0, none⟩ = some (.slice a l c) ∧ w8.drew.cell? ⟨C, 1, none⟩ = some (.int .i64 x1) ∧ w8.drew.cell? ⟨C, 2, none⟩ = some (.int .i64 x2) ∧ w8.drew.cell? ⟨F1 + 2, r4, none⟩ = some (.int .i64 x3) from S8)
    clear S8
    go_upto_region 9 with fail
    refine wp_region_held_drew (S := fun W => W.cell? ⟨C, 0, none⟩ = some (.slice a l c) ∧ W.cell? ⟨C, 1, none⟩ = some (.int .i64 x1) ∧ W.cell? ⟨C, 2, none⟩ = some (.int .i64 x2) ∧ W.cell? ⟨F1 + 2, r4, none⟩ = some (.int .i64 x3)) (by kernel_rfl) ⟨d0, dd1, d2, d3⟩ (fun hHeld => ?_)
    refine take_on (i := 0) (v := ?_) rfl (by kernel_rfl) (by kernel_rfl) (by kernel_rfl) (fun _ _ _ h => h) (by rfl) (by assumption) ?_ ?_
    rotate_left
    ·((intro w hSw; (try dsimp only at hSw); go_simp <;> with_reducible rfl); done)
    try simp only [Act.put, List.setIfInBounds_toArray, List.set_cons_zero, List.set_cons_succ]
    refine take_on (i := 1) (v := ?_) rfl (by kernel_rfl) (by kernel_rfl) (by kernel_rfl) (fun _ _ _ h => h) (by rfl) (by assumption) ?_ ?_
    rotate_left
    ·((intro w hSw; (try dsimp only at hSw); go_simp <;> with_reducible rfl); done)
    try simp only [Act.put, List.setIfInBounds_toArray, List.set_cons_zero, List.set_cons_succ]
    refine take_on (i := 2) (v := ?_) rfl (by kernel_rfl) (by kernel_rfl) (by kernel_rfl) (fun _ _ _ h => h) (by rfl) (by assumption) ?_ ?_
    rotate_left
    ·((intro w hSw; (try dsimp only at hSw); go_simp <;> with_reducible rfl); done)
    try simp only [Act.put, List.setIfInBounds_toArray, List.set_cons_zero, List.set_cons_succ]
    refine take_on (i := 3) (v := ?_) rfl (by kernel_rfl) (by kernel_rfl) (by kernel_rfl) (fun _ _ _ h => h) (by rfl) (by assumption) ?_ ?_
    rotate_left
    ·((intro w hSw; (try dsimp only at hSw); go_simp <;> with_reducible rfl); done)
    try simp only [Act.put, List.setIfInBounds_toArray, List.set_cons_zero, List.set_cons_succ]
    refine take_on (i := 4) (v := ?_) rfl (by kernel_rfl) (by kernel_rfl) (by kernel_rfl) (fun _ _ _ h => h) (by rfl) (by assumption) ?_ ?_
    rotate_left
    ·((intro w hSw; (try dsimp only at hSw); go_simp <;> with_reducible rfl); done)
    try simp only [Act.put, List.setIfInBounds_toArray, List.set_cons_zero, List.set_cons_succ]
    refine take_on (i := 5) (v := ?_) rfl (by kernel_rfl) (by kernel_rfl) (by kernel_rfl) (fun _ _ _ h => h) (by rfl) (by assumption) ?_ ?_
    rotate_left
    ·((intro w hSw; (try dsimp only at hSw); go_simp <;> with_reducible rfl); done)
    try simp only [Act.put, List.setIfInBounds_toArray, List.set_cons_zero, List.set_cons_succ]
    refine branch_one (i := 6) rfl (by kernel_rfl) (by rfl) (fun K hK => ?_)
    go_simp
    with_reducible refine Calls.mono HRS.out ?_
    rintro e w9 ⟨rfl, hk9⟩
    have HK9 := gI (HK8.out.drew.trans hk9)
    have S9 := (⟨hk9.cell d0 (by simp), hk9.cell dd1 (by simp), hk9.cell d2 (by simp), hk9.cell d3 (by simp)⟩ : w9.cell? ⟨C, 0, none⟩ = some (.slice a l c) ∧ w9.cell? ⟨C, 1, none⟩ = some (.int .i64 x1) ∧ w9.cell? ⟨C, 2, none⟩ = some (.int .i64 x2) ∧ w9.cell? ⟨F1 + 2, r4, none⟩ = some (.int .i64 x3))
    clear hk9
    refine hK.out _ _ (S9) (fun hHeld => ?_)
    clear hK K
    try simp only [Act.put, List.setIfInBounds_toArray, List.set_cons_zero, List.set_cons_succ]
    refine take_on (i := 7) (v := ?_) rfl (by kernel_rfl) (by kernel_rfl) (by kernel_rfl) (fun _ _ _ h => h) (by rfl) (by assumption) ?_ ?_
    rotate_left
    ·((intro w hSw; (try dsimp only at hSw); go_simp <;> with_reducible rfl); done)
    try simp only [Act.put, List.setIfInBounds_toArray, List.set_cons_zero, List.set_cons_succ]
    refine take_on (i := 8) (v := ?_) rfl (by kernel_rfl) (by kernel_rfl) (by kernel_rfl) (fun _ _ _ h => h) (by rfl) (by assumption) ?_ ?_
    rotate_left
    ·((intro w hSw; (try dsimp only at hSw); go_simp <;> with_reducible rfl); done)
    try simp only [Act.put, List.setIfInBounds_toArray, List.set_cons_zero, List.set_cons_succ]
    refine take_on (i := 9) (v := ?_) rfl (by kernel_rfl) (by kernel_rfl) (by kernel_rfl) (fun _ _ _ h => h) (by rfl) (by assumption) ?_ ?_
    rotate_left
    ·((intro w hSw; (try dsimp only at hSw); go_simp <;> with_reducible rfl); done)
    try simp only [Act.put, List.setIfInBounds_toArray, List.set_cons_zero, List.set_cons_succ]
    refine take_on (i := 10) (v := ?_) rfl (by kernel_rfl) (by kernel_rfl) (by kernel_rfl) (fun _ _ _ h => h) (by rfl) (by assumption) ?_ ?_
    rotate_left
    ·((intro w hSw; (try dsimp only at hSw); go_simp <;> with_reducible rfl); done)
    try simp only [Act.put, List.setIfInBounds_toArray, List.set_cons_zero, List.set_cons_succ]
    refine take_on (i := 11) (v := ?_) rfl (by kernel_rfl) (by kernel_rfl) (by kernel_rfl) (fun _ _ _ h => h) (by rfl) (by assumption) ?_ ?_
    rotate_left
    ·((intro w hSw; (try dsimp only at hSw); go_simp <;> with_reducible rfl); done)
    try simp only [Act.put, List.setIfInBounds_toArray, List.set_cons_zero, List.set_cons_succ]
    refine wpAnyH_done (by kernel_rfl) ?_ _
    clear hHeld d0 dd1 d2 d3 S9
    have hb1 : (R1 != R1) = false := by simp
    have hb2 : (R2 != R2) = false := by simp
    go_wp2
    go_roundw
    case rel => exact ⟨k + 1, by omega, by go_num, HK9.out⟩
    case measure => simp [intOf]; omega
  ·obtain rfl : k = 80 := by omega
   go_wp2_with (go_at_call 10; refine (blives_any _).mono ?_; rintro e w' ⟨rfl, hk2⟩)
   rw [HQ.out]
   exact ⟨rfl, (HKY.out.trans HKP.out).trans hk2⟩
theorem caps2_of_row {k : IntKind} {w : World} {a : Option Addr} {len cap : Nat} {zs : List Int}
  (h : (a = none ∧ len = 0 ∧ cap = 0 ∧ zs = []) ∨ ∃ x, a = some x ∧ len ≤ cap ∧ cap ≤ maxLen ∧ zs.length = cap ∧ (∀ i, i < zs.length → w.cell? (x.add i) = some (.int k (zs.getD i 0))) ∧ ∀ n ∈ zs, (Lit.int k n).wf = true) :
  len ≤ cap ∧ cap ≤ 9223372036854775807 := by
 rcases h with ⟨rfl, rfl, rfl, rfl⟩ | ⟨x, rfl, hl, hm, _⟩
 ·exact ⟨by omega, by omega⟩
 ·unfold maxLen at hm; exact ⟨hl, by omega⟩
end Go.Proofs.YtkekenaamnhbhaaGreat
