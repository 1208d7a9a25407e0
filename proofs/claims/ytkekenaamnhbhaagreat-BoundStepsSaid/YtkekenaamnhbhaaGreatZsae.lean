/- Part 5 of the proof. No condition: every lemma says its own. -/
import Derived.Test.YtkekenaamnhbhaaGreatZsad
namespace Go.Proofs.YtkekenaamnhbhaaGreat
open Go.RowKit Go.Sort Go.BigFrame
set_option maxRecDepth 100000
set_option maxHeartbeats 16000000
def inB (x n : Int) : Bool := decide (0 ≤ x) && decide (x < n)
theorem within_any (x n : Int) (w : World) : Calls Tryz.prog 96 #[.int .i64 x, .int .i64 n] w fun e w' => e = .returned (.bool (inB x n)) ∧ w = w' := by
 have HR := gI (show inB x n = (decide (0 ≤ x) && decide (x < n)) from rfl)
 rw [HR.out]
 by_cases h1 : 0 ≤ x
 ·go_enter Tryz.func96, Tryz.ntmps96
  go_wp2
  go_ret
  exact ⟨by simp [h1], rfl⟩
 ·have H1 := gI h1
  go_enter Tryz.func96, Tryz.ntmps96
  go_wp2
  go_ret
  exact ⟨by rw [decide_eq_false (Int.not_le.2 H1.out)]; simp, rfl⟩
def orI (a b c : Int) : Int := if a ≠ 0 then a else if b ≠ 0 then b else c
theorem or_any (g : Nat) (x y z : Int) (w : World) (h0 : w.cell? ⟨g, 0, none⟩ = some (.int .i64 x)) (h1 : w.cell? ⟨g, 1, none⟩ = some (.int .i64 y)) (h2 : w.cell? ⟨g, 2, none⟩ = some (.int .i64 z)) :
  Calls Tryz.prog 111 #[.slice (some ⟨g, 0, none⟩) 3 3] w fun e w' => e = .returned (.int .i64 (orI x y z)) ∧ w = w' := by
 obtain ⟨R, hR⟩ : ∃ R, R = orI x y z := ⟨_, rfl⟩
 rw [← hR]
 unfold orI at hR
 by_cases hx : x = 0
 ·subst hx
  by_cases hy : y = 0
  ·subst hy
   by_cases hz : z = 0
   ·subst hz
    have HR := gI (show R = 0 by rw [hR]; simp)
    clear hR
    go_enter Tryz.func111, Tryz.ntmps111
    go_wp2
    refine wp_loop_rounds 4 ?_
    rw [rounds_succ]
    go_wp2
    rw [rounds_succ]
    go_wp2
    rw [rounds_succ]
    go_wp2
    rw [rounds_succ]
    go_wp2
    go_ret
    exact ⟨by rw [HR.out]; rfl, rfl⟩
   ·have HR := gI (show R = z by rw [hR]; simp)
    have hb : (z != 0) = true := by simp [hz]
    clear hR
    go_enter Tryz.func111, Tryz.ntmps111
    go_wp2
    refine wp_loop_rounds 3 ?_
    rw [rounds_succ]
    go_wp2
    rw [rounds_succ]
    go_wp2
    rw [rounds_succ]
    go_wp2
    go_ret
    exact ⟨by rw [HR.out]; rfl, rfl⟩
  ·have HR := gI (show R = y by rw [hR]; simp [hy])
   have hb : (y != 0) = true := by simp [hy]
   clear hR
   go_enter Tryz.func111, Tryz.ntmps111
   go_wp2
   refine wp_loop_rounds 3 ?_
   rw [rounds_succ]
   go_wp2
   rw [rounds_succ]
   go_wp2
   go_ret
   exact ⟨by rw [HR.out]; rfl, rfl⟩
 ·have HR := gI (show R = x by rw [hR]; simp [hx])
  have hb : (x != 0) = true := by simp [hx]
  clear hR
  go_enter Tryz.func111, Tryz.ntmps111
  go_wp2
  refine wp_loop_rounds 3 ?_
  rw [rounds_succ]
  go_wp2
  go_ret
  exact ⟨by rw [HR.out]; rfl, rfl⟩
def cmpE (a b : E4) : Int := orI (cmpI a.fr b.fr) (cmpI a.tt b.tt) (cmpI a.cl b.cl)
def E4.val (e : E4) : Value := .agg #[.int .i64 e.fr, .int .i64 e.tt, .int .i64 e.cl, .int .i64 e.ws]
theorem cmpE_any (a b : E4) (w : World) : Calls Tryz.prog 97 #[a.val, b.val] w fun e w' => e = .returned (.int .i64 (cmpE a b)) ∧ Keeps [] w w' := by
 have HR := gI (show cmpE a b = orI (cmpI a.fr b.fr) (cmpI a.tt b.tt) (cmpI a.cl b.cl) from rfl)
 obtain ⟨R, hR⟩ : ∃ R, R = cmpE a b := ⟨_, rfl⟩
 rw [← hR] at HR ⊢
 clear hR
 obtain ⟨f1, t1, c1, w1⟩ := a
 obtain ⟨f2, t2, c2, w2⟩ := b
 simp only [E4.val]
 have C1 := gI (fun W => compare_any f1 f2 W)
 have C2 := gI (fun W => compare_any t1 t2 W)
 have C3 := gI (fun W => compare_any c1 c2 W)
 simp only at HR
 generalize cmpI f1 f2 = x at *
 generalize cmpI t1 t2 = y at *
 generalize cmpI c1 c2 = z at *
 obtain ⟨Y, hY⟩ : ∃ Y, Y = (w.alloc (.cells #[.int .i64 f1, .int .i64 t1, .int .i64 c1, .int .i64 w1] 125)).alloc (.cells #[.int .i64 f2, .int .i64 t2, .int .i64 c2, .int .i64 w2] 125) := ⟨_, rfl⟩
 have hkY : Keeps [] w Y := by rw [hY]; exact ((Keeps.refl [] w).alloc _).alloc _
 obtain ⟨B, hB⟩ : ∃ B, B = w.heap.size := ⟨_, rfl⟩
 have d0 : Y.heap[B]? = some (.cells #[.int .i64 f1, .int .i64 t1, .int .i64 c1, .int .i64 w1] 125 (0, 0)) := by rw [hY, hB]; exact (Keeps.a1 _ _).heap (heap_alloc_new w _) (by simp)
 have d1 : Y.heap[B + 1]? = some (.cells #[.int .i64 f2, .int .i64 t2, .int .i64 c2, .int .i64 w2] 125 (0, 0)) := by rw [hY, hB]; exact heap_alloc2_new w _ _
 have a0 : Y.cell? ⟨B, 0, none⟩ = some (.int .i64 f1) := by simp [World.cell?, d0]
 have a1 : Y.cell? ⟨B, 1, none⟩ = some (.int .i64 t1) := by simp [World.cell?, d0]
 have a2 : Y.cell? ⟨B, 2, none⟩ = some (.int .i64 c1) := by simp [World.cell?, d0]
 have b0 : Y.cell? ⟨B + 1, 0, none⟩ = some (.int .i64 f2) := by simp [World.cell?, d1]
 have b1 : Y.cell? ⟨B + 1, 1, none⟩ = some (.int .i64 t2) := by simp [World.cell?, d1]
 have b2 : Y.cell? ⟨B + 1, 2, none⟩ = some (.int .i64 c2) := by simp [World.cell?, d1]
 have HY := gI hY
 have HB := gI hB
 have HK := gI hkY
 clear hY hB hkY d0 d1
 go_enter Tryz.func97, Tryz.ntmps97
 go_upto_region 1 with fail
 rw [← HY.out, ← HB.out]
 refine wp_region_held_drew (S := fun w' => (w'.cell? ⟨B, 0, none⟩ = some (.int .i64 f1) ∧ w'.cell? ⟨B, 1, none⟩ = some (.int .i64 t1) ∧ w'.cell? ⟨B, 2, none⟩ = some (.int .i64 c1)) ∧ (w'.cell? ⟨B + 1, 0, none⟩ = some (.int .i64 f2) ∧ w'.cell? ⟨B + 1, 1, none⟩ = some (.int .i64 t2) ∧ w'.cell? ⟨B + 1, 2, none⟩ = some (.int .i64 c2))) (by kernel_rfl) ⟨⟨a0, a1, a2⟩, b0, b1, b2⟩ (fun hHeld => ?_)
 refine take_on (i := 0) (v := ?_) rfl (by kernel_rfl) (by kernel_rfl) (by kernel_rfl) (fun _ _ _ h => h) (by rfl) (by assumption) ?_ ?_
 rotate_left
 ·((intro w hSw; (try dsimp only at hSw); go_simp <;> with_reducible rfl); done)
 try simp only [Act.put, List.setIfInBounds_toArray, List.set_cons_zero, List.set_cons_succ]
 refine take_on (i := 1) (v := ?_) rfl (by kernel_rfl) (by kernel_rfl) (by kernel_rfl) (fun _ _ _ h => h) (by rfl) (by assumption) ?_ ?_
 rotate_left
 ·((intro w hSw; (try dsimp only at hSw); go_simp <;> with_reducible rfl); done)
 try simp only [Act.put, List.setIfInBounds_toArray, List.set_cons_zero, List.set_cons_succ]
 refine take_on (i := 2) (v := ?_) rfl (by kernel_rfl) (by kernel_rfl) (by kernel_rfl) (fun _ _ _ h => h) (by rfl) (by assumption) ?_ ?_
 rotate_left
 ·((intro w hSw; (try dsimp only at hSw); go_simp <;> with_reducible rfl); done)
 try simp only [Act.put, List.setIfInBounds_toArray, List.set_cons_zero, List.set_cons_succ]
 refine take_on (i := 3) (v := ?_) rfl (by kernel_rfl) (by kernel_rfl) (by kernel_rfl) (fun _ _ _ h => h) (by rfl) (by assumption) ?_ ?_
 rotate_left
 ·((intro w hSw; (try dsimp only at hSw); go_simp <;> with_reducible rfl); done)
 try simp only [Act.put, List.setIfInBounds_toArray, List.set_cons_zero, List.set_cons_succ]
 refine take_on (i := 5) (v := ?_) rfl (by kernel_rfl) (by kernel_rfl) (by kernel_rfl) (fun _ _ _ h => h) (by rfl) (by assumption) ?_ ?_
 rotate_left
 ·((intro w hSw; (try dsimp only at hSw); go_simp <;> with_reducible rfl); done)
 try simp only [Act.put, List.setIfInBounds_toArray, List.set_cons_zero, List.set_cons_succ]
 refine take_on (i := 6) (v := ?_) rfl (by kernel_rfl) (by kernel_rfl) (by kernel_rfl) (fun _ _ _ h => h) (by rfl) (by assumption) ?_ ?_
 rotate_left
 ·((intro w hSw; (try dsimp only at hSw); go_simp <;> with_reducible rfl); done)
 try simp only [Act.put, List.setIfInBounds_toArray, List.set_cons_zero, List.set_cons_succ]
 refine take_on (i := 7) (v := ?_) rfl (by kernel_rfl) (by kernel_rfl) (by kernel_rfl) (fun _ _ _ h => h) (by rfl) (by assumption) ?_ ?_
 rotate_left
 ·((intro w hSw; (try dsimp only at hSw); go_simp <;> with_reducible rfl); done)
 try simp only [Act.put, List.setIfInBounds_toArray, List.set_cons_zero, List.set_cons_succ]
 refine take_on (i := 8) (v := ?_) rfl (by kernel_rfl) (by kernel_rfl) (by kernel_rfl) (fun _ _ _ h => h) (by rfl) (by assumption) ?_ ?_
 rotate_left
 ·((intro w hSw; (try dsimp only at hSw); go_simp <;> with_reducible rfl); done)
 try simp only [Act.put, List.setIfInBounds_toArray, List.set_cons_zero, List.set_cons_succ]
 refine take_on (i := 10) (v := ?_) rfl (by kernel_rfl) (by kernel_rfl) (by kernel_rfl) (fun _ _ _ h => h) (by rfl) (by assumption) ?_ ?_
 rotate_left
 ·((intro w hSw; (try dsimp only at hSw); go_simp <;> with_reducible rfl); done)
 try simp only [Act.put, List.setIfInBounds_toArray, List.set_cons_zero, List.set_cons_succ]
 refine take_on (i := 11) (v := ?_) rfl (by kernel_rfl) (by kernel_rfl) (by kernel_rfl) (fun _ _ _ h => h) (by rfl) (by assumption) ?_ ?_
 rotate_left
 ·((intro w hSw; (try dsimp only at hSw); go_simp <;> with_reducible rfl); done)
 try simp only [Act.put, List.setIfInBounds_toArray, List.set_cons_zero, List.set_cons_succ]
 refine take_on (i := 12) (v := ?_) rfl (by kernel_rfl) (by kernel_rfl) (by kernel_rfl) (fun _ _ _ h => h) (by rfl) (by assumption) ?_ ?_
 rotate_left
 ·((intro w hSw; (try dsimp only at hSw); go_simp <;> with_reducible rfl); done)
 try simp only [Act.put, List.setIfInBounds_toArray, List.set_cons_zero, List.set_cons_succ]
 refine take_on (i := 13) (v := ?_) rfl (by kernel_rfl) (by kernel_rfl) (by kernel_rfl) (fun _ _ _ h => h) (by rfl) (by assumption) ?_ ?_
 rotate_left
 ·((intro w hSw; (try dsimp only at hSw); go_simp <;> with_reducible rfl); done)
 try simp only [Act.put, List.setIfInBounds_toArray, List.set_cons_zero, List.set_cons_succ]
 refine branch_one (i := 4) rfl (by kernel_rfl) (by rfl) (fun K hK => ?_)
 go_simp
 go_at_call 112
 refine (C1.out _).mono ?_
 rintro e w3 ⟨rfl, rfl⟩
 refine hK.out _ _ (⟨⟨a0, a1, a2⟩, b0, b1, b2⟩) (fun hHeld => ?_)
 clear hK K
 try simp only [Act.put, List.setIfInBounds_toArray, List.set_cons_zero, List.set_cons_succ]
 refine branch_one (i := 9) rfl (by kernel_rfl) (by rfl) (fun K hK => ?_)
 go_simp
 go_at_call 112
 refine (C2.out _).mono ?_
 rintro e w3 ⟨rfl, rfl⟩
 refine hK.out _ _ (⟨⟨a0, a1, a2⟩, b0, b1, b2⟩) (fun hHeld => ?_)
 clear hK K
 try simp only [Act.put, List.setIfInBounds_toArray, List.set_cons_zero, List.set_cons_succ]
 refine branch_one (i := 14) rfl (by kernel_rfl) (by rfl) (fun K hK => ?_)
 go_simp
 go_at_call 112
 refine (C3.out _).mono ?_
 rintro e w3 ⟨rfl, rfl⟩
 refine hK.out _ _ (⟨⟨a0, a1, a2⟩, b0, b1, b2⟩) (fun hHeld => ?_)
 clear hK K
 try simp only [Act.put, List.setIfInBounds_toArray, List.set_cons_zero, List.set_cons_succ]
 refine branch_one (i := 15) rfl (by kernel_rfl) (by rfl) (fun K hK => ?_)
 go_simp
 have hk1 : Keeps [] Y (Y.alloc (.cells #[.int .i64 x, .int .i64 y, .int .i64 z] 3)).drew := ((Keeps.refl [] Y).alloc _).drew
 have hn : (Y.alloc (.cells #[.int .i64 x, .int .i64 y, .int .i64 z] 3)).drew.heap[Y.heap.size]? = some (.cells #[.int .i64 x, .int .i64 y, .int .i64 z] 3 (0, 0)) := heap_alloc_new Y _
 refine hK.out _ _ (⟨⟨hk1.cell a0 (by simp), hk1.cell a1 (by simp), hk1.cell a2 (by simp)⟩, hk1.cell b0 (by simp), hk1.cell b1 (by simp), hk1.cell b2 (by simp)⟩) (fun hHeld => ?_)
 clear hK K
 try simp only [Act.put, List.setIfInBounds_toArray, List.set_cons_zero, List.set_cons_succ]
 refine branch_one (i := 16) rfl (by kernel_rfl) (by rfl) (fun K hK => ?_)
 go_simp
 go_at_call 111
 refine (or_any Y.heap.size x y z _ (by rw [cell_of_row _ _ _ _ _ _ hn]; rfl) (by rw [cell_of_row _ _ _ _ _ _ hn]; rfl) (by rw [cell_of_row _ _ _ _ _ _ hn]; rfl)).mono ?_
 rintro e w3 ⟨rfl, rfl⟩
 refine hK.out _ _ (⟨⟨hk1.cell a0 (by simp), hk1.cell a1 (by simp), hk1.cell a2 (by simp)⟩, hk1.cell b0 (by simp), hk1.cell b1 (by simp), hk1.cell b2 (by simp)⟩) (fun hHeld => ?_)
 clear hK K
 try simp only [Act.put, List.setIfInBounds_toArray, List.set_cons_zero, List.set_cons_succ]
 refine take_on (i := 17) (v := ?_) rfl (by kernel_rfl) (by kernel_rfl) (by kernel_rfl) (fun _ _ _ h => h) (by rfl) (by assumption) ?_ ?_
 rotate_left
 ·((intro w hSw; (try dsimp only at hSw); go_simp <;> with_reducible rfl); done)
 try simp only [Act.put, List.setIfInBounds_toArray, List.set_cons_zero, List.set_cons_succ]
 refine wpAnyH_done (by kernel_rfl) ?_ _
 go_wp2
 go_ret
 exact ⟨by rw [HR.out]; rfl, HK.out.trans hk1⟩
theorem u64_nat (n : Nat) (h : n < 2 ^ 64) : IntKind.u64.wrap (n : Int) = n := by rw [IntKind.wrap_u64]; omega
theorem or_u64 (a b : Nat) (ha : a < 2 ^ 64) (hb : b < 2 ^ 64) : bits .or .u64 (a : Int) (b : Int) = ((a ||| b : Nat) : Int) :=
 (bits_nat .u64 64 (by decide) (fun n h0 h1 => by rw [IntKind.wrap_u64]; omega) a b ha hb).2
theorem and_u64 (a b : Nat) (ha : a < 2 ^ 64) (hb : b < 2 ^ 64) : bits .and .u64 (a : Int) (b : Int) = ((a &&& b : Nat) : Int) :=
 (bits_nat .u64 64 (by decide) (fun n h0 h1 => by rw [IntKind.wrap_u64]; omega) a b ha hb).1
theorem two_pow_lt {n : Nat} (hn : n < 64) : 2 ^ n < 2 ^ 64 := Nat.pow_lt_pow_right (by decide) hn
theorem testBit_div (s n : Nat) : (((s : Int) / 2 ^ n % 2 != 0)) = s.testBit n := by
 have e : (s : Int) / 2 ^ n % 2 = ((s / 2 ^ n % 2 : Nat) : Int) := by norm_cast
 rw [e, Nat.testBit_eq_decide_div_mod_eq]
 have h : s / 2 ^ n % 2 = 0 ∨ s / 2 ^ n % 2 = 1 := by omega
 rcases h with h | h <;> rw [h] <;> rfl
theorem one_any (n : Nat) (w : World) (hn : n < 64) : Calls Tryz.prog 98 #[.int .i64 n] w fun e w' => e = .returned (.int .u64 ((2 ^ n : Nat) : Int)) ∧ w = w' := by
 have h1 : IntKind.u64.wrap ((2 : Int) ^ n) = ((2 ^ n : Nat) : Int) := by
  have := u64_nat (2 ^ n) (two_pow_lt hn)
  rw [← this]; norm_cast
 have h3 : ((2 ^ n : Nat) : Int) = (2 : Int) ^ n := by norm_cast
 go_enter Tryz.func98, Tryz.ntmps98
 go_wp2
 go_ret
 exact ⟨by rw [h3]; rfl, rfl⟩
theorem hasN_any (s n : Nat) (w : World) (hn : n < 64) (hs : s < 2 ^ 64) : Calls Tryz.prog 99 #[.int .u64 s, .int .i64 n] w fun e w' => e = .returned (.bool (s.testBit n)) ∧ w = w' := by
 have h1 : bits BinOp.and IntKind.u64 ((s : Int) / 2 ^ n) 1 = (s : Int) / 2 ^ n % 2 := by
  have e : (s : Int) / 2 ^ n = ((s / 2 ^ n : Nat) : Int) := by norm_cast
  have h : s / 2 ^ n ≤ s := Nat.div_le_self _ _
  rw [e]
  generalize s / 2 ^ n = q at *
  exact and_one_u64 _ (by omega) (by omega)
 have h2 := testBit_div s n
 go_enter Tryz.func99, Tryz.ntmps99
 go_wp2
 go_ret
 exact ⟨rfl, rfl⟩
end Go.Proofs.YtkekenaamnhbhaaGreat
