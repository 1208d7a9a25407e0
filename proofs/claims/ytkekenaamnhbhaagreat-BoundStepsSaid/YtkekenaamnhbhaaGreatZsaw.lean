/- Part 23 of the proof. No condition: every lemma says its own. -/
import Derived.Deep.DeepCutAuto
import Derived.Test.YtkekenaamnhbhaaGreatZsai
import Derived.Test.YtkekenaamnhbhaaGreatZsaj
import Derived.Test.YtkekenaamnhbhaaGreatZsaa
import Derived.Test.YtkekenaamnhbhaaGreatZsan
namespace Go.Proofs.YtkekenaamnhbhaaGreat
open Go.RowKit Go.BigFrame
set_option maxRecDepth 100000
set_option maxHeartbeats 16000000
def rnkB (of : List Int) (i : Nat) (e : E4) : Bool := decide (0 ≤ of.getD e.fr.toNat 0) && (decide (of.getD e.fr.toNat 0 ≠ i) && decide (of.getD e.tt.toNat 0 = i))
def rnkE (of : List Int) (ps : List Pt) (i : Nat) (rk : List Int) (e : E4) : List Int :=
 if rnkB of i e then rk.set i (max (rk.getD i 0) (rk.getD (of.getD e.fr.toNat 0).toNat 0 + riseP ps (of.getD e.fr.toNat 0).toNat i)) else rk
def rnkI (of : List Int) (ps : List Pt) (es : List E4) (i : Nat) (rk : List Int) : Nat → List Int
 | 0 => rk
 | j + 1 => rnkE of ps i (rnkI of ps es i rk j) (es.getD j e40)
def rnkK (of : List Int) (ps : List Pt) (es : List E4) : Nat → List Int
 | 0 => List.replicate ps.length 0
 | k + 1 => rnkI of ps es k (rnkK of ps es k) es.length
theorem rnkE_length (of : List Int) (ps : List Pt) (i : Nat) (rk : List Int) (e : E4) : (rnkE of ps i rk e).length = rk.length := by
 unfold rnkE
 split <;> simp
theorem rnkI_length (of : List Int) (ps : List Pt) (es : List E4) (i : Nat) (rk : List Int) : ∀ j, (rnkI of ps es i rk j).length = rk.length
 | 0 => rfl
 | j + 1 => by rw [rnkI, rnkE_length, rnkI_length of ps es i rk j]
theorem rnkK_length (of : List Int) (ps : List Pt) (es : List E4) : ∀ k, (rnkK of ps es k).length = ps.length
 | 0 => by simp [rnkK]
 | k + 1 => by rw [rnkK, rnkI_length, rnkK_length of ps es k]
def RB (rk : List Int) (B : Nat) : Prop := ∀ q, 0 ≤ rk.getD q 0 ∧ rk.getD q 0 ≤ B
theorem rise_bd (ps : List Pt) (f t : Nat) : 0 ≤ riseP ps f t ∧ riseP ps f t ≤ 1 := by
 unfold riseP
 split <;> omega
theorem rnkE_bd {of : List Int} {ps : List Pt} {i : Nat} {rk : List Int} {e : E4} {B : Nat} (h : RB rk B) : RB (rnkE of ps i rk e) (B + 1) := by
 intro q
 have hq := h q
 unfold rnkE
 split
 ·have h1 := h i
  have h2 := h (of.getD e.fr.toNat 0).toNat
  have h3 := rise_bd ps (of.getD e.fr.toNat 0).toNat i
  simp only [List.getD_eq_getElem?_getD, List.getElem?_set] at *
  split
  ·split
   ·simp only [Option.getD_some]; omega
   ·simp; omega
  ·omega
 ·omega
theorem rnkI_bd {of : List Int} {ps : List Pt} {es : List E4} {i : Nat} {rk : List Int} {B : Nat} (h : RB rk B) : ∀ j, RB (rnkI of ps es i rk j) (B + j)
 | 0 => h
 | j + 1 => by
  rw [rnkI, ← Nat.add_assoc]
  exact rnkE_bd (rnkI_bd h j)
theorem rnkK_bd {of : List Int} {ps : List Pt} {es : List E4} : ∀ k, RB (rnkK of ps es k) (k * es.length)
 | 0 => fun q => by
  have : (List.replicate ps.length (0 : Int)).getD q 0 = 0 := by
   simp only [List.getD_eq_getElem?_getD, List.getElem?_replicate]
   split <;> rfl
  simp only [rnkK, this]
  omega
 | k + 1 => by
  rw [rnkK, Nat.succ_mul]
  exact rnkI_bd (rnkK_bd k) _
def powM (f n : Int) : Nat → Int
 | 0 => f
 | k + 1 => min (powM f n k * (n + 1)) 1099511627777
theorem powM_bd {f n : Int} (h0 : 0 ≤ f) (h1 : f ≤ 1099511627777) (hn : 0 ≤ n) : ∀ k, 0 ≤ powM f n k ∧ powM f n k ≤ 1099511627777
 | 0 => ⟨h0, h1⟩
 | k + 1 => by
  have ih := powM_bd h0 h1 hn k
  have : 0 ≤ powM f n k * (n + 1) := Int.mul_nonneg ih.1 (by omega)
  simp only [powM]
  omega
def stepsB (f d n : Int) : Bool := decide (f < 1) || decide (1099511627776 < f) || decide (d < 0) || decide (64 < d) || decide (n < 0) || decide (65536 < n)
def stepsR (f d n : Int) : Int × Int := if stepsB f d n = true then (0, 1) else if 1099511627776 < powM f n d.toNat then (0, 4) else (powM f n d.toNat, 0)
theorem quo_le {a b q : Int} (h0 : 0 < a) (hq : q = Int.tdiv 1099511627777 a) : (b ≤ q → a * b ≤ 1099511627777) ∧ (q < b → 1099511627777 ≤ a * b) := by
 rw [Int.tdiv_eq_ediv_of_nonneg (by omega)] at hq
 subst hq
 refine ⟨fun h => ?_, fun h => ?_⟩
 ·have h1 := Int.mul_le_mul_of_nonneg_left h (Int.le_of_lt h0)
  have h2 := Int.mul_ediv_self_le (x := 1099511627777) (k := a) (by omega)
  omega
 ·have h1 := Int.lt_mul_ediv_self_add (x := 1099511627777) (k := a) h0
  have h2 : 1099511627777 / a + 1 ≤ b := by omega
  have h3 := Int.mul_le_mul_of_nonneg_left h2 (Int.le_of_lt h0)
  rw [Int.mul_add, Int.mul_one] at h3
  omega
theorem btimes_any (a b : Int) (w : World) (h0 : 0 ≤ a) (h1 : a ≤ 1099511627777) (h2 : 0 ≤ b) (_h3 : b ≤ 1099511627777) :
  Calls Tryz.prog 21 #[.int .i64 a, .int .i64 b] w fun e w' => e = .returned (.int .i64 (min (a * b) 1099511627777)) ∧ w = w' := by
 obtain ⟨R, hR⟩ : ∃ R, R = min (a * b) 1099511627777 := ⟨_, rfl⟩
 rw [← hR]
 by_cases ha : a = 0
 ·subst ha
  have HR := gI (show R = 0 by rw [hR, Int.zero_mul]; rfl)
  clear hR
  go_enter Tryz.func21, Tryz.ntmps21
  go_wp2
  go_ret
  exact ⟨by rw [HR.out]; rfl, rfl⟩
 ·have hap : 0 < a := by omega
  obtain ⟨q, hq⟩ : ∃ q, q = Int.tdiv 1099511627777 a := ⟨_, rfl⟩
  have hqb : 0 ≤ q ∧ q ≤ 1099511627777 := by
   rw [hq, Int.tdiv_eq_ediv_of_nonneg (by omega)]
   exact ⟨Int.ediv_nonneg (by omega) h0, Int.ediv_le_self _ (by omega)⟩
  obtain ⟨k1, k2⟩ := quo_le (b := b) hap hq
  have hqt := hq.symm
  have hw : IntKind.i64.wrap q = q := IntWalk.i64_in _ (by omega)
  have ha2 : ¬ a = 0 := ha
  by_cases hb : q < b
  ·have HR := gI (show R = 1099511627777 by have := k2 hb; rw [hR]; omega)
   clear hR hq k1 k2 h1 h2
   go_enter Tryz.func21, Tryz.ntmps21
   go_wp2
   go_ret
   exact ⟨by rw [HR.out]; rfl, rfl⟩
  ·have hm := k1 (by omega)
   have hm0 : 0 ≤ a * b := Int.mul_nonneg h0 h2
   have hw2 : IntKind.i64.wrap (a * b) = a * b := IntWalk.i64_in _ (by omega)
   have HR := gI (show R = a * b by rw [hR]; omega)
   obtain ⟨m, hmm⟩ : ∃ m, m = a * b := ⟨_, rfl⟩
   rw [← hmm] at hw2 hm hm0 HR
   have hmm2 := hmm.symm
   have hmt : ¬ 1099511627777 < m := by omega
   clear hR hq k1 k2 h1 h2 hmm
   go_enter Tryz.func21, Tryz.ntmps21
   go_wp2
   go_ret
   exact ⟨by rw [HR.out]; rfl, rfl⟩
theorem rtimes_any (a b : Int) (w : World) (h0 : 0 ≤ a) (h1 : a ≤ 1099511627777) (h2 : 0 ≤ b) (_h3 : b ≤ 1099511627777) :
  Calls Tryz.prog 22 #[.int .i64 a, .int .i64 b] w fun e w' => e = .returned (.int .i64 (min (a * b) 1099511627777)) ∧ w = w' := by
 obtain ⟨R, hR⟩ : ∃ R, R = min (a * b) 1099511627777 := ⟨_, rfl⟩
 rw [← hR]
 by_cases ha : a = 0
 ·subst ha
  have HR := gI (show R = 0 by rw [hR, Int.zero_mul]; rfl)
  clear hR
  go_enter Tryz.func22, Tryz.ntmps22
  go_wp2
  go_ret
  exact ⟨by rw [HR.out]; rfl, rfl⟩
 ·have hap : 0 < a := by omega
  obtain ⟨q, hq⟩ : ∃ q, q = Int.tdiv 1099511627777 a := ⟨_, rfl⟩
  have hqb : 0 ≤ q ∧ q ≤ 1099511627777 := by
   rw [hq, Int.tdiv_eq_ediv_of_nonneg (by omega)]
   exact ⟨Int.ediv_nonneg (by omega) h0, Int.ediv_le_self _ (by omega)⟩
  obtain ⟨k1, k2⟩ := quo_le (b := b) hap hq
  have hqt := hq.symm
  have hw : IntKind.i64.wrap q = q := IntWalk.i64_in _ (by omega)
  have ha2 : ¬ a = 0 := ha
  by_cases hb : q < b
  ·have HR := gI (show R = 1099511627777 by have := k2 hb; rw [hR]; omega)
   clear hR hq k1 k2 h1 h2
   go_enter Tryz.func22, Tryz.ntmps22
   go_wp2
   go_ret
   exact ⟨by rw [HR.out]; rfl, rfl⟩
  ·have hm := k1 (by omega)
   have hm0 : 0 ≤ a * b := Int.mul_nonneg h0 h2
   have hw2 : IntKind.i64.wrap (a * b) = a * b := IntWalk.i64_in _ (by omega)
   have HR := gI (show R = a * b by rw [hR]; omega)
   obtain ⟨m, hmm⟩ : ∃ m, m = a * b := ⟨_, rfl⟩
   rw [← hmm] at hw2 hm hm0 HR
   have hmm2 := hmm.symm
   have hmt : ¬ 1099511627777 < m := by omega
   clear hR hq k1 k2 h1 h2 hmm
   go_enter Tryz.func22, Tryz.ntmps22
   go_wp2
   go_ret
   exact ⟨by rw [HR.out]; rfl, rfl⟩
set_option linter.unusedSimpArgs false in
theorem bsteps_any (ra : Option Addr) (rl rc : Nat) (f d n : Int) (w : World) :
  Calls Tryz.prog 7 #[.agg #[.slice ra rl rc, .int .i64 f, .int .i64 d], .int .i64 n] w fun e w' => e = .returned (.tuple #[.int .i64 (stepsR f d n).1, .int .i64 (stepsR f d n).2]) ∧ Keeps [] w w' := by
 obtain ⟨R, hR⟩ : ∃ R, R = stepsR f d n := ⟨_, rfl⟩
 rw [← hR]
 obtain ⟨Q, hQ⟩ : ∃ Q : Ending → World → Prop, Q = fun e w' => e = .returned (.tuple #[.int .i64 R.1, .int .i64 R.2]) ∧ Keeps [] w w' := ⟨_, rfl⟩
 rw [← hQ]
 have HQ := gI hQ
 obtain ⟨B, hB⟩ : ∃ B, B = w.heap.size := ⟨_, rfl⟩
 obtain ⟨Y, hY⟩ : ∃ Y, Y = w.alloc (.cells #[.slice ra rl rc, .int .i64 f, .int .i64 d] 30) := ⟨_, rfl⟩
 have hk : Keeps [] w Y := by rw [hY]; exact (Keeps.refl [] w).alloc _
 have hb : Y.heap[B]? = some (.cells #[.slice ra rl rc, .int .i64 f, .int .i64 d] 30 (0, 0)) := by rw [hY, hB]; exact heap_alloc_new w _
 have c1 : Y.cell? ⟨B, 1, none⟩ = some (.int .i64 f) := by simp [World.cell?, hb]
 have c2 : Y.cell? ⟨B, 2, none⟩ = some (.int .i64 d) := by simp [World.cell?, hb]
 have HK := gI hk
 have HY := gI hY
 have HB := gI hB
 obtain ⟨bad, hbad⟩ : ∃ bad, bad = stepsB f d n := ⟨_, rfl⟩
 have HBAD := gI hbad
 have HR := gI hR
 clear hQ hB hY hk hb hbad hR
 go_enter Tryz.func7, Tryz.ntmps7
 go_upto_region 1 with fail
 rw [← HY.out, ← HB.out]
 go_cut [32] from 7 to 32 (fun v wx => v = .bool bad ∧ wx = Y)
 case first =>
  by_cases h1 : f < 1
  ·go_wp2
   go_meet
   exact ⟨by rw [HBAD.out]; simp [stepsB, h1], rfl⟩
  ·by_cases h2 : 1099511627776 < f
   ·go_wp2
    go_meet
    exact ⟨by rw [HBAD.out]; simp [stepsB, h2], rfl⟩
   ·by_cases h3 : d < 0
    ·go_wp2
     go_meet
     exact ⟨by rw [HBAD.out]; simp [stepsB, h3], rfl⟩
    ·by_cases h4 : 64 < d
     ·go_wp2
      go_meet
      exact ⟨by rw [HBAD.out]; simp [stepsB, h4], rfl⟩
     ·by_cases h5 : n < 0
      ·go_wp2
       go_meet
       exact ⟨by rw [HBAD.out]; simp [stepsB, h5], rfl⟩
      ·by_cases h6 : 65536 < n
       ·go_wp2
        go_meet
        exact ⟨by rw [HBAD.out]; simp [stepsB, h6], rfl⟩
       ·have HB2 := gI (show bad = false by rw [HBAD.out]; simp [stepsB, h1, h2, h3, h4, h5, h6])
        go_wp2
        go_meet
        exact ⟨by rw [HB2.out], by trivial⟩
 case rest =>
 obtain ⟨rfl, hwc⟩ := hcut
 have hwc2 := hwc.symm
 clear hwc
 subst hwc2
 cases bad with
 | true =>
  have HE := gI (show R = (0, 1) by rw [HR.out]; simp [stepsR, ← HBAD.out])
  go_wp2
  rw [HQ.out, HE.out]
  exact ⟨rfl, HK.out⟩
 | false =>
  have hbd : (1 ≤ f ∧ f ≤ 1099511627776) ∧ (0 ≤ d ∧ d ≤ 64) ∧ (0 ≤ n ∧ n ≤ 65536) := by
   have h := HBAD.out.symm
   simp only [stepsB, Bool.or_eq_false_iff, decide_eq_false_iff_not] at h
   omega
  obtain ⟨⟨f1, f2⟩, ⟨d1, d2⟩, n1, n2⟩ := hbd
  obtain ⟨D, rfl⟩ : ∃ D : Nat, d = D := ⟨d.toNat, by omega⟩
  have HP := gI (powM_bd (f := f) (n := n) (by omega) (by omega) n1)
  have HT := gI (fun a W h0 h1 => btimes_any a (n + 1) W h0 h1 (by omega) (by omega))
  have hw1 : IntKind.i64.wrap (n + 1) = n + 1 := IntWalk.i64_in _ (by omega)
  have HE := gI (show R = if 1099511627776 < powM f n D then (0, 4) else (powM f n D, 0) by rw [HR.out]; simp [stepsR, ← HBAD.out])
  go_upto_region 5 with fail
  go_loopw [6, 37] (fun v6 v wr => ∃ k : Nat, v = .int .i64 k ∧ v6 = .int .i64 (powM f n k) ∧ k ≤ D ∧ wr = Y) (fun _ v _ => D - (intOf v).toNat)
  case atStart => exact ⟨0, rfl, rfl, Nat.zero_le _, rfl⟩
  case round =>
   obtain ⟨k, rfl, rfl, hk, hwr⟩ := hrel
   have hwr2 := hwr.symm
   clear hwr
   subst hwr2
   obtain ⟨p0, p1⟩ := HP.out k
   obtain ⟨P, hP⟩ : ∃ P, P = powM f n k := ⟨_, rfl⟩
   rw [← hP] at p0 p1 ⊢
   have HPE := gI hP
   by_cases hkD : k < D
   ·have hki : (k : Int) < (D : Int) := by omega
    have hw2 : IntKind.i64.wrap ((k : Int) + 1) = (k : Int) + 1 := IntWalk.i64_in _ (by omega)
    have HC := gI (HT.out P Y p0 p1)
    obtain ⟨P2, hP2⟩ : ∃ P2, P2 = min (P * (n + 1)) 1099511627777 := ⟨_, rfl⟩
    rw [← hP2] at HC
    have HP2 := gI (show P2 = powM f n (k + 1) by rw [hP2, hP]; rfl)
    clear hP hP2
    go_wp2_with fail
    with_reducible refine Calls.mono HC.out ?_
    rintro e w2 ⟨rfl, rfl⟩
    go_wp2
    go_roundw
    case rel => exact ⟨k + 1, by go_num, by rw [HP2.out], by omega, by trivial⟩
    case measure => simp [intOf]; omega
   ·obtain rfl : k = D := by omega
    clear hP
    by_cases hlim : 1099511627776 < P
    ·have HE2 := gI (show R = (0, 4) by rw [HE.out, ← HPE.out, if_pos hlim])
     go_wp2
     rw [HQ.out, HE2.out]
     exact ⟨rfl, HK.out⟩
    ·have HE2 := gI (show R = (P, 0) by rw [HE.out, ← HPE.out, if_neg hlim])
     go_wp2
     rw [HQ.out, HE2.out]
     exact ⟨rfl, HK.out⟩
set_option linter.unusedSimpArgs false in
theorem rsteps_any (ra : Option Addr) (rl rc : Nat) (f d n : Int) (w : World) :
  Calls Tryz.prog 9 #[.agg #[.slice ra rl rc, .int .i64 f, .int .i64 d], .int .i64 n] w fun e w' => e = .returned (.tuple #[.int .i64 (stepsR f d n).1, .int .i64 (stepsR f d n).2]) ∧ Keeps [] w w' := by
 obtain ⟨R, hR⟩ : ∃ R, R = stepsR f d n := ⟨_, rfl⟩
 rw [← hR]
 obtain ⟨Q, hQ⟩ : ∃ Q : Ending → World → Prop, Q = fun e w' => e = .returned (.tuple #[.int .i64 R.1, .int .i64 R.2]) ∧ Keeps [] w w' := ⟨_, rfl⟩
 rw [← hQ]
 have HQ := gI hQ
 obtain ⟨B, hB⟩ : ∃ B, B = w.heap.size := ⟨_, rfl⟩
 obtain ⟨Y, hY⟩ : ∃ Y, Y = w.alloc (.cells #[.slice ra rl rc, .int .i64 f, .int .i64 d] 26) := ⟨_, rfl⟩
 have hk : Keeps [] w Y := by rw [hY]; exact (Keeps.refl [] w).alloc _
 have hb : Y.heap[B]? = some (.cells #[.slice ra rl rc, .int .i64 f, .int .i64 d] 26 (0, 0)) := by rw [hY, hB]; exact heap_alloc_new w _
 have c1 : Y.cell? ⟨B, 1, none⟩ = some (.int .i64 f) := by simp [World.cell?, hb]
 have c2 : Y.cell? ⟨B, 2, none⟩ = some (.int .i64 d) := by simp [World.cell?, hb]
 have HK := gI hk
 have HY := gI hY
 have HB := gI hB
 obtain ⟨bad, hbad⟩ : ∃ bad, bad = stepsB f d n := ⟨_, rfl⟩
 have HBAD := gI hbad
 have HR := gI hR
 clear hQ hB hY hk hb hbad hR
 go_enter Tryz.func9, Tryz.ntmps9
 go_upto_region 1 with fail
 rw [← HY.out, ← HB.out]
 go_cut [33] from 8 to 33 (fun v wx => v = .bool bad ∧ wx = Y)
 case first =>
  by_cases h1 : f < 1
  ·go_wp2
   go_meet
   exact ⟨by rw [HBAD.out]; simp [stepsB, h1], rfl⟩
  ·by_cases h2 : 1099511627776 < f
   ·go_wp2
    go_meet
    exact ⟨by rw [HBAD.out]; simp [stepsB, h2], rfl⟩
   ·by_cases h3 : d < 0
    ·go_wp2
     go_meet
     exact ⟨by rw [HBAD.out]; simp [stepsB, h3], rfl⟩
    ·by_cases h4 : 64 < d
     ·go_wp2
      go_meet
      exact ⟨by rw [HBAD.out]; simp [stepsB, h4], rfl⟩
     ·by_cases h5 : n < 0
      ·go_wp2
       go_meet
       exact ⟨by rw [HBAD.out]; simp [stepsB, h5], rfl⟩
      ·by_cases h6 : 65536 < n
       ·go_wp2
        go_meet
        exact ⟨by rw [HBAD.out]; simp [stepsB, h6], rfl⟩
       ·have HB2 := gI (show bad = false by rw [HBAD.out]; simp [stepsB, h1, h2, h3, h4, h5, h6])
        go_wp2
        go_meet
        exact ⟨by rw [HB2.out], by trivial⟩
 case rest =>
 obtain ⟨rfl, hwc⟩ := hcut
 have hwc2 := hwc.symm
 clear hwc
 subst hwc2
 cases bad with
 | true =>
  have HE := gI (show R = (0, 1) by rw [HR.out]; simp [stepsR, ← HBAD.out])
  go_wp2
  rw [HQ.out, HE.out]
  exact ⟨rfl, HK.out⟩
 | false =>
  have hbd : (1 ≤ f ∧ f ≤ 1099511627776) ∧ (0 ≤ d ∧ d ≤ 64) ∧ (0 ≤ n ∧ n ≤ 65536) := by
   have h := HBAD.out.symm
   simp only [stepsB, Bool.or_eq_false_iff, decide_eq_false_iff_not] at h
   omega
  obtain ⟨⟨f1, f2⟩, ⟨d1, d2⟩, n1, n2⟩ := hbd
  obtain ⟨D, rfl⟩ : ∃ D : Nat, d = D := ⟨d.toNat, by omega⟩
  have HP := gI (powM_bd (f := f) (n := n) (by omega) (by omega) n1)
  have HT := gI (fun a W h0 h1 => rtimes_any a (n + 1) W h0 h1 (by omega) (by omega))
  have hw1 : IntKind.i64.wrap (n + 1) = n + 1 := IntWalk.i64_in _ (by omega)
  have HE := gI (show R = if 1099511627776 < powM f n D then (0, 4) else (powM f n D, 0) by rw [HR.out]; simp [stepsR, ← HBAD.out])
  go_upto_region 5 with fail
  go_loopw [6, 7] (fun v6 v wr => ∃ k : Nat, v = .int .i64 k ∧ v6 = .int .i64 (powM f n k) ∧ k ≤ D ∧ wr = Y) (fun _ v _ => D - (intOf v).toNat)
  case atStart => exact ⟨0, rfl, rfl, Nat.zero_le _, rfl⟩
  case round =>
   obtain ⟨k, rfl, rfl, hk, hwr⟩ := hrel
   have hwr2 := hwr.symm
   clear hwr
   subst hwr2
   obtain ⟨p0, p1⟩ := HP.out k
   obtain ⟨P, hP⟩ : ∃ P, P = powM f n k := ⟨_, rfl⟩
   rw [← hP] at p0 p1 ⊢
   have HPE := gI hP
   by_cases hkD : k < D
   ·have hki : (k : Int) < (D : Int) := by omega
    have hw2 : IntKind.i64.wrap ((k : Int) + 1) = (k : Int) + 1 := IntWalk.i64_in _ (by omega)
    have HC := gI (HT.out P Y p0 p1)
    obtain ⟨P2, hP2⟩ : ∃ P2, P2 = min (P * (n + 1)) 1099511627777 := ⟨_, rfl⟩
    rw [← hP2] at HC
    have HP2 := gI (show P2 = powM f n (k + 1) by rw [hP2, hP]; rfl)
    clear hP hP2
    go_wp2_with fail
    with_reducible refine Calls.mono HC.out ?_
    rintro e w2 ⟨rfl, rfl⟩
    go_wp2
    go_roundw
    case rel => exact ⟨k + 1, by go_num, by rw [HP2.out], by omega, by trivial⟩
    case measure => simp [intOf]; omega
   ·obtain rfl : k = D := by omega
    clear hP
    by_cases hlim : 1099511627776 < P
    ·have HE2 := gI (show R = (0, 4) by rw [HE.out, ← HPE.out, if_pos hlim])
     go_wp2
     rw [HQ.out, HE2.out]
     exact ⟨rfl, HK.out⟩
    ·have HE2 := gI (show R = (P, 0) by rw [HE.out, ← HPE.out, if_neg hlim])
     go_wp2
     rw [HQ.out, HE2.out]
     exact ⟨rfl, HK.out⟩
def wdK (es : List E4) : Nat → Nat → Nat → Int
 | 0, _, _ => 0
 | k + 1, n, m => if (es.getD k e40).fr.toNat = n ∧ (es.getD k e40).tt.toNat = m then max (wdK es k n m) (es.getD k e40).ws else wdK es k n m
def spdA (first : List Int) (i n : Nat) (sk : List Int) : List Int := sk.set i (min (sk.getD i 0 + first.getD n 0) 1099511627777)
def spdFB (of : List Int) (i q : Nat) : Bool := decide (0 ≤ of.getD q 0) && decide (of.getD q 0 ≠ i)
def spdF (of : List Int) (wd : Nat → Nat → Int) (i n q : Nat) (sk : List Int) : List Int :=
 if spdFB of i q then sk.set i (min (sk.getD i 0 + min (wd q n * sk.getD (of.getD q 0).toNat 0) 1099511627777) 1099511627777) else sk
def spdI (of : List Int) (wd : Nat → Nat → Int) (i n : Nat) (sk : List Int) : Nat → List Int
 | 0 => sk
 | q + 1 => spdF of wd i n q (spdI of wd i n sk q)
def spdN (of first : List Int) (wd : Nat → Nat → Int) (N i : Nat) (nodes : List Int) (sk : List Int) : Nat → List Int
 | 0 => sk
 | k + 1 => spdI of wd i (nodes.getD k 0).toNat (spdA first i (nodes.getD k 0).toNat (spdN of first wd N i nodes sk k)) N
def spdS (of first : List Int) (wd : Nat → Nat → Int) (N : Nat) (i : Nat) (nodes : List Int) (s : List Int × Int) : List Int × Int :=
 (spdN of first wd N i nodes s.1 nodes.length, min (s.2 + min ((nodes.length : Int) * (spdN of first wd N i nodes s.1 nodes.length).getD i 0) 1099511627777) 1099511627777)
def spdK (of first : List Int) (wd : Nat → Nat → Int) (N : Nat) (ps : List Pt) : Nat → List Int × Int
 | 0 => (List.replicate ps.length 0, 0)
 | i + 1 => spdS of first wd N i (ps.getD i pt0).nodes (spdK of first wd N ps i)
def sprP (of first : List Int) (es : List E4) (ps : List Pt) (N : Nat) : Int := (spdK of first (wdK es es.length) N ps ps.length).2
def SpdB (sk : List Int) (K : Nat) : Prop := sk.length = K ∧ ∀ i, 0 ≤ sk.getD i 0 ∧ sk.getD i 0 ≤ 1099511627777
theorem SpdB.set {sk : List Int} {K : Nat} (h : SpdB sk K) (i : Nat) (v : Int) (h0 : 0 ≤ v) (h1 : v ≤ 1099511627777) : SpdB (sk.set i v) K := by
 refine ⟨by simpa using h.1, fun j => ?_⟩
 have := h.2 j
 simp only [List.getD_eq_getElem?_getD, List.getElem?_set] at *
 split
 ·split
  ·simp only [Option.getD_some]; omega
  ·simp
 ·exact this
theorem SpdB.zero (K : Nat) : SpdB (List.replicate K 0) K := ⟨by simp, fun i => by
 simp only [List.getD_eq_getElem?_getD, List.getElem?_replicate]
 split <;> simp⟩
theorem spd_min {a : Int} (h : 0 ≤ a) : 0 ≤ min a 1099511627777 ∧ min a 1099511627777 ≤ 1099511627777 := by omega
theorem spdA_ok {first : List Int} (hf : ∀ i, 0 ≤ first.getD i 0) {i n K : Nat} {sk : List Int} (h : SpdB sk K) : SpdB (spdA first i n sk) K := by
 have h1 := (h.2 i).1
 have h2 := hf n
 obtain ⟨h3, h4⟩ := spd_min (a := sk.getD i 0 + first.getD n 0) (by omega)
 exact h.set _ _ h3 h4
theorem spdF_ok {of : List Int} {wd : Nat → Nat → Int} (hw : ∀ n m, 0 ≤ wd n m) {i n q K : Nat} {sk : List Int} (h : SpdB sk K) : SpdB (spdF of wd i n q sk) K := by
 unfold spdF
 split
 ·have h1 := (h.2 i).1
  have h2 := (h.2 (of.getD q 0).toNat).1
  have h5 := Int.mul_nonneg (hw q n) h2
  obtain ⟨h6, _⟩ := spd_min h5
  obtain ⟨h3, h4⟩ := spd_min (a := sk.getD i 0 + min (wd q n * sk.getD (of.getD q 0).toNat 0) 1099511627777) (by omega)
  exact h.set _ _ h3 h4
 ·exact h
theorem spdI_ok {of : List Int} {wd : Nat → Nat → Int} (hw : ∀ n m, 0 ≤ wd n m) {i n K : Nat} {sk : List Int} (h : SpdB sk K) : ∀ q, SpdB (spdI of wd i n sk q) K
 | 0 => h
 | q + 1 => spdF_ok hw (spdI_ok hw h q)
theorem spdN_ok {of first : List Int} {wd : Nat → Nat → Int} (hf : ∀ i, 0 ≤ first.getD i 0) (hw : ∀ n m, 0 ≤ wd n m) {N i K : Nat} {nodes sk : List Int} (h : SpdB sk K) : ∀ k, SpdB (spdN of first wd N i nodes sk k) K
 | 0 => h
 | k + 1 => spdI_ok hw (spdA_ok hf (spdN_ok hf hw h k)) N
theorem spdK_ok {of first : List Int} {wd : Nat → Nat → Int} (hf : ∀ i, 0 ≤ first.getD i 0) (hw : ∀ n m, 0 ≤ wd n m) {N : Nat} {ps : List Pt} : ∀ i, SpdB (spdK of first wd N ps i).1 ps.length ∧ 0 ≤ (spdK of first wd N ps i).2 ∧ (spdK of first wd N ps i).2 ≤ 1099511627777
 | 0 => ⟨SpdB.zero _, by simp [spdK]⟩
 | i + 1 => by
  obtain ⟨h1, h2, h3⟩ := spdK_ok hf hw (N := N) (ps := ps) i
  have h4 := spdN_ok hf hw (of := of) (N := N) (i := i) (nodes := (ps.getD i pt0).nodes) h1 (ps.getD i pt0).nodes.length
  refine ⟨h4, ?_⟩
  have h5 := Int.mul_nonneg (show (0 : Int) ≤ ((ps.getD i pt0).nodes.length : Int) by omega) (h4.2 i).1
  obtain ⟨h6, _⟩ := spd_min h5
  exact spd_min (by omega)
theorem wdK_ok {es : List E4} (h : ∀ i, 0 ≤ (es.getD i e40).ws ∧ (es.getD i e40).ws ≤ 1099511627777) (n m : Nat) : ∀ k, 0 ≤ wdK es k n m ∧ wdK es k n m ≤ 1099511627777
 | 0 => by simp [wdK]
 | k + 1 => by
  have ih := wdK_ok h n m k
  have := h k
  simp only [wdK]
  split
  ·omega
  ·exact ih
def WdAt (w : World) (rm : Nat) (es : List E4) (k : Nat) : Prop := ∃ g, MapAt w Tryz.prog 136 rm k g ∧ ∀ n m : Nat, (g (duov n m)).getD (.int .i64 0) = .int .i64 (wdK es k n m)
theorem WdAt.keep {w w' : World} {rm : Nat} {es : List E4} {k : Nat} (h : WdAt w rm es k) {S : List Nat} (K : Keeps S w w') (hS : rm ∉ S) : WdAt w' rm es k := by
 obtain ⟨g, h1, h2⟩ := h
 exact ⟨g, h1.keep K hS, h2⟩
theorem WdAt.lt {w : World} {rm : Nat} {es : List E4} {k : Nat} (h : WdAt w rm es k) : rm < w.heap.size := by
 obtain ⟨g, h1, _⟩ := h
 exact h1.lt
theorem WdAt.look {w : World} {rm : Nat} {es : List E4} {k : Nat} (h : WdAt w rm es k) (n m : Nat) (hn : n < 64) (hm : m < 64) : (Instr.lookup 135 (.map (some rm)) (.agg #[.int .i64 n, .int .i64 m]) false).run Tryz.prog w = .ok (.int .i64 (wdK es k n m)) w := by
 obtain ⟨g, h1, h2⟩ := h
 have h := h1.look false duoKeyed Tryz.underlying135 (z := .int .i64 0) (by kernel_rfl) (key2 (x := n) (y := m) (by unfold M64; omega) (by unfold M64; omega))
 rw [h2] at h
 exact h
theorem built_duo2 (a b : Int) : Tryz.prog.built 136 [(0, .int .i64 a), (1, .int .i64 b)] = some #[.int .i64 a, .int .i64 b] := by kernel_rfl
end Go.Proofs.YtkekenaamnhbhaaGreat
