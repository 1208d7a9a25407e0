/- The walk of MeterApart: it returns true and leaves old memory as it was. Conditions: the slice lies in memory; the numbers are int64. -/
import Derived.Test.YtdpmkbiibmjbfaaScript
import Derived.Test.YtdpmkbiibmjbfaaLives
import Derived.Deep.DeepCutAuto
namespace Go.Proofs.Ytdpmkbiibmjbfaa
open Go.RowKit

theorem usedAt_comp (period mt t1 t2 : Int) (used : List Int) (hp : 1 ≤ period) (h1 : mt ≤ t1) (h2 : t1 ≤ t2) : usedAt period mt t2 used = usedAt period t1 t2 (usedAt period mt t1 used) := by
  have a1 : mt / period ≤ t1 / period := Int.ediv_le_ediv (by omega) h1
  have a2 : t1 / period ≤ t2 / period := Int.ediv_le_ediv (by omega) h2
  unfold usedAt freshB
  by_cases e1 : t1 / period = mt / period
  · by_cases e2 : t2 / period = t1 / period
    · simp [e1, e2]
    · have e3 : ¬ t2 / period = mt / period := by omega
      simp [e1, e3]
  · by_cases e2 : t2 / period = t1 / period
    · have e3 : ¬ t2 / period = mt / period := by omega
      simp [e1, e2]
    · have e3 : ¬ t2 / period = mt / period := by omega
      simp [e1, e2, e3]
theorem usedAt_self (period t : Int) (used : List Int) : usedAt period t t used = used := by simp [usedAt, freshB]
theorem usedAt_one (period mt t x y : Int) (h : usedAt period mt t [x] = [y]) (t2 : Int) (hp : 1 ≤ period) (h1 : mt ≤ t) (h2 : t ≤ t2) : usedAt period mt t2 [x] = [if t2 / period = t / period then y else 0] := by
  rw [usedAt_comp period mt t t2 [x] hp h1 h2, h]
  unfold usedAt freshB
  by_cases e : t2 / period = t / period <;> simp [e]
theorem wrongF_in (tk : Int) (len : Nat) (rule n tick : Int) (h0 : 0 ≤ rule) (h1 : rule < len) (h2 : 0 ≤ n) (h3 : n ≤ 1099511627776) (h4 : 0 ≤ tick) (h5 : tick ≤ 1099511627776) (h6 : tk ≤ tick) : wrongF tk len rule n tick = 0 := by
  unfold wrongF outB
  split
  · rename_i h
    simp at h
    omega
  · split
    · omega
    · rfl

theorem mkOp_bd (x y : Int) : -1 ≤ (mkOp x y).2.2.2 ∧ (mkOp x y).2.2.2 ≤ 4 ∧ -1 ≤ (mkOp x y).2.1 ∧ (mkOp x y).2.1 ≤ 1048576 ∧ -1 ≤ (mkOp x y).2.2.1 ∧ (mkOp x y).2.2.1 ≤ 1099511627777 := by
  obtain ⟨n0, n1⟩ := aroundF_bd x 1048576 (by omega)
  obtain ⟨m0, m1⟩ := aroundF_bd y 1048576 (by omega)
  simp only [mkOp]
  generalize aroundF x 1048576 = n at *
  generalize aroundF y 1048576 = m at *
  have ht : ∀ j : Nat, -1 ≤ ([-1, 1099511627776, 1099511627777] : List Int).getD j 0 ∧ ([-1, 1099511627776, 1099511627777] : List Int).getD j 0 ≤ 1099511627777 := by
    intro j
    match j with
    | 0 => decide
    | 1 => decide
    | 2 => decide
    | j + 3 => simp
  have h41 := ht (m / 41 % 3).toNat
  generalize ([-1, 1099511627776, 1099511627777] : List Int).getD (m / 41 % 3).toNat 0 = t at *
  refine ⟨?_, ?_, ?_, ?_, ?_, ?_⟩ <;> split <;> omega
theorem opsTo_bd (xs : List Int) (n k : Nat) (h : k < (opsTo xs n).length) : ∃ x y, (opsTo xs n)[k] = mkOp x y := ⟨_, _, by simp [opsTo]; rfl⟩

/-- Two meters, the sums that the law keeps, at the tick T. -/
structure AState (w wr : World) (mb mu ob ou sb : Nat) (S P T : Int) (sums : List Int) (mt ot x : Int) (used : List Int) : Prop where
  m : MeterAt wr mb mu S P mt used
  o : MeterAt wr ob ou S P ot [x]
  si : Ints 3 wr sb sums
  ul : used.length = 4
  mle : mt ≤ T
  ole : ot ≤ T
  us : usedAt P mt T used = sums
  xs : usedAt P ot T [x] = [sums.getD 0 0]
  tb : 0 ≤ T
  dm : ob ≠ mb ∧ ob ≠ mu ∧ ou ≠ mb ∧ ou ≠ mu
  ds : sb ≠ mb ∧ sb ≠ mu ∧ sb ≠ ob ∧ sb ≠ ou
  kp : Keeps [] w wr
  nw : w.heap.size ≤ mb ∧ w.heap.size ≤ mu ∧ w.heap.size ≤ ob ∧ w.heap.size ≤ ou ∧ w.heap.size ≤ sb

theorem AState.sl {w wr : World} {mb mu ob ou sb : Nat} {S P T : Int} {sums : List Int} {mt ot x : Int} {used : List Int} (h : AState w wr mb mu ob ou sb S P T sums mt ot x used) : sums.length = 4 := by
  rw [← h.us, usedAt_length, h.ul]
theorem AState.keep {w wr w2 : World} {mb mu ob ou sb : Nat} {S P T : Int} {sums : List Int} {mt ot x : Int} {used : List Int} (h : AState w wr mb mu ob ou sb S P T sums mt ot x used) (k : Keeps [] wr w2) : AState w w2 mb mu ob ou sb S P T sums mt ot x used :=
  ⟨h.m.keep k (by simp) (by simp), h.o.keep k (by simp) (by simp), h.si.keep k (by simp), h.ul, h.mle, h.ole, h.us, h.xs, h.tb, h.dm, h.ds, h.kp.trans k, h.nw⟩
/-- The meter, perhaps the other one, and the sums are turned at one rule. -/
theorem AState.upd {w wr w9 : World} {mb mu ob ou sb : Nat} {S P T : Int} {sums : List Int} {mt ot x : Int} {used : List Int} (h : AState w wr mb mu ob ou sb S P T sums mt ot x used) (rn : Nat) (y ot' x' : Int) (k : Keeps [mb, mu, ob, ou, sb] wr w9)
    (hm : MeterAt w9 mb mu S P T (sums.set rn y)) (ho : MeterAt w9 ob ou S P ot' [x']) (hot : ot' ≤ T) (hx : usedAt P ot' T [x'] = [(sums.set rn y).getD 0 0]) (hs : Ints 3 w9 sb (sums.set rn y)) :
    AState w w9 mb mu ob ou sb S P T (sums.set rn y) T ot' x' (sums.set rn y) :=
  ⟨hm, ho, hs, by rw [List.length_set, h.sl], Int.le_refl _, hot, usedAt_self _ _ _, hx, h.tb, h.dm, h.ds, h.kp.after k (by
    intro z hz
    have := h.nw
    simp at hz
    right
    omega), h.nw⟩
theorem set_other (sums : List Int) (rn : Nat) (y : Int) (h : rn ≠ 0) : (sums.set rn y).getD 0 0 = sums.getD 0 0 := by
  simp only [List.getD_eq_getElem?_getD, List.getElem?_set]; rw [if_neg h]
theorem set_zero (sums : List Int) (y : Int) (h : 0 < sums.length) : (sums.set 0 y).getD 0 0 = y := by simp [h]

/-- The tick goes on within the period. -/
theorem AState.on {w wr : World} {mb mu ob ou sb : Nat} {S P T : Int} {sums : List Int} {mt ot x : Int} {used : List Int} (h : AState w wr mb mu ob ou sb S P T sums mt ot x used) (T2 : Int) (hT : T ≤ T2) (he : T2 / P = T / P) : AState w wr mb mu ob ou sb S P T2 sums mt ot x used := by
  have hp := h.m.per.1
  refine ⟨h.m, h.o, h.si, h.ul, by have := h.mle; omega, by have := h.ole; omega, ?_, ?_, by have := h.tb; omega, h.dm, h.ds, h.kp, h.nw⟩
  · rw [usedAt_comp P mt T T2 used hp h.mle hT, h.us]; simp [usedAt, freshB, he]
  · rw [usedAt_one P ot T x _ h.xs T2 hp h.ole hT, if_pos he]
/-- The tick goes on into another period: the sums are new. -/
theorem AState.fresh {w wr : World} {mb mu ob ou sb : Nat} {S P T : Int} {sums : List Int} {mt ot x : Int} {used : List Int} (h : AState w wr mb mu ob ou sb S P T sums mt ot x used) (T2 : Int) (hT : T ≤ T2) (he : ¬ T2 / P = T / P) :
    AState w (wr.alloc (.cells ((List.replicate 4 (0 : Int)).map (Value.int .i64)).toArray 3)) mb mu ob ou wr.heap.size S P T2 (List.replicate 4 0) mt ot x used := by
  have hp := h.m.per.1
  have k : Keeps [] wr (wr.alloc (.cells ((List.replicate 4 (0 : Int)).map (Value.int .i64)).toArray 3)) := (Keeps.refl [] wr).alloc _
  have h1 := lt_of_block h.m.cells
  have h2 := lt_of_block h.m.us
  have h3 := lt_of_block h.o.cells
  have h4 := lt_of_block h.o.us
  refine ⟨h.m.keep k (by simp) (by simp), h.o.keep k (by simp) (by simp), Ints.alloc _ _ _, h.ul, by have := h.mle; omega, by have := h.ole; omega, ?_, ?_, by have := h.tb; omega, h.dm, by omega, h.kp.trans k, by have := h.nw; have := h.kp.size; omega⟩
  · rw [usedAt_comp P mt T T2 used hp h.mle hT, h.us]
    have hl := h.sl
    simp only [usedAt, freshB, bne_iff_ne, ne_eq, he, not_false_eq_true, if_true]
    match sums, hl with
    | [a, b, c, d], _ => rfl
  · rw [usedAt_one P ot T x _ h.xs T2 hp h.ole hT, if_neg he]; rfl

set_option maxRecDepth 100000 in
set_option maxHeartbeats 16000000 in
theorem apart_walk (a0 : Option Addr) (c0 : Nat) (xs : List Int) (share period : Int) (w : World) (hx : IntsIn w a0 xs) (hxb : ∀ x ∈ xs, I64 x) (hxl : xs.length ≤ 9223372036854775807) (hsh : I64 share) (hpe : I64 period) :
    Calls Try.prog 6 #[.slice a0 xs.length c0, .int .i64 share, .int .i64 period] w fun e w' => e = .returned (.bool true) ∧ Keeps [] w w' := by
  have HX := Lib.hid hx
  have HXB := Lib.hid hxb
  clear hx hxb
  obtain ⟨i0, hi, hz0, hz1, hz2⟩ := info_parts info3
  have hmk := fun W => run_make_ints (P := Try.prog) (T := 22) Try.underlying22 hi hz0 hz1 hz2 W 4 (by omega) (by omega)
  simp only [show (4 : Int).toNat = 4 from rfl] at hmk
  clear hi hz0 hz1 hz2
  go_enter Try.func6, Try.ntmps6
  go_wp2_with fail
  refine Calls.mono (around_any share 21 _ (by omega) hsh) ?_
  rintro e w1 ⟨rfl, rfl⟩
  obtain ⟨s0, s1⟩ := aroundF_bd share 21 (by omega)
  go_wp2_with fail
  refine Calls.mono (around_any period 12 _ (by omega) hpe) ?_
  rintro e w1 ⟨rfl, rfl⟩
  obtain ⟨p0, p1⟩ := aroundF_bd period 12 (by omega)
  generalize aroundF share 21 = S at *
  generalize aroundF period 12 = P0 at *
  have hP : (1 : Int) ≤ 1 + P0 ∧ 1 + P0 ≤ 12 := by omega
  obtain ⟨P, hPP⟩ : ∃ P, P = 1 + P0 := ⟨_, rfl⟩
  go_wp2_with fail
  rw [← hPP] at hP ⊢
  have HPP := Lib.hid hPP
  clear hPP p0 p1
  obtain ⟨p0, p1⟩ := hP
  refine Calls.mono (new_ok 4 S P w (by simp [newBad, outB]; omega)) ?_
  rintro e w1 ⟨rfl, hM1, hk1, hs1⟩
  have HM1 := Lib.hid hM1
  have HK1 := Lib.hid hk1
  clear hM1 hk1
  go_wp2_with fail
  refine Calls.mono (new_ok 1 S P w1 (by simp [newBad, outB]; omega)) ?_
  rintro e w2 ⟨rfl, hO2, hk2, hs2⟩
  have HM2 := Lib.hid (HM1.out.keep hk2 (by simp) (by simp))
  have HO2 := Lib.hid hO2
  have HK2 := Lib.hid (HK1.out.trans hk2)
  clear hO2 hk2 HM1 HK1
  go_wp2_with fail
  have hxi : IntsIn w2 a0 xs := fun h => by
    obtain ⟨b, off, h1, h2⟩ := HX.out h
    exact ⟨b, off, h1, fun j hj => HK2.out.cell (h2 j hj) (by simp)⟩
  refine Calls.mono (script_any 40 a0 c0 xs _ (by omega) hxi HXB.out hxl) ?_
  rintro e w3 ⟨n, a, c, hn, rfl, hsl, hk3, ha3⟩
  have HM3 := Lib.hid (HM2.out.keep hk3 (by simp) (by simp))
  have HO3 := Lib.hid (HO2.out.keep hk3 (by simp) (by simp))
  have HSL := Lib.hid hsl
  have HK3 := Lib.hid (HK2.out.trans hk3)
  have HOL := Lib.hid (opsTo_length xs n)
  have HA3 := Lib.hid ha3
  have hw23 := hk3.size
  clear hsl hk3 ha3 hxi HM2 HO2 HK2
  simp only [sv]
  go_wp2
  have hS0 : AState w (w3.alloc (.cells ((List.replicate 4 (0 : Int)).map (Value.int .i64)).toArray 3)) (w.heap.size + 1) w.heap.size (w1.heap.size + 1) w1.heap.size w3.heap.size S P 0 (List.replicate 4 0) 0 0 0 (List.replicate 4 0) := by
    have k : Keeps [] w3 (w3.alloc (.cells ((List.replicate 4 (0 : Int)).map (Value.int .i64)).toArray 3)) := (Keeps.refl [] w3).alloc _
    refine ⟨HM3.out.keep k (by simp) (by simp), HO3.out.keep k (by simp) (by simp), Ints.alloc _ _ _, rfl, by omega, by omega, usedAt_self _ _ _, usedAt_self _ _ _, by omega, by omega, by omega, HK3.out.trans k, by omega⟩
  have HS0 := Lib.hid hS0
  have HSL0 := Lib.hid (HSL.out.alloc (.cells ((List.replicate 4 (0 : Int)).map (Value.int .i64)).toArray 3))
  have HGO := Lib.hid (show ∀ g, a = some g → g ≠ w.heap.size + 1 ∧ g ≠ w.heap.size ∧ g ≠ w1.heap.size + 1 ∧ g ≠ w1.heap.size ∧ g ≠ w3.heap.size from fun g hg => by
    have h1 := HA3.out g hg
    subst hg
    have h3 := HSL.out.lt
    omega)
  clear hS0 HSL HM3 HO3 HK3
  have HW3 := Lib.hid (show w3.heap.size = w3.heap.size from rfl)
  obtain ⟨mb, hmb⟩ : ∃ mb, mb = w.heap.size + 1 := ⟨_, rfl⟩
  obtain ⟨mu, hmu⟩ : ∃ mu, mu = w.heap.size := ⟨_, rfl⟩
  obtain ⟨ob, hob⟩ : ∃ ob, ob = w1.heap.size + 1 := ⟨_, rfl⟩
  obtain ⟨ou, hou⟩ : ∃ ou, ou = w1.heap.size := ⟨_, rfl⟩
  obtain ⟨sb0, hsb⟩ : ∃ sb, sb = w3.heap.size := ⟨_, rfl⟩
  rw [← hmb, ← hmu, ← hob, ← hou, ← hsb] at HS0 HGO
  rw [← hmb, ← hob, ← hsb]
  clear hmb hmu hob hou hsb HW3
  go_loopw [14, 15, 16] (fun t v i wr => ∃ (k sb : Nat) (T : Int) (sums : List Int) (mt ot x : Int) (used : List Int), k ≤ n ∧ i = .int .i64 k ∧ t = .int .i64 T ∧ v = .slice (some ⟨sb, 0, none⟩) 4 4 ∧ T ≤ 4 * k ∧ AState w wr mb mu ob ou sb S P T sums mt ot x used ∧
    SliceAt wr 41 4 a n c (flat4 (opsTo xs n)) ∧ a ≠ some sb) (fun _ _ i _ => n - (intOf i).toNat)
  case atStart => exact ⟨0, sb0, 0, _, 0, 0, 0, _, Nat.zero_le _, rfl, rfl, rfl, by omega, HS0.out, HSL0.out, fun h => (HGO.out _ h).2.2.2.2 rfl⟩
  case round =>
    obtain ⟨k, sb, T, sums, mt, ot, x, used, hk, rfl, rfl, rfl, hT4, hS, hsl, hasb⟩ := hrel
    have HS := Lib.hid hS
    have HSL := Lib.hid hsl
    have HASB := Lib.hid hasb
    clear hS hsl hasb
    by_cases hlt : k < n
    · cases a with
      | none => exfalso; obtain ⟨_, h0, _⟩ := HSL.out; omega
      | some go =>
      simp only [Option.map_some]
      obtain ⟨d0, d1, d2, d3⟩ := ops_cells HSL.out k (by rw [HOL.out]; exact hlt)
      have hob : ∃ kd rl nn wt : Int, wr.cell? ⟨go, k * 4, none⟩ = some (.int .i64 kd) ∧ wr.cell? ⟨go, k * 4 + 1, none⟩ = some (.int .i64 rl) ∧ wr.cell? ⟨go, k * 4 + 2, none⟩ = some (.int .i64 nn) ∧ wr.cell? ⟨go, k * 4 + 3, none⟩ = some (.int .i64 wt) ∧
          -1 ≤ wt ∧ wt ≤ 4 ∧ -1 ≤ rl ∧ rl ≤ 1048576 ∧ -1 ≤ nn ∧ nn ≤ 1099511627777 := by
        obtain ⟨x', y', hxy⟩ := opsTo_bd xs n k (by rw [HOL.out]; exact hlt)
        have hbd := mkOp_bd x' y'
        rw [← hxy] at hbd
        exact ⟨_, _, _, _, d0, d1, d2, d3, hbd⟩
      clear d0 d1 d2 d3
      obtain ⟨kd, rl, nn, wt, d0, d1, d2, d3, q0, q1, q2, q3, q4, q5⟩ := hob
      have hT0 : 0 ≤ T := HS.out.tb
      obtain ⟨wo, hwo⟩ : ∃ wo : World, wo = wr := ⟨_, rfl⟩
      clear hwo
      go_upto_region 14 with fail
      obtain ⟨W, hW⟩ : ∃ W, W = wr.alloc (.cells #[.int .i64 kd, .int .i64 rl, .int .i64 nn, .int .i64 wt] 41) := ⟨_, rfl⟩
      have hkW : Keeps [] wr W := by rw [hW]; exact (Keeps.refl [] wr).alloc _
      have hbW : W.heap[wr.heap.size]? = some (.cells #[.int .i64 kd, .int .i64 rl, .int .i64 nn, .int .i64 wt] 41 (0, 0)) := by rw [hW]; exact heap_alloc_new _ _
      rw [← hW]
      clear hW
      have HSW := Lib.hid (HS.out.keep hkW)
      have HSLW := Lib.hid (HSL.out.keep hkW (by simp))
      obtain ⟨B, hB⟩ : ∃ B, B = wr.heap.size := ⟨_, rfl⟩
      rw [← hB] at hbW ⊢
      have HBW := Lib.hid (show B ≠ mb ∧ B ≠ mu ∧ B ≠ ob ∧ B ≠ ou ∧ B ≠ sb from by
        have h1 := lt_of_block HS.out.m.cells
        have h2 := lt_of_block HS.out.m.us
        have h3 := lt_of_block HS.out.o.cells
        have h4 := lt_of_block HS.out.o.us
        have h5 := HS.out.si.lt
        omega)
      have HbW := Lib.hid hbW
      have b3 : W.cell? ⟨B, 3, none⟩ = some (.int .i64 wt) := by simp [World.cell?, hbW]
      clear hbW hB hkW d0 d1 d2 d3 HS HSL
      go_cut [18] (fun s18 wx => ∃ T2 : Int, s18 = .int .i64 T2 ∧ T ≤ T2 ∧ T2 ≤ T + 4 ∧ W = wx)
      case first => as_aux_lemma =>
        go_wp2
        · have h : 0 < wt := by assumption
          go_meet
          exact ⟨T + wt, rfl, by omega, by omega, rfl⟩
        · go_meet
          exact ⟨T, by simp, by omega, by omega, rfl⟩
      case rest =>
        obtain ⟨T2, rfl, t20, t21, rfl⟩ := hcut
        go_wp2
        go_quiet (fail)
        have HSQ := Lib.hid (HSW.out.keep ((Keeps.refl [] W).drewN nq))
        have HSLQ := Lib.hid (HSLW.out.drewN nq)
        have HBQ := Lib.hid (show (W.drewN nq).heap[B]? = _ from HbW.out)
        clear HSW HSLW HbW b3
        generalize W.drewN nq = V at *
        go_upto_if 83 with fail
        go_cut [15] (fun s15 wx => ∃ (sb2 : Nat) (sums2 : List Int) (w5 : World), w5 = wx ∧ s15 = .slice (some ⟨sb2, 0, none⟩) 4 4 ∧ AState w w5 mb mu ob ou sb2 S P T2 sums2 mt ot x used ∧ SliceAt w5 41 4 (some go) n c (flat4 (opsTo xs n)) ∧ go ≠ sb2 ∧ B ≠ sb2 ∧
          w5.heap[B]? = some (.cells #[.int .i64 kd, .int .i64 rl, .int .i64 nn, .int .i64 wt] 41 (0, 0)))
        case first => as_aux_lemma =>
          by_cases he : T2 / P = T / P
          · have hb : (T2 / P != T / P) = false := by simp [he]
            have HE := Lib.hid he
            clear he
            go_wp2
            go_meet
            exact ⟨sb, sums, _, rfl, rfl, HSQ.out.on T2 t20 HE.out, HSLQ.out, fun h => HASB.out (by rw [h]), HBW.out.2.2.2.2, HBQ.out⟩
          · have hb : (T2 / P != T / P) = true := by simp [he]
            have HE := Lib.hid he
            clear he
            have h1 := HSLQ.out.lt
            have h2 := lt_of_block HBQ.out
            go_wp2
            go_meet
            exact ⟨V.heap.size, List.replicate 4 0, _, rfl, rfl, HSQ.out.fresh T2 t20 HE.out, HSLQ.out.alloc _, by omega, by omega, (heap_alloc_old _ _ h2).trans HBQ.out⟩
        case rest =>
          obtain ⟨sb2, sums2, w5, rfl, rfl, hS2, hsl2, hgs2, hBs2, hb2⟩ := hcut
          have HS := Lib.hid hS2
          have HSL := Lib.hid hsl2
          have hrl : I64 rl := by unfold I64; omega
          have hnn : I64 nn := by unfold I64; omega
          have b0 : w5.cell? ⟨B, 0, none⟩ = some (.int .i64 kd) := by simp [World.cell?, hb2]
          have b1 : w5.cell? ⟨B, 1, none⟩ = some (.int .i64 rl) := by simp [World.cell?, hb2]
          have b2 : w5.cell? ⟨B, 2, none⟩ = some (.int .i64 nn) := by simp [World.cell?, hb2]
          have HRL := Lib.hid hrl
          have HNN := Lib.hid hnn
          clear hS2 hsl2 hb2 HSQ HSLQ HBQ HASB hrl hnn
          go_wp2_with fail
          refine Calls.mono (around_any rl 4 _ (by omega) HRL.out) ?_
          rintro e w4 ⟨rfl, rfl⟩
          obtain ⟨r0, r1⟩ := aroundF_bd rl 4 (by omega)
          generalize aroundF rl 4 = r at *
          go_wp2_with fail
          refine Calls.mono (around_any nn 9 _ (by omega) HNN.out) ?_
          rintro e w4 ⟨rfl, rfl⟩
          obtain ⟨q0', q1'⟩ := aroundF_bd nn 9 (by omega)
          generalize aroundF nn 9 = q at *
          obtain ⟨rn, rfl⟩ := Int.eq_ofNat_of_zero_le r0
          have hrn : rn < 4 := by omega
          clear HRL HNN
          go_upto_if 94 with fail
          go_cut [21] (fun _ wx => ∃ (sums3 : List Int) (mt3 ot3 x3 : Int) (used3 : List Int) (w6 : World), w6 = wx ∧ AState w w6 mb mu ob ou sb2 S P T2 sums3 mt3 ot3 x3 used3 ∧ SliceAt w6 41 4 (some go) n c (flat4 (opsTo xs n)))
          case first => as_aux_lemma =>
            have hsl4 := HS.out.sl
            have hT2 : 0 ≤ T2 := by omega
            have hT3 : T2 ≤ 1000 := by omega
            have hwf := wrongF_in mt used.length rn q T2 (by omega) (by rw [HS.out.ul]; omega) q0' (by omega) hT2 (by omega) HS.out.mle
            have hwo := wrongF_in ot ([x] : List Int).length 0 q T2 (by omega) (by simp) q0' (by omega) hT2 (by omega) HS.out.ole
            have hub := usedAt_bd HS.out.m T2 rn
            rw [HS.out.us] at hub
            have sc := HS.out.si.cellD rn (by omega)
            have sf := HS.out.si.fz rn
            have hss := HS.out.m.shr
            obtain ⟨v, hv⟩ : ∃ v, v = sums2[rn]?.getD 0 := ⟨_, rfl⟩
            rw [← hv] at hub sc
            have HV := Lib.hid hv
            have HWF := Lib.hid hwf
            have HWO := Lib.hid hwo
            have HL4 := Lib.hid hsl4
            obtain ⟨v0, v1⟩ := hub
            clear hv hwf hwo hsl4
            by_cases hkd : kd = 1
            · have hkb : (kd == 1) = true := by simp [hkd]
              clear hkd
              by_cases hq : v < q
              · as_aux_lemma =>
                have hbq := fun w' hm => back_quota mb mu S P mt used rn q T2 w' hm HWF.out (by rw [HS.out.us, Int.toNat_natCast, ← HV.out]; exact hq)
                have HBQ := Lib.hid hbq
                clear hbq
                go_wp2_with fail
                refine Calls.mono (HBQ.out _ HS.out.m) ?_
                rintro e w7 ⟨rfl, k7, rfl⟩
                have hq1 : decide (q ≤ v) = false := by simp; omega
                have hqq : ¬ q ≤ v := by omega
                by_cases hr0 : rn = 0
                · have hr0' : ((rn : Int) == 0) = true := by simp [hr0]
                  have hr0'' : (rn == 0) = true := by simp [hr0]
                  have hbo := fun w' hm => back_quota ob ou S P ot [x] 0 q T2 w' hm HWO.out (by rw [HS.out.xs]; have := HV.out; subst hr0; simp [List.getD_eq_getElem?_getD] at this ⊢; omega)
                  have HBO := Lib.hid hbo
                  clear hbo hr0
                  go_wp2_with fail
                  refine Calls.mono (HBO.out _ (HS.out.o.drewN k7)) ?_
                  rintro e w8 ⟨rfl, k8, rfl⟩
                  go_wp2
                  go_meet
                  exact ⟨sums2, mt, ot, x, used, _, rfl, HS.out.keep ((Keeps.refl [] _).drewN _), HSL.out.drewN _⟩
                · have hr0' : ((rn : Int) == 0) = false := by simp [hr0]
                  have hr0'' : (rn == 0) = false := by simp [hr0]
                  clear hr0
                  go_wp2
                  go_meet
                  exact ⟨sums2, mt, ot, x, used, _, rfl, HS.out.keep ((Keeps.refl [] _).drewN _), HSL.out.drewN _⟩
              · as_aux_lemma =>
                have hqv : q ≤ v := by omega
                have hbk := back_ok mb mu S P mt used rn q T2 _ HS.out.m HWF.out (by rw [HS.out.us, Int.toNat_natCast, ← HV.out]; exact hqv)
                rw [HS.out.us, Int.toNat_natCast, ← HV.out] at hbk
                have HBK := Lib.hid hbk
                clear hbk
                go_wp2_with fail
                refine Calls.mono HBK.out ?_
                rintro e w7 ⟨rfl, hM7, hk7⟩
                have HM7 := Lib.hid hM7
                have HK7 := Lib.hid hk7
                have HO7 := Lib.hid (HS.out.o.keep hk7 (by have := HS.out.dm; simp; omega) (by have := HS.out.dm; simp; omega))
                have HI7 := Lib.hid (HS.out.si.keep hk7 (by have := HS.out.ds; simp; omega))
                have HSL7 := Lib.hid (HSL.out.keep hk7 (by intro g hg; simp at hg; subst hg; have := HGO.out go rfl; simp; omega))
                have s7 := hk7.cell sc (by have := HS.out.ds; simp; omega)
                have z7 := HI7.out.fz rn
                clear hM7 hk7 sc sf
                have hI8 := HI7.out.set rn (v - q)
                have HI8 := Lib.hid hI8
                have HM8 := Lib.hid (HM7.out.keep (S := [sb2]) ((Keeps.refl _ w7).setCell (p := ⟨sb2, rn, none⟩) (by simp) (.int .i64 (v - q))) (by have := HS.out.ds; simp; omega) (by have := HS.out.ds; simp; omega))
                have HO8 := Lib.hid (HO7.out.keep (S := [sb2]) ((Keeps.refl _ w7).setCell (p := ⟨sb2, rn, none⟩) (by simp) (.int .i64 (v - q))) (by have := HS.out.ds; simp; omega) (by have := HS.out.ds; simp; omega))
                have HSL8 := Lib.hid (HSL7.out.keep (S := [sb2]) ((Keeps.refl _ w7).setCell (p := ⟨sb2, rn, none⟩) (by simp) (.int .i64 (v - q))) (by intro g hg; simp at hg; subst hg; simp; exact hgs2))
                have HK8 := Lib.hid (show Keeps [mb, mu, ob, ou, sb2] w5 (w7.setCell ⟨sb2, rn, none⟩ (.int .i64 (v - q))) from (HK7.out.mono (by intro z hz; left; simp at hz ⊢; omega)).setCell (by simp) _)
                clear hI8 HM7 HO7 HI7 HSL7 HK7 HBK
                by_cases hr0 : rn = 0
                · have hr0' : ((rn : Int) == 0) = true := by simp [hr0]
                  have hr0'' : (rn == 0) = true := by simp [hr0]
                  have hx0 : usedAt P ot T2 [x] = [v] := by rw [HS.out.xs]; have := HV.out; subst hr0; rw [this]; simp [List.getD_eq_getElem?_getD]
                  have hbo := fun w' hm => back_ok ob ou S P ot [x] 0 q T2 w' hm HWO.out (by rw [hx0]; simp; omega)
                  rw [hx0] at hbo
                  have HBO := Lib.hid hbo
                  have HR0 := Lib.hid hr0
                  clear hbo hr0 hx0
                  go_wp2_with fail
                  refine Calls.mono (HBO.out _ HO8.out) ?_
                  rintro e w9 ⟨rfl, hO9, hk9⟩
                  have HO9 := Lib.hid (show MeterAt w9 ob ou S P T2 [v - q] from hO9)
                  have HM9 := Lib.hid (HM8.out.keep hk9 (by have := HS.out.dm; simp; omega) (by have := HS.out.dm; simp; omega))
                  have HI9 := Lib.hid (HI8.out.keep hk9 (by have := HS.out.ds; simp; omega))
                  have HSL9 := Lib.hid (HSL8.out.keep hk9 (by intro g hg; simp at hg; subst hg; have := HGO.out go rfl; simp; omega))
                  have HK9 := Lib.hid (HK8.out.after hk9 (by intro z hz; left; simp at hz ⊢; omega))
                  clear hO9 hk9
                  go_wp2
                  go_meet
                  exact ⟨sums2.set rn (v - q), T2, T2, v - q, sums2.set rn (v - q), _, rfl, HS.out.upd rn (v - q) T2 (v - q) HK9.out HM9.out HO9.out (Int.le_refl _) (by rw [usedAt_self, HR0.out, set_zero _ _ (by have := HL4.out; omega)]) HI9.out, HSL9.out⟩
                · have hr0' : ((rn : Int) == 0) = false := by simp [hr0]
                  have hr0'' : (rn == 0) = false := by simp [hr0]
                  have HR0 := Lib.hid hr0
                  clear hr0
                  go_wp2
                  go_meet
                  exact ⟨sums2.set rn (v - q), T2, ot, x, sums2.set rn (v - q), _, rfl, HS.out.upd rn (v - q) ot x HK8.out HM8.out HO8.out HS.out.ole (by rw [set_other _ _ _ HR0.out]; exact HS.out.xs) HI8.out, HSL8.out⟩
            · as_aux_lemma =>
              have hkb : (kd == 1) = false := by simp [hkd]
              clear hkd
              have htk := take_ok mb mu S P mt used rn q T2 _ HS.out.m HWF.out
              rw [HS.out.us, Int.toNat_natCast, ← HV.out] at htk
              obtain ⟨y, hy⟩ : ∃ y, y = min q (S - v) := ⟨_, rfl⟩
              rw [← hy] at htk
              have hy0 : 0 ≤ y := by omega
              have hy1 : y ≤ q := by omega
              have hy2 : v + y ≤ S := by omega
              have hy3 : y < q → v + y = S := by omega
              have HTK := Lib.hid htk
              have HY := Lib.hid hy
              have HY3 := Lib.hid hy3
              clear htk hy hy3
              go_wp2_with fail
              refine Calls.mono HTK.out ?_
              rintro e w7 ⟨rfl, hM7, hk7⟩
              have HM7 := Lib.hid hM7
              have HK7 := Lib.hid hk7
              have HO7 := Lib.hid (HS.out.o.keep hk7 (by have := HS.out.dm; simp; omega) (by have := HS.out.dm; simp; omega))
              have HI7 := Lib.hid (HS.out.si.keep hk7 (by have := HS.out.ds; simp; omega))
              have HSL7 := Lib.hid (HSL.out.keep hk7 (by intro g hg; simp at hg; subst hg; have := HGO.out go rfl; simp; omega))
              have s7 := hk7.cell sc (by have := HS.out.ds; simp; omega)
              have z7 := HI7.out.fz rn
              clear hM7 hk7 sc sf
              have hI8 := HI7.out.set rn (v + y)
              have HI8 := Lib.hid hI8
              have HM8 := Lib.hid (HM7.out.keep (S := [sb2]) ((Keeps.refl _ w7).setCell (p := ⟨sb2, rn, none⟩) (by simp) (.int .i64 (v + y))) (by have := HS.out.ds; simp; omega) (by have := HS.out.ds; simp; omega))
              have HO8 := Lib.hid (HO7.out.keep (S := [sb2]) ((Keeps.refl _ w7).setCell (p := ⟨sb2, rn, none⟩) (by simp) (.int .i64 (v + y))) (by have := HS.out.ds; simp; omega) (by have := HS.out.ds; simp; omega))
              have HSL8 := Lib.hid (HSL7.out.keep (S := [sb2]) ((Keeps.refl _ w7).setCell (p := ⟨sb2, rn, none⟩) (by simp) (.int .i64 (v + y))) (by intro g hg; simp at hg; subst hg; simp; exact hgs2))
              have HK8 := Lib.hid (show Keeps [mb, mu, ob, ou, sb2] w5 (w7.setCell ⟨sb2, rn, none⟩ (.int .i64 (v + y))) from (HK7.out.mono (by intro z hz; left; simp at hz ⊢; omega)).setCell (by simp) _)
              clear hI8 HM7 HO7 HI7 HSL7 HK7 HTK
              have hyq : (y < q ∧ ((v + y) != S) = false) ∨ ¬ y < q := by
                by_cases h : y < q
                · left; exact ⟨h, by simp; exact HY3.out h⟩
                · right; exact h
              rcases hyq with ⟨hyq, hys⟩ | hyq
              all_goals
                by_cases hr0 : rn = 0
                · have hr0' : ((rn : Int) == 0) = true := by simp [hr0]
                  have hr0'' : (rn == 0) = true := by simp [hr0]
                  have hx0 : usedAt P ot T2 [x] = [v] := by rw [HS.out.xs]; have := HV.out; subst hr0; rw [this]; simp [List.getD_eq_getElem?_getD]
                  have hto := fun w' hm => take_ok ob ou S P ot [x] 0 q T2 w' hm HWO.out
                  rw [hx0] at hto
                  simp only [Int.toNat_zero, List.getElem?_cons_zero, Option.getD_some, List.set_cons_zero, ← HY.out] at hto
                  have HTO := Lib.hid hto
                  have HR0 := Lib.hid hr0
                  clear hto hr0 hx0
                  go_wp2_with fail
                  refine Calls.mono (HTO.out _ HO8.out) ?_
                  rintro e w9 ⟨rfl, hO9, hk9⟩
                  have HO9 := Lib.hid hO9
                  have HM9 := Lib.hid (HM8.out.keep hk9 (by have := HS.out.dm; simp; omega) (by have := HS.out.dm; simp; omega))
                  have HI9 := Lib.hid (HI8.out.keep hk9 (by have := HS.out.ds; simp; omega))
                  have HSL9 := Lib.hid (HSL8.out.keep hk9 (by intro g hg; simp at hg; subst hg; have := HGO.out go rfl; simp; omega))
                  have HK9 := Lib.hid (HK8.out.after hk9 (by intro z hz; left; simp at hz ⊢; omega))
                  clear hO9 hk9
                  go_wp2
                  go_meet
                  exact ⟨sums2.set rn (v + y), T2, T2, v + y, sums2.set rn (v + y), _, rfl, HS.out.upd rn (v + y) T2 (v + y) HK9.out HM9.out HO9.out (Int.le_refl _) (by rw [usedAt_self, HR0.out, set_zero _ _ (by have := HL4.out; omega)]) HI9.out, HSL9.out⟩
                · have hr0' : ((rn : Int) == 0) = false := by simp [hr0]
                  have hr0'' : (rn == 0) = false := by simp [hr0]
                  have HR0 := Lib.hid hr0
                  clear hr0
                  go_wp2
                  go_meet
                  exact ⟨sums2.set rn (v + y), T2, ot, x, sums2.set rn (v + y), _, rfl, HS.out.upd rn (v + y) ot x HK8.out HM8.out HO8.out HS.out.ole (by rw [set_other _ _ _ HR0.out]; exact HS.out.xs) HI8.out, HSL8.out⟩
          case rest => as_aux_lemma =>
            obtain ⟨sums3, mt3, ot3, x3, used3, w6, rfl, hS6, hsl6⟩ := hcut
            have HS6 := Lib.hid hS6
            have HSL6 := Lib.hid hsl6
            have hub := usedAt_bd HS6.out.m T2 rn
            rw [HS6.out.us] at hub
            have hsl4 := HS6.out.sl
            have sc := HS6.out.si.cellD rn (by omega)
            have hss := HS6.out.m.shr
            have hlf := fun w' hm => left_ok mb mu S P mt3 used3 rn T2 w' hm (wrongF_in mt3 used3.length rn 0 T2 (by omega) (by rw [HS6.out.ul]; omega) (by omega) (by omega) (by omega) (by omega) HS6.out.mle)
            rw [HS6.out.us, Int.toNat_natCast] at hlf
            obtain ⟨v, hv⟩ : ∃ v, v = sums3[rn]?.getD 0 := ⟨_, rfl⟩
            rw [← hv] at hub sc hlf
            have HLF := Lib.hid hlf
            obtain ⟨v0, v1⟩ := hub
            clear hS6 hsl6 hv hlf HS HSL b0 b1 b2
            go_wp2_with fail
            refine Calls.mono (HLF.out _ HS6.out.m) ?_
            rintro e w7 ⟨rfl, k7, rfl⟩
            go_wp2
            go_roundw
            case rel => exact ⟨k + 1, sb2, T2, sums3, mt3, ot3, x3, used3, by omega, by go_num, rfl, rfl, by omega, HS6.out.keep ((Keeps.refl [] _).drewN k7), HSL6.out.drewN k7, by simp; omega⟩
            case measure => simp [intOf]; omega
    · as_aux_lemma =>
      obtain rfl : k = n := by omega
      go_wp2_with fail
      refine Calls.mono (lives_any _) ?_
      rintro e w4 ⟨rfl, hk4⟩
      have HK4 := Lib.hid (HS.out.kp.trans hk4)
      clear hk4
      go_wp2
      go_ret
      exact ⟨rfl, HK4.out⟩

end Go.Proofs.Ytdpmkbiibmjbfaa
