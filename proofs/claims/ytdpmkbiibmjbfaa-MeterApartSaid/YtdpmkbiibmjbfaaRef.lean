/- What each method of the reference model rexmillref33.Meter does, said of the blocks that hold it. Conditions: the model is laid in memory as RefAt says. -/
import Derived.Test.YtdpmkbiibmjbfaaMeter
import Derived.Test.YtdpmkbiibmjbfaaSlice
import Derived.Deep.LoopGhost
namespace Go.Proofs.Ytdpmkbiibmjbfaa
open Go.RowKit

def flat3 (L : List (Int × Int × Int)) : List Value := L.flatMap fun x => [.int .i64 x.1, .int .i64 x.2.1, .int .i64 x.2.2]
theorem flat3_length (L : List (Int × Int × Int)) : (flat3 L).length = L.length * 3 := by
  induction L with
  | nil => rfl
  | cons x L ih => simp [flat3] at ih ⊢; omega
theorem flat3_append (L : List (Int × Int × Int)) (x : Int × Int × Int) : flat3 (L ++ [x]) = flat3 L ++ [.int .i64 x.1, .int .i64 x.2.1, .int .i64 x.2.2] := by simp [flat3]
theorem flat3_get (L : List (Int × Int × Int)) : ∀ (k : Nat) (hk : k < L.length), (flat3 L)[k * 3]? = some (.int .i64 L[k].1) ∧ (flat3 L)[k * 3 + 1]? = some (.int .i64 L[k].2.1) ∧ (flat3 L)[k * 3 + 2]? = some (.int .i64 L[k].2.2) := by
  induction L with
  | nil => intro k hk; simp at hk
  | cons x L ih =>
    intro k hk
    have e : flat3 (x :: L) = .int .i64 x.1 :: .int .i64 x.2.1 :: .int .i64 x.2.2 :: flat3 L := by simp [flat3]
    rw [e]
    cases k with
    | zero => simp
    | succ k =>
      have := ih k (by simpa using hk)
      rw [show (k + 1) * 3 = k * 3 + 1 + 1 + 1 from by omega]
      simpa using this

/-- The reference's meter: its own block b, the block of its list. -/
structure RefAt (w : World) (b : Nat) (rules share period tick : Int) (a : Option Nat) (c : Nat) (L : List (Int × Int × Int)) : Prop where
  cells : w.heap[b]? = some (.cells #[.int .i64 rules, .int .i64 share, .int .i64 period, .int .i64 tick, sv a L.length c] 60 (0, 0))
  sl : SliceAt w 61 3 a L.length c (flat3 L)
  ne : a ≠ some b
  rul : 1 ≤ rules ∧ rules ≤ 500
  per : 1 ≤ period ∧ period ≤ 1099511627776
  shr : 0 ≤ share ∧ share ≤ 1099511627776
  tck : 0 ≤ tick ∧ tick ≤ 1099511627776
  len : L.length ≤ 1000
  lb : ∀ x ∈ L, -1099511627776 ≤ x.2.1 ∧ x.2.1 ≤ 1099511627776 ∧ 0 ≤ x.2.2 ∧ x.2.2 ≤ 1099511627776

section
variable {w : World} {b : Nat} {rules share period tick : Int} {a : Option Nat} {c : Nat} {L : List (Int × Int × Int)} (h : RefAt w b rules share period tick a c L)
include h
theorem RefAt.c0 : w.cell? ⟨b, 0, none⟩ = some (.int .i64 rules) := by simp [World.cell?, h.cells]
theorem RefAt.c1 : w.cell? ⟨b, 1, none⟩ = some (.int .i64 share) := by simp [World.cell?, h.cells]
theorem RefAt.c2 : w.cell? ⟨b, 2, none⟩ = some (.int .i64 period) := by simp [World.cell?, h.cells]
theorem RefAt.c3 : w.cell? ⟨b, 3, none⟩ = some (.int .i64 tick) := by simp [World.cell?, h.cells]
theorem RefAt.c4 : w.cell? ⟨b, 4, none⟩ = some (sv a L.length c) := by simp [World.cell?, h.cells]
theorem RefAt.fz (i : Nat) : w.frozen? ⟨b, i, none⟩ = false := by simp [World.frozen?, h.cells]
theorem RefAt.keep {S : List Nat} {w' : World} (k : Keeps S w w') (hb : b ∉ S) (ha : ∀ g, a = some g → g ∉ S) : RefAt w' b rules share period tick a c L :=
  ⟨k.heap h.cells hb, h.sl.keep k ha, h.ne, h.rul, h.per, h.shr, h.tck, h.len, h.lb⟩
theorem RefAt.drewN (n : Nat) : RefAt (w.drewN n) b rules share period tick a c L := h.keep ((Keeps.refl [] _).drewN n) (by simp) (by simp)
end

def refAt (period rule tick : Int) (L : List (Int × Int × Int)) : Int := L.foldl (fun n x => if x.1 = rule ∧ x.2.2 / period = tick / period then n + x.2.1 else n) 0
theorem refAt_snoc (period rule tick : Int) (L : List (Int × Int × Int)) (x : Int × Int × Int) :
    refAt period rule tick (L ++ [x]) = if x.1 = rule ∧ x.2.2 / period = tick / period then refAt period rule tick L + x.2.1 else refAt period rule tick L := by simp [refAt]
theorem refAt_bd (period rule tick : Int) (L : List (Int × Int × Int)) (h : ∀ x ∈ L, -1099511627776 ≤ x.2.1 ∧ x.2.1 ≤ 1099511627776) :
    -1099511627776 * L.length ≤ refAt period rule tick L ∧ refAt period rule tick L ≤ 1099511627776 * L.length := by
  suffices ∀ (n0 : Int), -1099511627776 * L.length ≤ L.foldl (fun n x => if x.1 = rule ∧ x.2.2 / period = tick / period then n + x.2.1 else n) n0 - n0 ∧ L.foldl (fun n x => if x.1 = rule ∧ x.2.2 / period = tick / period then n + x.2.1 else n) n0 - n0 ≤ 1099511627776 * L.length by
    have := this 0; unfold refAt; omega
  induction L with
  | nil => intro n0; simp
  | cons x L ih =>
    intro n0
    have hx := h x (by simp)
    have h2 := ih (fun y hy => h y (by simp [hy]))
    simp only [List.foldl_cons, List.length_cons]
    split
    · have := h2 (n0 + x.2.1); omega
    · have := h2 n0; omega

set_option maxHeartbeats 1000000 in
theorem at_any (b : Nat) (rules share period tk : Int) (a : Option Nat) (c : Nat) (L : List (Int × Int × Int)) (rule tick : Int) (w : World) (hR : RefAt w b rules share period tk a c L) (ht0 : 0 ≤ tick) (ht1 : tick ≤ 1099511627776) :
    Calls Try.prog 36 #[.pointer (some ⟨b, 0, none⟩), .int .i64 rule, .int .i64 tick] w fun e w' => e = .returned (.int .i64 (refAt period rule tick L)) ∧ ∃ n, w' = w.drewN n := by
  have c2 := hR.c2
  have c4 := hR.c4
  have hl := hR.len
  obtain ⟨p0, p1⟩ := hR.per
  have HR := Lib.hid hR
  clear hR
  unfold sv at c4
  go_enter Try.func36, Try.ntmps36
  go_wp2
  go_loopw [7, 8] (fun n i wr => ∃ k : Nat, k ≤ L.length ∧ i = .int .i64 k ∧ n = .int .i64 (refAt period rule tick (L.take k)) ∧ ∃ q, wr = w.drewN q) (fun _ i _ => L.length - (intOf i).toNat)
  case atStart => exact ⟨0, Nat.zero_le _, rfl, rfl, 0, rfl⟩
  case round =>
    obtain ⟨k, hk, rfl, rfl, q, rfl⟩ := hrel
    by_cases hlt : k < L.length
    · have hb1 := refAt_bd period rule tick (L.take k) (fun x hx => ⟨(HR.out.lb x (List.mem_of_mem_take hx)).1, (HR.out.lb x (List.mem_of_mem_take hx)).2.1⟩)
      have hlen : (L.take k).length = k := by simp; omega
      have hsn := refAt_snoc period rule tick (L.take k) L[k]
      rw [← List.take_succ_eq_append_getElem hlt] at hsn
      have HSN := Lib.hid hsn
      obtain ⟨hx1, hx2, hx3, hx4⟩ := HR.out.lb L[k] (by simp)
      have hsl := HR.out.sl
      have hfl := flat3_length L
      obtain ⟨hf1, hf2, hf3⟩ := flat3_get L k hlt
      cases a with
      | none => exfalso; obtain ⟨_, h0, _⟩ := hsl; omega
      | some g =>
        have d0 := hsl.cell (k * 3) (by omega)
        have d1 := hsl.cell (k * 3 + 1) (by omega)
        have d2 := hsl.cell (k * 3 + 2) (by omega)
        rw [List.getElem?_eq_getElem (by omega)] at hf1 hf2 hf3
        simp only [Option.some.injEq] at hf1 hf2 hf3
        rw [hf1] at d0
        rw [hf2] at d1
        rw [hf3] at d2
        rw [hlen] at hb1
        obtain ⟨hb1, hb2⟩ := hb1
        clear hsn hf1 hf2 hf3 hfl hsl hlen
        by_cases hr : L[k].1 = rule
        · have hr' : (L[k].1 == rule) = true := by simp [hr]
          have HRR := Lib.hid hr
          clear hr
          go_wp2
          go_quiet (fail)
          go_wp2
          · have h2 : (L[k].2.2 / period == tick / period) = true := by assumption
            have h3 : L[k].2.2 / period = tick / period := by simpa using h2
            go_roundw
            case rel => exact ⟨k + 1, by omega, by go_num, by rw [HSN.out, if_pos ⟨HRR.out, h3⟩], _, rfl⟩
            case measure => simp [intOf]; omega
          · have h2 : (L[k].2.2 / period == tick / period) = false := by assumption
            have h3 : ¬ L[k].2.2 / period = tick / period := by simpa using h2
            go_roundw
            case rel => exact ⟨k + 1, by omega, by go_num, by rw [HSN.out, if_neg (fun h => h3 h.2)], _, rfl⟩
            case measure => simp [intOf]; omega
        · have hr' : (L[k].1 == rule) = false := by simp [hr]
          have HRR := Lib.hid hr
          clear hr
          go_wp2
          go_quiet (fail)
          go_wp2
          go_roundw
          case rel => exact ⟨k + 1, by omega, by go_num, by rw [HSN.out, if_neg (fun h => HRR.out h.1)], _, rfl⟩
          case measure => simp [intOf]; omega
    · have hkl : k = L.length := by omega
      subst hkl
      go_wp2
      go_ret
      exact ⟨by simp, _, rfl⟩

def checkF (rules tk rule n tick : Int) : Int :=
  if rule < 0 ∨ rules ≤ rule ∨ n < 0 ∨ 1099511627776 < n ∨ tick < 0 ∨ 1099511627776 < tick then 1 else if tick < tk then 16 else 0
theorem checkF_eq (len : Nat) (tk rule n tick : Int) : checkF len tk rule n tick = wrongF tk len rule n tick := by
  unfold checkF wrongF outB
  simp only [← Bool.decide_or, decide_eq_true_eq]
  split
  · rw [if_pos (by omega)]
  · split
    · rename_i h1 h2
      rw [if_neg (by omega)]
    · rename_i h1 h2
      rw [if_neg (by omega)]

set_option maxHeartbeats 1000000 in
theorem check_any (b : Nat) (rules share period tk : Int) (a : Option Nat) (c : Nat) (L : List (Int × Int × Int)) (rule n tick : Int) (w : World) (hR : RefAt w b rules share period tk a c L) :
    Calls Try.prog 37 #[.pointer (some ⟨b, 0, none⟩), .int .i64 rule, .int .i64 n, .int .i64 tick] w fun e w' => e = .returned (.int .i64 (checkF rules tk rule n tick)) ∧ w = w' := by
  have c0 := hR.c0
  have c3 := hR.c3
  clear hR
  obtain ⟨r, hr⟩ : ∃ r, r = checkF rules tk rule n tick := ⟨_, rfl⟩
  rw [← hr]
  have HR := Lib.hid hr
  clear hr
  by_cases h1 : rule < 0
  · have e : r = 1 := by rw [HR.out, checkF, if_pos (by omega)]
    have E := Lib.hid e; clear e
    go_enter Try.func37, Try.ntmps37
    go_wp2
    go_ret
    exact ⟨by rw [E.out]; rfl, rfl⟩
  by_cases h2 : rules ≤ rule
  · have e : r = 1 := by rw [HR.out, checkF, if_pos (by omega)]
    have E := Lib.hid e; clear e
    go_enter Try.func37, Try.ntmps37
    go_wp2
    go_ret
    exact ⟨by rw [E.out]; rfl, rfl⟩
  by_cases h3 : n < 0
  · have e : r = 1 := by rw [HR.out, checkF, if_pos (by omega)]
    have E := Lib.hid e; clear e
    go_enter Try.func37, Try.ntmps37
    go_wp2
    go_ret
    exact ⟨by rw [E.out]; rfl, rfl⟩
  by_cases h4 : 1099511627776 < n
  · have e : r = 1 := by rw [HR.out, checkF, if_pos (by omega)]
    have E := Lib.hid e; clear e
    go_enter Try.func37, Try.ntmps37
    go_wp2
    go_ret
    exact ⟨by rw [E.out]; rfl, rfl⟩
  by_cases h5 : tick < 0
  · have e : r = 1 := by rw [HR.out, checkF, if_pos (by omega)]
    have E := Lib.hid e; clear e
    go_enter Try.func37, Try.ntmps37
    go_wp2
    go_ret
    exact ⟨by rw [E.out]; rfl, rfl⟩
  by_cases h6 : 1099511627776 < tick
  · have e : r = 1 := by rw [HR.out, checkF, if_pos (by omega)]
    have E := Lib.hid e; clear e
    go_enter Try.func37, Try.ntmps37
    go_wp2
    go_ret
    exact ⟨by rw [E.out]; rfl, rfl⟩
  by_cases h7 : tick < tk
  · have e : r = 16 := by rw [HR.out, checkF, if_neg (by omega), if_pos h7]
    have E := Lib.hid e; clear e
    go_enter Try.func37, Try.ntmps37
    go_wp2
    go_ret
    exact ⟨by rw [E.out]; rfl, rfl⟩
  · have e : r = 0 := by rw [HR.out, checkF, if_neg (by omega), if_neg h7]
    have E := Lib.hid e; clear e
    go_enter Try.func37, Try.ntmps37
    go_wp2
    go_ret
    exact ⟨by rw [E.out]; rfl, rfl⟩

theorem info61 : (Try.prog.info? 61).map (fun i => (i.zero, i.size, i.bytes)) = some (some (.agg #[.int .i64 0, .int .i64 0, .int .i64 0]), 3, 24) := by kernel_rfl

theorem three_one (x y z : Int) : ∀ u ∈ [Value.int .i64 x, .int .i64 y, .int .i64 z], u.oneCell' = true := by
  intro u hu; simp at hu; rcases hu with rfl | rfl | rfl <;> rfl

/-- A step of the list: the tick is stored, one triple is appended. -/
theorem RefAt.step {w1 w2 : World} {b : Nat} {rules share period tk : Int} {a : Option Nat} {c : Nat} {L : List (Int × Int × Int)} (h : RefAt w1 b rules share period tk a c L) (rule n tick : Int)
    (ht0 : 0 ≤ tick) (ht1 : tick ≤ 1099511627776) (hl : L.length < 1000) (hn : -1099511627776 ≤ n ∧ n ≤ 1099511627776) {g c' : Nat} {B : List Nat}
    (hb : w2.heap[b]? = some (.cells #[.int .i64 rules, .int .i64 share, .int .i64 period, .int .i64 tick, sv a L.length c] 60 (0, 0))) (hsl : SliceAt w2 61 3 (some g) (L.length + 1) c' (flat3 L ++ [.int .i64 rule, .int .i64 n, .int .i64 tick])) (hg : g ≠ b) (_hB : B = B) :
    RefAt (w2.setCell ⟨b, 4, none⟩ (.slice (some ⟨g, 0, none⟩) (L.length + 1) c')) b rules share period tick (some g) c' (L ++ [(rule, n, tick)]) := by
  refine ⟨?_, ?_, by simpa using hg, h.rul, h.per, h.shr, ⟨ht0, ht1⟩, by simp; omega, ?_⟩
  · rw [heap_setCell_same _ _ _ _ _ _ hb]; simp [sv]
  · rw [flat3_append]
    simp only [List.length_append, List.length_singleton]
    exact hsl.keep ((Keeps.refl [b] w2).setCell (by simp) _) (by intro g' hg'; simp at hg'; simp; omega)
  · intro x hx
    simp at hx
    rcases hx with hx | rfl
    · exact h.lb x hx
    · exact ⟨hn.1, hn.2, ht0, ht1⟩

set_option maxHeartbeats 400000 in
theorem rtake_bad (b : Nat) (rules share period tk : Int) (a : Option Nat) (c : Nat) (L : List (Int × Int × Int)) (rule want tick : Int) (w : World) (hR : RefAt w b rules share period tk a c L) (hw : checkF rules tk rule want tick ≠ 0) :
    Calls Try.prog 24 #[.pointer (some ⟨b, 0, none⟩), .int .i64 rule, .int .i64 want, .int .i64 tick] w fun e w' => e = .returned (.tuple #[.int .i64 0, .int .i64 (checkF rules tk rule want tick)]) ∧ w = w' := by
  have HR := Lib.hid hR
  have hb : (checkF rules tk rule want tick != 0) = true := by simpa using hw
  clear hR hw
  go_enter Try.func24, Try.ntmps24
  go_wp2_with fail
  refine (check_any b rules share period tk a c L _ _ _ _ HR.out).mono ?_
  rintro e w' ⟨rfl, rfl⟩
  go_wp2
  go_ret2
  exact ⟨rfl, rfl⟩

theorem checkF_zero {rules tk rule n tick : Int} (h : checkF rules tk rule n tick = 0) : 0 ≤ rule ∧ rule < rules ∧ 0 ≤ n ∧ n ≤ 1099511627776 ∧ 0 ≤ tick ∧ tick ≤ 1099511627776 ∧ tk ≤ tick := by
  unfold checkF at h
  split at h
  · omega
  · split at h <;> omega

set_option maxHeartbeats 1000000 in
theorem rtake_ok (b : Nat) (rules share period tk : Int) (a : Option Nat) (c : Nat) (L : List (Int × Int × Int)) (rule want tick : Int) (w : World) (hR : RefAt w b rules share period tk a c L) (hw : checkF rules tk rule want tick = 0)
    (hl : L.length < 1000) (x n : Int) (hx : refAt period rule tick L = x) (hx0 : 0 ≤ x) (hx1 : x ≤ share) (hn : min want (share - x) = n) :
    Calls Try.prog 24 #[.pointer (some ⟨b, 0, none⟩), .int .i64 rule, .int .i64 want, .int .i64 tick] w fun e w' =>
      e = .returned (.tuple #[.int .i64 n, .int .i64 0]) ∧
      ∃ a' c', RefAt w' b rules share period tick a' c' (L ++ [(rule, n, tick)]) ∧ Keeps (b :: a.toList) w w' ∧ (a' = a ∨ ∃ g, a' = some g ∧ w.heap.size ≤ g) := by
  obtain ⟨hr0, hr1, hn0, hn1, ht0, ht1, htt⟩ := checkF_zero hw
  obtain ⟨i0, hi, hz0, hz1, hz2⟩ := info_parts info61
  have c1 := hR.c1
  have hbw := lt_of_block hR.cells
  obtain ⟨s0, s1⟩ := hR.shr
  have HR := Lib.hid hR
  have HW := Lib.hid hw
  have HX := Lib.hid hx
  have HN := Lib.hid hn
  have he : (if share - x < want then share - x else want) = n := by rw [← hn]; split <;> omega
  have HE := Lib.hid he
  have c3 := hR.c3
  have c4 := hR.c4
  have f3 := hR.fz 3
  have f4 := hR.fz 4
  clear he
  have Hi := Lib.hid hi
  have Hz0 := Lib.hid hz0
  have Hz1 := Lib.hid hz1
  have Hz2 := Lib.hid hz2
  clear hR hw hx hn hi hz0 hz1 hz2
  go_enter Try.func24, Try.ntmps24
  go_wp2_with fail
  refine (check_any b rules share period tk a c L _ _ _ _ HR.out).mono ?_
  rintro e w' ⟨rfl, rfl⟩
  rw [HW.out]
  go_wp2
  go_quiet ((go_at_call 36; exact Calls.quiet_of (HX.out ▸ at_any b rules share period tk a c L _ _ _ (HR.out.drewN _) ht0 ht1)))
  rw [HE.out]
  go_wp2_with (at_builtin; refine wpList_append_sl rfl (.tmp 39) (.tmp 44) 58 rfl 61 i0 _ 3 24 Try.underlying58 Hi.out Hz0.out Hz1.out Hz2.out rfl (by decide) a L.length c (flat3 L) rfl ?hown ⟨w.heap.size, 0, none⟩ 1 1 [.int .i64 rule, .int .i64 n, .int .i64 tick] rfl rfl ?hnews (three_one _ _ _) (by decide) (by omega) (by omega) ?hk)
  case hown => exact HR.out.sl.keep (((Keeps.refl [b] w).drewN nq).setCell (by simp) _ |>.alloc _) (by intro g hg; have := HR.out.ne; simp; rintro rfl; exact this hg)
  case hnews => exact news_row' _ _ _ _ (by simp [World.setCell])
  case hk =>
    intro g c' w2 hsl hk hg
    have hk1 : Keeps [b] w (((w.drewN nq).setCell ⟨b, 3, none⟩ (.int .i64 tick)).alloc (.cells #[.int .i64 rule, .int .i64 n, .int .i64 tick] 61)) := (((Keeps.refl [b] w).drewN nq).setCell (by simp) _).alloc _
    have hgb : g ≠ b := by rcases hg with hg | hg; (intro e; exact HR.out.ne (by rw [hg, e])); omega
    have hrow : w2.heap[b]? = some (.cells #[.int .i64 rules, .int .i64 share, .int .i64 period, .int .i64 tick, sv a L.length c] 60 (0, 0)) := by
      refine hk.heap ?_ (by intro hm; simp at hm; exact HR.out.ne hm)
      rw [heap_alloc_old _ _ (by simpa [World.setCell] using hbw)]
      rw [heap_setCell_same _ _ _ _ _ _ (HR.out.drewN nq).cells]; rfl
    have d4 : w2.cell? ⟨b, 4, none⟩ = some (sv a L.length c) := by simp [World.cell?, hrow]
    have z4 : w2.frozen? ⟨b, 4, none⟩ = false := by simp [World.frozen?, hrow]
    have hsz := hk.size
    simp [World.setCell] at hsz
    have HS := HR.out.step (w2 := w2) rule n tick ht0 ht1 hl (by have := HN.out; omega) hrow hsl hgb (B := []) rfl
    have HSH := Lib.hid HS
    have HG := Lib.hid hg
    clear HS hg hrow
    go_wp2
    go_ret2
    refine ⟨rfl, some g, c', HSH.out, ?_, ?_⟩
    · refine (Keeps.setCell (hk1.mono (S' := b :: a.toList) (by simp) |>.after hk ?_) (by simp) _)
      intro x hx; left; simp at hx ⊢; right; exact hx
    · rcases HG.out with hg | hg
      · left; exact hg.symm
      · right; exact ⟨g, rfl, by omega⟩

set_option maxHeartbeats 400000 in
theorem rback_bad (b : Nat) (rules share period tk : Int) (a : Option Nat) (c : Nat) (L : List (Int × Int × Int)) (rule want tick : Int) (w : World) (hR : RefAt w b rules share period tk a c L) (hw : checkF rules tk rule want tick ≠ 0) :
    Calls Try.prog 34 #[.pointer (some ⟨b, 0, none⟩), .int .i64 rule, .int .i64 want, .int .i64 tick] w fun e w' => e = .returned (.int .i64 (checkF rules tk rule want tick)) ∧ w = w' := by
  have HR := Lib.hid hR
  have hb : (checkF rules tk rule want tick != 0) = true := by simpa using hw
  clear hR hw
  go_enter Try.func34, Try.ntmps34
  go_wp2_with fail
  refine (check_any b rules share period tk a c L _ _ _ _ HR.out).mono ?_
  rintro e w' ⟨rfl, rfl⟩
  go_wp2
  go_ret
  exact ⟨rfl, rfl⟩

set_option maxHeartbeats 400000 in
theorem rleft_bad (b : Nat) (rules share period tk : Int) (a : Option Nat) (c : Nat) (L : List (Int × Int × Int)) (rule tick : Int) (w : World) (hR : RefAt w b rules share period tk a c L) (hw : checkF rules tk rule 0 tick ≠ 0) :
    Calls Try.prog 35 #[.pointer (some ⟨b, 0, none⟩), .int .i64 rule, .int .i64 tick] w fun e w' => e = .returned (.tuple #[.int .i64 0, .int .i64 (checkF rules tk rule 0 tick)]) ∧ w = w' := by
  have HR := Lib.hid hR
  have hb : (checkF rules tk rule 0 tick != 0) = true := by simpa using hw
  clear hR hw
  go_enter Try.func35, Try.ntmps35
  go_wp2_with fail
  refine (check_any b rules share period tk a c L _ _ _ _ HR.out).mono ?_
  rintro e w' ⟨rfl, rfl⟩
  go_wp2
  go_ret2
  exact ⟨rfl, rfl⟩

set_option maxHeartbeats 400000 in
theorem rback_quota (b : Nat) (rules share period tk : Int) (a : Option Nat) (c : Nat) (L : List (Int × Int × Int)) (rule want tick : Int) (w : World) (hR : RefAt w b rules share period tk a c L) (hw : checkF rules tk rule want tick = 0)
    (x : Int) (hx : refAt period rule tick L = x) (hx0 : x < want) :
    Calls Try.prog 34 #[.pointer (some ⟨b, 0, none⟩), .int .i64 rule, .int .i64 want, .int .i64 tick] w fun e w' => e = .returned (.int .i64 21) ∧ ∃ k, w' = w.drewN k := by
  obtain ⟨hr0, hr1, hn0, hn1, ht0, ht1, htt⟩ := checkF_zero hw
  have HR := Lib.hid hR
  have HW := Lib.hid hw
  have HX := Lib.hid hx
  clear hR hw hx
  go_enter Try.func34, Try.ntmps34
  go_wp2_with fail
  refine (check_any b rules share period tk a c L _ _ _ _ HR.out).mono ?_
  rintro e w' ⟨rfl, rfl⟩
  rw [HW.out]
  go_wp2_with fail
  refine (at_any b rules share period tk a c L _ _ _ HR.out ht0 ht1).mono ?_
  rintro e w1 ⟨rfl, k, rfl⟩
  rw [HX.out]
  go_wp2
  go_ret
  exact ⟨rfl, _, rfl⟩

set_option maxHeartbeats 1000000 in
theorem rback_ok (b : Nat) (rules share period tk : Int) (a : Option Nat) (c : Nat) (L : List (Int × Int × Int)) (rule want tick : Int) (w : World) (hR : RefAt w b rules share period tk a c L) (hw : checkF rules tk rule want tick = 0)
    (hl : L.length < 1000) (x : Int) (hx : refAt period rule tick L = x) (hx0 : want ≤ x) :
    Calls Try.prog 34 #[.pointer (some ⟨b, 0, none⟩), .int .i64 rule, .int .i64 want, .int .i64 tick] w fun e w' =>
      e = .returned (.int .i64 0) ∧
      ∃ a' c', RefAt w' b rules share period tick a' c' (L ++ [(rule, -want, tick)]) ∧ Keeps (b :: a.toList) w w' ∧ (a' = a ∨ ∃ g, a' = some g ∧ w.heap.size ≤ g) := by
  obtain ⟨hr0, hr1, hn0, hn1, ht0, ht1, htt⟩ := checkF_zero hw
  obtain ⟨i0, hi, hz0, hz1, hz2⟩ := info_parts info61
  have c1 := hR.c1
  have hbw := lt_of_block hR.cells
  obtain ⟨s0, s1⟩ := hR.shr
  have HR := Lib.hid hR
  have HW := Lib.hid hw
  have HX := Lib.hid hx
  have c3 := hR.c3
  have c4 := hR.c4
  have f3 := hR.fz 3
  have f4 := hR.fz 4
  have Hi := Lib.hid hi
  have Hz0 := Lib.hid hz0
  have Hz1 := Lib.hid hz1
  have Hz2 := Lib.hid hz2
  clear hR hw hx hi hz0 hz1 hz2
  go_enter Try.func34, Try.ntmps34
  go_wp2_with fail
  refine (check_any b rules share period tk a c L _ _ _ _ HR.out).mono ?_
  rintro e w' ⟨rfl, rfl⟩
  rw [HW.out]
  go_wp2_with fail
  refine (at_any b rules share period tk a c L _ _ _ HR.out ht0 ht1).mono ?_
  rintro e w1 ⟨rfl, nq, rfl⟩
  rw [HX.out]
  go_wp2_with (at_builtin; refine wpList_append_sl rfl (.tmp 32) (.tmp 38) 58 rfl 61 i0 _ 3 24 Try.underlying58 Hi.out Hz0.out Hz1.out Hz2.out rfl (by decide) a L.length c (flat3 L) rfl ?hown ⟨w.heap.size, 0, none⟩ 1 1 [.int .i64 rule, .int .i64 (-want), .int .i64 tick] rfl rfl ?hnews (three_one _ _ _) (by decide) (by omega) (by omega) ?hk)
  case hown => exact HR.out.sl.keep (((Keeps.refl [b] w).drewN nq).setCell (by simp) _ |>.alloc _) (by intro g hg; have := HR.out.ne; simp; rintro rfl; exact this hg)
  case hnews => exact news_row' _ _ _ _ (by simp [World.setCell])
  case hk =>
    intro g c' w2 hsl hk hg
    have hk1 : Keeps [b] w (((w.drewN nq).setCell ⟨b, 3, none⟩ (.int .i64 tick)).alloc (.cells #[.int .i64 rule, .int .i64 (-want), .int .i64 tick] 61)) := (((Keeps.refl [b] w).drewN nq).setCell (by simp) _).alloc _
    have hgb : g ≠ b := by rcases hg with hg | hg; (intro e; exact HR.out.ne (by rw [hg, e])); omega
    have hrow : w2.heap[b]? = some (.cells #[.int .i64 rules, .int .i64 share, .int .i64 period, .int .i64 tick, sv a L.length c] 60 (0, 0)) := by
      refine hk.heap ?_ (by intro hm; simp at hm; exact HR.out.ne hm)
      rw [heap_alloc_old _ _ (by simpa [World.setCell] using hbw)]
      rw [heap_setCell_same _ _ _ _ _ _ (HR.out.drewN nq).cells]; rfl
    have d4 : w2.cell? ⟨b, 4, none⟩ = some (sv a L.length c) := by simp [World.cell?, hrow]
    have z4 : w2.frozen? ⟨b, 4, none⟩ = false := by simp [World.frozen?, hrow]
    have hsz := hk.size
    simp [World.setCell] at hsz
    have HS := HR.out.step (w2 := w2) rule (-want) tick ht0 ht1 hl (by omega) hrow hsl hgb (B := []) rfl
    have HSH := Lib.hid HS
    have HG := Lib.hid hg
    clear HS hg hrow
    go_wp2
    go_ret
    refine ⟨rfl, some g, c', HSH.out, ?_, ?_⟩
    · refine (Keeps.setCell (hk1.mono (S' := b :: a.toList) (by simp) |>.after hk ?_) (by simp) _)
      intro x hx; left; simp at hx ⊢; right; exact hx
    · rcases HG.out with hg | hg
      · left; exact hg.symm
      · right; exact ⟨g, rfl, by omega⟩


set_option maxHeartbeats 400000 in
theorem rleft_ok (b : Nat) (rules share period tk : Int) (a : Option Nat) (c : Nat) (L : List (Int × Int × Int)) (rule tick : Int) (w : World) (hR : RefAt w b rules share period tk a c L) (hw : checkF rules tk rule 0 tick = 0)
    (x : Int) (hx : refAt period rule tick L = x) (hx0 : 0 ≤ x) (hx1 : x ≤ share) :
    Calls Try.prog 35 #[.pointer (some ⟨b, 0, none⟩), .int .i64 rule, .int .i64 tick] w fun e w' => e = .returned (.tuple #[.int .i64 (share - x), .int .i64 0]) ∧ ∃ k, w' = w.drewN k := by
  obtain ⟨hr0, hr1, hn0, hn1, ht0, ht1, htt⟩ := checkF_zero hw
  have c1 := hR.c1
  obtain ⟨s0, s1⟩ := hR.shr
  have HR := Lib.hid hR
  have HW := Lib.hid hw
  have HX := Lib.hid hx
  clear hR hw hx
  go_enter Try.func35, Try.ntmps35
  go_wp2_with fail
  refine (check_any b rules share period tk a c L _ _ _ _ HR.out).mono ?_
  rintro e w' ⟨rfl, rfl⟩
  rw [HW.out]
  go_wp2
  go_quiet ((go_at_call 36; exact Calls.quiet_of (HX.out ▸ at_any b rules share period tk a c L _ _ _ (HR.out.drewN _) ht0 ht1)))
  go_wp2
  go_ret2
  exact ⟨rfl, _, rfl⟩


end Go.Proofs.Ytdpmkbiibmjbfaa
