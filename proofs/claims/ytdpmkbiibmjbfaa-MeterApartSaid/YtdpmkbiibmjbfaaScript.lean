/- rexmillref33.Script: a row of operations, made from numbers. Conditions: the numbers lie in memory and are int64. -/
import Derived.Test.YtdpmkbiibmjbfaaOps
import Derived.Test.YtdpmkbiibmjbfaaRow
namespace Go.Proofs.Ytdpmkbiibmjbfaa
open Go.RowKit

/-- The operation that two numbers make. -/
def mkOp (x y : Int) : Int × Int × Int × Int :=
  let n := aroundF x 1048576
  let m := aroundF y 1048576
  (n % 3, (if n % 31 = 0 then n / 31 % 7 - 1 else n / 3 % 4), (if m % 41 = 0 then ([-1, 1099511627776, 1099511627777] : List Int).getD (m / 41 % 3).toNat 0 else m % 9), (if m % 37 = 0 then -1 else m / 9 % 5))
/-- The operations after k rounds. -/
def opsTo (xs : List Int) (k : Nat) : List (Int × Int × Int × Int) := (List.range k).map fun j => mkOp (xs.getD (2 * j) 0) (xs.getD (2 * j + 1) 0)
theorem opsTo_succ (xs : List Int) (k : Nat) : opsTo xs (k + 1) = opsTo xs k ++ [mkOp (xs.getD (2 * k) 0) (xs.getD (2 * k + 1) 0)] := by simp [opsTo, List.range_succ]
theorem opsTo_length (xs : List Int) (k : Nat) : (opsTo xs k).length = k := by simp [opsTo]
theorem info41 : (Try.prog.info? 41).map (fun i => (i.zero, i.size, i.bytes)) = some (some (.agg #[.int .i64 0, .int .i64 0, .int .i64 0, .int .i64 0]), 4, 32) := by kernel_rfl
theorem op4_one (x : Int × Int × Int × Int) : ∀ u ∈ op4 x, u.oneCell' = true := by
  intro u hu; simp [op4] at hu; rcases hu with rfl | rfl | rfl | rfl <;> rfl

/-- What Script leaves. -/
def ScriptPost (xs : List Int) (most : Nat) (w : World) (e : Ending) (w' : World) : Prop :=
  ∃ (n : Nat) (a : Option Nat) (c : Nat), n ≤ most ∧ e = .returned (sv a n c) ∧ SliceAt w' 41 4 a n c (flat4 (opsTo xs n)) ∧ Keeps [] w w' ∧ (∀ g, a = some g → w.heap.size ≤ g)

set_option maxRecDepth 100000 in
set_option maxHeartbeats 4000000 in
theorem script_any (most : Nat) (ao : Option Addr) (cc : Nat) (xs : List Int) (w : World) (hm : most ≤ 1000) (hx : IntsIn w ao xs) (hxb : ∀ x ∈ xs, I64 x) (hxl : xs.length ≤ 9223372036854775807) :
    Calls Try.prog 17 #[.slice ao xs.length cc, .int .i64 most] w (ScriptPost xs most w) := by
  obtain ⟨i0, hi, hz0, hz1, hz2⟩ := info_parts info41
  have HX := Lib.hid hx
  have HXB := Lib.hid hxb
  have Hi := Lib.hid hi
  have Hz0 := Lib.hid hz0
  have Hz1 := Lib.hid hz1
  have Hz2 := Lib.hid hz2
  clear hx hxb hi hz0 hz1 hz2
  go_enter Try.func17, Try.ntmps17
  go_wp2
  go_loopw [5, 6] (fun v i wr => ∃ (k : Nat) (a : Option Nat) (c : Nat), k ≤ most ∧ i = .int .i64 (2 * (k : Int)) ∧ v = sv a k c ∧ SliceAt wr 41 4 a k c (flat4 (opsTo xs k)) ∧ Keeps [] w wr ∧ (∀ g, a = some g → w.heap.size ≤ g)) (fun _ i _ => 2 * most - (intOf i).toNat)
  case atStart => exact ⟨0, none, 0, Nat.zero_le _, rfl, rfl, SliceAt.nil _ _ _, Keeps.refl _ _, by simp⟩
  case round =>
    obtain ⟨k, a, c, hk, rfl, rfl, hsl, hkp, ha⟩ := hrel
    have HSL := Lib.hid hsl
    have HK := Lib.hid hkp
    have HA := Lib.hid ha
    clear hsl hkp ha
    simp only [sv]
    by_cases h1 : 2 * k + 1 < xs.length
    · by_cases h2 : k < most
      · obtain ⟨b, off, rfl, hcx⟩ := HX.out (by omega)
        have dx := HK.out.cell (hcx (2 * k) (by omega)) (by simp)
        have dy := HK.out.cell (hcx (2 * k + 1) h1) (by simp)
        have hbx := HXB.out (xs.getD (2 * k) 0) (by rw [List.getD_eq_getElem?_getD, List.getElem?_eq_getElem (by omega)]; simp)
        have hby := HXB.out (xs.getD (2 * k + 1) 0) (by rw [List.getD_eq_getElem?_getD, List.getElem?_eq_getElem h1]; simp)
        have hos := opsTo_succ xs k
        obtain ⟨x, hx⟩ : ∃ x, x = xs.getD (2 * k) 0 := ⟨_, rfl⟩
        obtain ⟨y, hy⟩ : ∃ y, y = xs.getD (2 * k + 1) 0 := ⟨_, rfl⟩
        rw [← hx] at dx hbx hos
        rw [← hy] at dy hby hos
        have HOS := Lib.hid hos
        clear hx hy hos hcx
        have h2' : (k : Int) < (most : Int) := by omega
        have h1' : 2 * (k : Int) + 1 < (xs.length : Int) := by omega
        go_wp2_with fail
        refine Calls.mono (around_any x 1048576 _ (by omega) hbx) ?_
        rintro e w1 ⟨rfl, rfl⟩
        go_wp2_with fail
        refine Calls.mono (around_any y 1048576 _ (by omega) hby) ?_
        rintro e w1 ⟨rfl, rfl⟩
        obtain ⟨n0, n1⟩ := aroundF_bd x 1048576 (by omega)
        obtain ⟨m0, m1⟩ := aroundF_bd y 1048576 (by omega)
        obtain ⟨n, hn⟩ : ∃ n, n = aroundF x 1048576 := ⟨_, rfl⟩
        obtain ⟨m, hm⟩ : ∃ m, m = aroundF y 1048576 := ⟨_, rfl⟩
        rw [← hn] at n0 n1 ⊢
        rw [← hm] at m0 m1 ⊢
        have HN := Lib.hid hn
        have HM := Lib.hid hm
        clear hn hm dx dy
        have hA : (n % 31 == 0) = true ∨ (n % 31 == 0) = false := by cases (n % 31 == 0) <;> simp
        have hB : (m % 37 == 0) = true ∨ (m % 37 == 0) = false := by cases (m % 37 == 0) <;> simp
        have hC : (m % 41 == 0) = false ∨ ((m % 41 == 0) = true ∧ m / 41 % 3 = 0) ∨ ((m % 41 == 0) = true ∧ m / 41 % 3 = 1) ∨ ((m % 41 == 0) = true ∧ m / 41 % 3 = 2) := by
          cases (m % 41 == 0)
          · simp
          · simp; omega
        rcases hA with hA | hA <;> rcases hB with hB | hB <;> rcases hC with hC | ⟨hC, hD⟩ | ⟨hC, hD⟩ | ⟨hC, hD⟩
        all_goals
          have hop : op4 (mkOp x y) = op4 (mkOp x y) := rfl
          conv at hop => rhs; simp only [op4, mkOp, ← HN.out, ← HM.out]
          have a1 := beq_iff_eq (a := n % 31) (b := 0)
          have a2 := beq_iff_eq (a := m % 37) (b := 0)
          have a3 := beq_iff_eq (a := m % 41) (b := 0)
          simp only [hA, hB, hC, true_iff, Bool.false_eq_true, false_iff] at a1 a2 a3
          simp only [a1, a2, a3, if_true, if_false] at hop
          try simp only [hD] at hop
          try simp at hop
          have HOP := Lib.hid hop
          clear hop a1 a2 a3
        all_goals
          go_wp2_with (at_builtin; refine wpList_append_sl rfl (.tmp 67) (.tmp 69) 38 rfl 41 i0 _ 4 32 Try.underlying38 Hi.out Hz0.out Hz1.out Hz2.out rfl (by decide) a k c (flat4 (opsTo xs k)) rfl (by exact HSL.out.keep (S := [wr.heap.size]) (by repeat (first | exact Keeps.refl _ _ | refine Keeps.alloc ?_ _ | refine Keeps.setCell ?_ (by simp) _)) (by intro g hg; subst hg; have := HSL.out.lt; simp; omega)) ⟨_, 0, none⟩ 1 1 (op4 (mkOp x y)) rfl rfl (by rw [HOP.out]; exact news_row' _ _ _ _ (by simp)) (op4_one _) (by decide) (by omega) (by omega) ?_)
          intro g c' w2 hsl hk2 hg
          have hK2 : Keeps [] w w2 := by
            refine Keeps.after ?_ hk2 (by intro x hx; simp at hx; exact .inr (HA.out x hx))
            repeat (first | exact HK.out | refine Keeps.alloc ?_ _)
          have hG2 : w.heap.size ≤ g := by rcases hg with hg | hg; exact HA.out g hg; have := HK.out.size; omega
          have HSL2 := Lib.hid hsl
          have HK2 := Lib.hid hK2
          clear hsl hk2 hg hK2
          go_wp2
          go_roundw
          case rel => exact ⟨k + 1, some g, c', by omega, by go_num, rfl, by rw [HOS.out, flat4_append]; simp only [flat4, List.flatMap_cons, List.flatMap_nil, List.append_nil]; exact HSL2.out, HK2.out, by intro g' hg'; simp at hg'; omega⟩
          case measure => simp [intOf]; omega
      · obtain rfl : k = most := by omega
        have h1' : 2 * (k : Int) + 1 < (xs.length : Int) := by omega
        go_wp2
        go_ret
        exact ⟨k, a, c, Nat.le_refl _, rfl, HSL.out, HK.out, HA.out⟩
    · have h1' : ¬ 2 * (k : Int) + 1 < (xs.length : Int) := by omega
      go_wp2
      go_ret
      exact ⟨k, a, c, hk, rfl, HSL.out, HK.out, HA.out⟩

end Go.Proofs.Ytdpmkbiibmjbfaa
