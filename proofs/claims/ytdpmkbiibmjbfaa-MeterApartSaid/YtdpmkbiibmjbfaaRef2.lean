/- New, Used and Copy of the reference model rexmillref33.Meter. Conditions: the model is laid in memory as RefAt says. -/
import Derived.Test.YtdpmkbiibmjbfaaRef
namespace Go.Proofs.Ytdpmkbiibmjbfaa
open Go.RowKit

def rnewBad (rules share period : Int) : Prop := rules < 1 ∨ 500 < rules ∨ share < 0 ∨ 1099511627776 < share ∨ period < 1 ∨ 1099511627776 < period
theorem newBad_iff (rules share period : Int) : newBad rules share period = true ↔ rnewBad rules share period := by
  simp only [newBad, rnewBad, outB, Bool.or_eq_true, decide_eq_true_eq]; omega

set_option maxHeartbeats 1000000 in
theorem rnew_bad (rules share period : Int) (w : World) (hb : rnewBad rules share period) :
    Calls Try.prog 20 #[.int .i64 rules, .int .i64 share, .int .i64 period] w fun e w' => e = .returned (.pointer none) ∧ w = w' := by
  have HB := Lib.hid hb
  clear hb
  by_cases h1 : rules < 1
  · go_enter Try.func20, Try.ntmps20
    go_wp2
    go_ret
    exact ⟨rfl, rfl⟩
  by_cases h2 : 500 < rules
  · go_enter Try.func20, Try.ntmps20
    go_wp2
    go_ret
    exact ⟨rfl, rfl⟩
  by_cases h3 : share < 0
  · go_enter Try.func20, Try.ntmps20
    go_wp2
    go_ret
    exact ⟨rfl, rfl⟩
  by_cases h4 : 1099511627776 < share
  · go_enter Try.func20, Try.ntmps20
    go_wp2
    go_ret
    exact ⟨rfl, rfl⟩
  by_cases h5 : period < 1
  · go_enter Try.func20, Try.ntmps20
    go_wp2
    go_ret
    exact ⟨rfl, rfl⟩
  by_cases h6 : 1099511627776 < period
  · go_enter Try.func20, Try.ntmps20
    go_wp2
    go_ret
    exact ⟨rfl, rfl⟩
  · exfalso; have := HB.out; unfold rnewBad at this; omega

set_option maxHeartbeats 1000000 in
theorem rnew_ok (rules share period : Int) (w : World) (hb : ¬ rnewBad rules share period) :
    Calls Try.prog 20 #[.int .i64 rules, .int .i64 share, .int .i64 period] w fun e w' =>
      e = .returned (.pointer (some ⟨w.heap.size, 0, none⟩)) ∧ RefAt w' w.heap.size rules share period 0 none 0 [] ∧ Keeps [] w w' ∧ w.heap.size + 1 ≤ w'.heap.size := by
  obtain ⟨b1, b2, b3, b4, b5, b6⟩ : 1 ≤ rules ∧ rules ≤ 500 ∧ 0 ≤ share ∧ share ≤ 1099511627776 ∧ 1 ≤ period ∧ period ≤ 1099511627776 := by unfold rnewBad at hb; omega
  clear hb
  go_enter Try.func20, Try.ntmps20
  go_wp2
  go_ret
  refine ⟨rfl, ⟨?_, SliceAt.nil _ _ _, by simp, ⟨b1, b2⟩, ⟨b5, b6⟩, ⟨b3, b4⟩, by omega, by simp, by simp⟩, (Keeps.refl _ _).alloc _, by simp⟩
  rw [heap_alloc_new]; simp [sv]

/-- What the reference's Used lists. -/
def refUsed (period tick : Int) (L : List (Int × Int × Int)) (k : Nat) : List Int := (List.range k).map fun (r : Nat) => refAt period (r : Int) tick L
theorem refUsed_succ (period tick : Int) (L : List (Int × Int × Int)) (k : Nat) : refUsed period tick L (k + 1) = refUsed period tick L k ++ [refAt period k tick L] := by simp [refUsed, List.range_succ]
theorem refUsed_length (period tick : Int) (L : List (Int × Int × Int)) (k : Nat) : (refUsed period tick L k).length = k := by simp [refUsed]

set_option maxHeartbeats 1000000 in
theorem rused_any (b : Nat) (rules : Nat) (share period tk : Int) (a : Option Nat) (c : Nat) (L : List (Int × Int × Int)) (w : World) (hR : RefAt w b rules share period tk a c L) :
    Calls Try.prog 23 #[.pointer (some ⟨b, 0, none⟩)] w fun e w' => ∃ a' c', e = .returned (sv a' rules c') ∧
      SliceAt w' 3 1 a' rules c' ((refUsed period tk L rules).map (Value.int .i64)) ∧ Keeps [] w w' ∧ (∀ g, a' = some g → w.heap.size ≤ g) := by
  obtain ⟨i0, hi, hz0, hz1, hz2⟩ := info_parts info3
  have HR := Lib.hid hR
  obtain ⟨t0, t1⟩ := hR.tck
  obtain ⟨r0, r1⟩ := hR.rul
  have c0 := hR.c0
  have c3 := hR.c3
  have Hi := Lib.hid hi
  have Hz0 := Lib.hid hz0
  have Hz1 := Lib.hid hz1
  have Hz2 := Lib.hid hz2
  clear hR hi hz0 hz1 hz2
  go_enter Try.func23, Try.ntmps23
  go_wp2
  go_loopw [3, 4] (fun v i wr => ∃ (k : Nat) (a' : Option Nat) (c' : Nat), k ≤ rules ∧ i = .int .i64 k ∧ v = sv a' k c' ∧ SliceAt wr 3 1 a' k c' ((refUsed period tk L k).map (Value.int .i64)) ∧ Keeps [] w wr ∧ (∀ g, a' = some g → w.heap.size ≤ g)) (fun _ i _ => rules - (intOf i).toNat)
  case atStart => exact ⟨0, none, 0, Nat.zero_le _, rfl, rfl, SliceAt.nil _ _ _, Keeps.refl _ _, by simp⟩
  case round =>
    obtain ⟨k, a', c', hk, rfl, rfl, hsl, hkp, ha⟩ := hrel
    have HRr := Lib.hid (HR.out.keep hkp (by simp) (by simp))
    have d0 := HRr.out.c0
    have d3 := HRr.out.c3
    have HSL := Lib.hid hsl
    have HK := Lib.hid hkp
    have HA := Lib.hid ha
    clear hsl hkp ha c0 c3
    by_cases hlt : k < rules
    · go_wp2_with fail
      refine (at_any b rules share period tk a c L _ _ _ HRr.out t0 t1).mono ?_
      rintro e w1 ⟨rfl, q, rfl⟩
      go_wp2_with (at_builtin; refine wpList_append_sl rfl (.tmp 13) (.tmp 21) 22 rfl 3 i0 _ 1 8 Try.underlying22 Hi.out Hz0.out Hz1.out Hz2.out rfl (by decide) a' k c' _ rfl ((HSL.out.drewN q).alloc _) ⟨wr.heap.size, 0, none⟩ 1 1 [.int .i64 (refAt period k tk L)] rfl rfl ?hnews (int_one _) (by decide) (by omega) (by omega) ?hk)
      case hnews => exact news_row' _ _ _ _ rfl
      case hk =>
        intro g c2 w2 hsl hk2 hg
        have hK2 : Keeps [] w w2 := (((HK.out.drewN q).alloc _).after hk2 (by intro x hx; simp at hx; exact .inr (HA.out x hx)))
        have hG2 : w.heap.size ≤ g := by rcases hg with hg | hg; exact HA.out g hg; have := HK.out.size; omega
        have HSL2 := Lib.hid hsl
        have HK2 := Lib.hid hK2
        clear hsl hk2 hg hK2
        go_wp2
        go_roundw
        case rel => exact ⟨k + 1, some g, c2, by omega, by go_num, rfl, by rw [refUsed_succ, List.map_append]; exact HSL2.out, HK2.out, by intro g' hg'; simp at hg'; omega⟩
        case measure => simp [intOf]; omega
    · obtain rfl : k = rules := by omega
      go_wp2
      go_ret
      exact ⟨a', c', rfl, HSL.out, HK.out, HA.out⟩

end Go.Proofs.Ytdpmkbiibmjbfaa
