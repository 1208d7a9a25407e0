/- The law's steps: the reference's steps as those of the package. Conditions: the steps lie in a slice of their own. -/
import Derived.Test.YtgdmkddegcecaaaGreatEnc
namespace Go.Proofs.YtgdmkddegcecaaaGreat
open Go.RowKit

theorem infoRS : (Tryz.prog.info? 39).map (fun i => (i.zero, i.size, i.bytes)) = some (some (.agg #[.int .i64 0, .slice none 0 0]), 2, 32) := by kernel_rfl
theorem infoMS : (Tryz.prog.info? 27).map (fun i => (i.zero, i.size, i.bytes)) = some (some (.agg #[.int .i64 0, .slice none 0 0]), 2, 32) := by kernel_rfl

theorem sizeRS : (Tryz.prog.info? 39).map (·.size) = some 2 := by kernel_rfl

set_option maxHeartbeats 400000 in
theorem step_any (r : Int) (pa : Option Addr) (n pc : Nat) (w : World) :
    Calls Tryz.prog 19 #[.agg #[.int .i64 r, .slice pa n pc]] w fun e w' => e = .returned (.agg #[.int .i64 r, .slice pa n pc]) ∧ Keeps [] w w' := by
  go_enter Tryz.func19, Tryz.ntmps19
  go_wp2
  refine bodyPost_ret (results_cell_row rfl _ _ (w.heap.size + 1) 39 #[.int .i64 r, .slice pa n pc] (0, 0) _ rfl (heap_alloc2_new w _ _) Tryz.underlying39 rfl sizeRS) rfl ?_
  exact ⟨rfl, ((Keeps.refl [] w).alloc _).alloc _⟩

set_option maxRecDepth 100000 in
set_option maxHeartbeats 2000000 in
theorem steps_any (a : Option Nat) (c : Nat) (rows : List SRow) (w : World) (hs : StepsAt w 27 a c rows) (hn : rows.length ≤ 1000) :
    Calls Tryz.prog 6 #[sv a rows.length c] w fun e w' =>
      ∃ a' c', e = .returned (sv a' rows.length c') ∧ StepsAt w' 39 a' c' rows ∧ Keeps [] w w' := by
  obtain ⟨i0, hi, hz0, hz1, hz2⟩ := info_parts infoRS
  have Hi := Lib.hid hi
  have Hz0 := Lib.hid hz0
  have Hz1 := Lib.hid hz1
  have Hz2 := Lib.hid hz2
  have HS := Lib.hid hs
  clear hi hz0 hz1 hz2 hs
  simp only [sv]
  go_enter Tryz.func6, Tryz.ntmps6
  go_wp2
  go_loopw [3, 4] (fun v i wr => ∃ (k : Nat) (a' : Option Nat) (c' : Nat), k ≤ rows.length ∧ i = .int .i64 k ∧ v = sv a' k c' ∧ SliceAt wr 39 2 a' k c' (flatS (rows.take k)) ∧ Keeps [] w wr ∧ (∀ g, a' = some g → w.heap.size ≤ g)) (fun _ i _ => rows.length - (intOf i).toNat)
  case atStart => exact ⟨0, none, 0, Nat.zero_le _, rfl, rfl, SliceAt.nil _ _ _, Keeps.refl _ _, by simp⟩
  case round =>
    obtain ⟨k, a', c', hk, rfl, rfl, hsl, hkp, ha⟩ := hrel
    have HSL := Lib.hid hsl
    have HK := Lib.hid hkp
    have HA := Lib.hid ha
    clear hsl hkp ha
    by_cases hlt : k < rows.length
    · cases a with
      | none => exfalso; have h1 := HS.out.sl.2; have h2 : rows.length = 0 := h1.1; omega
      | some gs =>
      simp only [Option.map_some]
      have hS := HS.out.keep0 HK.out
      obtain ⟨d1, d2⟩ := hS.cells k hlt
      have hft : flatS (rows.take (k + 1)) = flatS (rows.take k) ++ [.int .i64 rows[k].rule, .slice rows[k].pa rows[k].path.length rows[k].pc] := by
        rw [List.take_succ_eq_append_getElem hlt, flatS_append]; rfl
      generalize rows[k] = r at *
      obtain ⟨rl, pa, path, pc⟩ := r
      simp only at d1 d2 hft
      have HFT := Lib.hid hft
      clear hS hft
      go_wp2_with fail
      refine Calls.mono (step_any rl pa path.length pc wr) ?_
      rintro e w2 ⟨rfl, hk2⟩
      have HSL2 := Lib.hid (HSL.out.keep hk2 (by simp))
      have HK2 := Lib.hid (HK.out.trans hk2)
      clear hk2 d1 d2
      go_wp2_with (at_builtin; refine wpList_append_sl rfl (.tmp 11) (.tmp 17) 29 rfl 39 i0 _ 2 32 Tryz.underlying29 Hi.out Hz0.out Hz1.out Hz2.out rfl (by decide) a' k c' _ rfl (HSL2.out.alloc _) ⟨w2.heap.size, 0, none⟩ 1 1 [.int .i64 rl, .slice pa path.length pc] rfl rfl ?hnews ?hone (by decide) (by omega) (by omega) ?hk)
      case hnews => exact news_row' _ _ _ _ rfl
      case hone => intro u hu; simp at hu; rcases hu with rfl | rfl <;> rfl
      case hk =>
        intro g3 c3 w3 hsl3 hk3 hg3
        have hK3 : Keeps [] w w3 := (HK2.out.alloc _).after hk3 (by intro x hx; simp at hx; exact .inr (HA.out x hx))
        have hG3 : w.heap.size ≤ g3 := by
          rcases hg3 with h | h
          · exact HA.out g3 h
          · have := HK2.out.size; omega
        have HSL3 := Lib.hid hsl3
        have HK3 := Lib.hid hK3
        clear hsl3 hk3 hg3 hK3
        go_wp2
        go_roundw
        case rel => exact ⟨k + 1, some g3, c3, by omega, by go_num, rfl, by rw [HFT.out]; exact HSL3.out, HK3.out, by intro z hz; simp at hz; subst hz; exact hG3⟩
        case measure => simp [intOf]; omega
    · obtain rfl : k = rows.length := by omega
      rw [List.take_length] at HSL
      go_wp2
      go_ret
      exact ⟨a', c', rfl, ⟨HSL.out, fun r hr => (HS.out.ints r hr).keep HK.out (by simp)⟩, HK.out⟩

end Go.Proofs.YtgdmkddegcecaaaGreat
