/- rules.Encode: it returns the bytes of its steps, as the reference does. Conditions: the steps lie in a slice of their own. -/
import Derived.Test.YtgdmkddegcecaaaGreatWireRef
namespace Go.Proofs.YtgdmkddegcecaaaGreat
open Go.RowKit

set_option maxRecDepth 100000 in
set_option maxHeartbeats 4000000 in
theorem encode_any (a : Option Nat) (c : Nat) (rows : List SRow) (w : World) (hs : StepsAt w 39 a c rows) (hr : RowsOk rows) :
    Calls Tryz.prog 5 #[sv a rows.length c] w fun e w' =>
      ∃ g c', e = .returned (.slice (some ⟨g, 0, none⟩) (encSteps rows).length c') ∧ BytesAt w' g c' (encSteps rows) ∧ Keeps [] w w' ∧ w.heap.size ≤ g := by
  have HS := Lib.hid hs
  have HR := Lib.hid hr.2
  have hn := hr.1
  clear hs hr
  simp only [sv]
  go_enter Tryz.func5, Tryz.ntmps5
  go_wp2_with fail
  have hW0 : WAt (w.alloc (.cells #[.slice none 0 0] 47)) w.heap.size none 0 [] := ⟨heap_alloc_new _ _, SliceAt.nil _ _ _, by simp⟩
  refine Calls.mono (wint_any w.heap.size none 0 [] rows.length _ hW0 ⟨by omega, by omega⟩ (by simp)) ?_
  rintro e w1 ⟨rfl, a1, c1, hW1, hk1, ha1⟩
  have hk0 : Keeps [] w w1 := ((Keeps.refl [] w).alloc _).after hk1 (by intro x hx; simp at hx; subst hx; exact .inr (Nat.le_refl _))
  have hg0 : ∀ g, a1 = some g → w.heap.size ≤ g := by
    intro g hg
    rcases ha1 with h | ⟨g', h, hg'⟩
    · rw [h] at hg; simp at hg
    · rw [h] at hg; simp at hg; subst hg; simp at hg'; omega
  obtain ⟨B, hB⟩ : ∃ B, B = w.heap.size := ⟨_, rfl⟩
  rw [← hB] at hW1 ⊢
  have hBw : w.heap.size ≤ B := by omega
  have HW1 := Lib.hid hW1
  have HK1 := Lib.hid hk0
  have HA1 := Lib.hid hg0
  clear hW1 hk1 ha1 hk0 hg0 hW0 hB
  go_wp2
  go_loopw [5, 11] (fun _ i wr => ∃ (k : Nat) (a' : Option Nat) (c' : Nat), k ≤ rows.length ∧ i = .int .i64 k ∧ WAt wr B a' c' (vsint rows.length ++ (rows.take k).flatMap encStep) ∧ Keeps [] w wr ∧ (∀ g, a' = some g → w.heap.size ≤ g)) (fun _ i _ => rows.length - (intOf i).toNat)
  case atStart => exact ⟨0, a1, c1, Nat.zero_le _, rfl, by simpa using HW1.out, HK1.out, HA1.out⟩
  case round =>
    obtain ⟨k, a', c', hk, rfl, hW, hkp, ha⟩ := hrel
    have HW := Lib.hid hW
    have HK := Lib.hid hkp
    have HA := Lib.hid ha
    clear hW hkp ha HW1 HK1 HA1
    by_cases hlt : k < rows.length
    · cases a with
      | none => exfalso; have h1 := HS.out.sl.2; have h2 : rows.length = 0 := h1.1; omega
      | some gs =>
      simp only [Option.map_some]
      have hS := HS.out.keep0 HK.out
      obtain ⟨d1, d2⟩ := hS.cells k hlt
      have hrk := HR.out rows[k] (List.getElem_mem hlt)
      have hik := hS.ints rows[k] (List.getElem_mem hlt)
      have hiw := HS.out.ints rows[k] (List.getElem_mem hlt)
      have hft := encs_take rows k hlt
      have hlen : (vsint rows.length ++ (rows.take k).flatMap encStep).length ≤ 20000000 := by
        have h1 := encs_len (rows.take k) (fun x hx => HR.out x (List.mem_of_mem_take hx))
        have h2 := vsint_len (x := rows.length) ⟨by omega, by omega⟩
        rw [List.length_take] at h1
        rw [List.length_append]
        omega
      obtain ⟨r, hre⟩ : ∃ r, r = rows[k] := ⟨_, rfl⟩
      rw [← hre] at d1 d2 hrk hik hft hiw
      obtain ⟨rl, pa, path, pc⟩ := r
      simp only at d1 d2 hrk hik hiw
      obtain ⟨hr1, hr2, hr3⟩ := hrk
      have HFT := Lib.hid hft
      have HIK := Lib.hid hik
      have HIW := Lib.hid hiw
      have HR3 := Lib.hid hr3
      have HLEN := Lib.hid hlen
      clear hS hft hik hr3 hiw hlen hre
      have hV : WAt (wr.alloc (.cells #[.int .i64 rl, .slice pa path.length pc] 39)) B a' c' (vsint rows.length ++ (rows.take k).flatMap encStep) := HW.out.keep ((Keeps.refl [] wr).alloc _) (by simp) (by simp)
      have kV : Keeps [] w (wr.alloc (.cells #[.int .i64 rl, .slice pa path.length pc] 39)) := HK.out.alloc _
      have bV : (wr.alloc (.cells #[.int .i64 rl, .slice pa path.length pc] 39)).heap[wr.heap.size]? = some (.cells #[.int .i64 rl, .slice pa path.length pc] 39 (0, 0)) := heap_alloc_new _ _
      have hVr : wr.heap.size ∉ B :: a'.toList := by
        have h1 := lt_of_block HW.out.cell
        simp only [List.mem_cons, not_or]
        refine ⟨by omega, fun h => ?_⟩
        cases a' with
        | none => simp at h
        | some z => simp at h; have := HW.out.sl.lt; omega
      obtain ⟨pre, hpre⟩ : ∃ pre, pre = vsint rows.length ++ (rows.take k).flatMap encStep := ⟨_, rfl⟩
      rw [← hpre] at hV HLEN
      have HP := Lib.hid hpre
      have HV := Lib.hid hV
      have HKV := Lib.hid kV
      have HBV := Lib.hid bV
      have HVR := Lib.hid hVr
      clear hV kV bV hVr hpre HW HK
      go_wp2_with fail
      refine Calls.mono (wint_any B a' c' pre rl _ HV.out hr1 (by have := HLEN.out; omega)) ?_
      rintro e w2 ⟨rfl, a2, c2, hW2, hk2, ha2⟩
      have hb2 := hk2.heap HBV.out HVR.out
      have hk2' : Keeps [] w w2 := HKV.out.after hk2 (by
        intro x hx
        simp at hx
        rcases hx with rfl | hx
        · exact .inr hBw
        · exact .inr (HA.out x hx))
      have ha2' : ∀ g, a2 = some g → w.heap.size ≤ g := by
        intro g hg
        rcases ha2 with h | ⟨g', h, hg'⟩
        · rw [h] at hg; exact HA.out g hg
        · rw [h] at hg; simp at hg; subst hg; have := HKV.out.size; omega
      have e1 : w2.cell? ⟨wr.heap.size, 1, none⟩ = some (.slice pa path.length pc) := by simp [World.cell?, hb2]
      have hlen2 : (pre ++ vsint rl).length ≤ 30000000 := by have h1 := HLEN.out; have h2 := vsint_len hr1; rw [List.length_append]; omega
      have hd2 : 0 < path.length → ∀ bb, pa = some bb → bb.block ≠ B ∧ a2 ≠ some bb.block := by
        intro h0 bb hbb
        obtain ⟨b0, off, h1, h2⟩ := HIW.out h0
        have h3 := World.block_lt_of_cell? w _ (h2 0 h0)
        rw [hbb] at h1
        simp at h1
        subst h1
        simp only at h3 ⊢
        exact ⟨by omega, fun h => by have := ha2' _ h; omega⟩
      have hi2 := HIW.out.keep hk2' (by simp)
      have HW2 := Lib.hid hW2
      have HK2 := Lib.hid hk2'
      have HA2 := Lib.hid ha2'
      have HLEN2 := Lib.hid hlen2
      have HD2 := Lib.hid hd2
      have HI2 := Lib.hid hi2
      clear hW2 hk2 ha2 hb2 hk2' ha2' hlen2 hd2 hi2 HV HKV HBV HVR
      go_wp2_with fail
      refine Calls.mono (wints_any B a2 c2 _ pa path pc w2 HW2.out HI2.out HR3.out (by omega) (by have := HLEN2.out; omega) HD2.out) ?_
      rintro e w3 ⟨rfl, a3, c3, hW3, hk3, ha3⟩
      have hk3' : Keeps [] w w3 := HK2.out.after hk3 (by
        intro x hx
        simp at hx
        rcases hx with rfl | hx
        · exact .inr hBw
        · exact .inr (HA2.out x hx))
      have ha3' : ∀ g, a3 = some g → w.heap.size ≤ g := by
        intro g hg
        rcases ha3 with h | ⟨g', h, hg'⟩
        · rw [h] at hg; exact HA2.out g hg
        · rw [h] at hg; simp at hg; subst hg; have := HK2.out.size; omega
      have HW3 := Lib.hid hW3
      have HK3 := Lib.hid hk3'
      have HA3 := Lib.hid ha3'
      clear hW3 hk3 ha3 hk3' ha3' e1
      go_wp2
      go_roundw
      case rel => exact ⟨k + 1, a3, c3, by omega, by go_num, by rw [HFT.out, ← List.append_assoc, ← HP.out]; unfold encStep; rw [← List.append_assoc]; exact HW3.out, HK3.out, HA3.out⟩
      case measure => simp [intOf]; omega
    · obtain rfl : k = rows.length := by omega
      have he : encSteps rows = vsint rows.length ++ (rows.take rows.length).flatMap encStep := by rw [List.take_length]; rfl
      rw [← he] at HW
      have hpos : 0 < (encSteps rows).length := by unfold encSteps; rw [List.length_append]; have := vsint_pos rows.length; omega
      have hle : (encSteps rows).length ≤ 20000000 := by
        have h1 := encs_len rows HR.out
        have h2 := vsint_len (x := rows.length) ⟨by omega, by omega⟩
        unfold encSteps
        rw [List.length_append]
        omega
      clear he
      go_wp2_with fail
      refine Calls.mono (wdone_any B a' c' _ wr HW.out hpos (by omega)) ?_
      rintro e w2 ⟨g, c2, rfl, hsl, hk2, hg⟩
      have HSL := Lib.hid hsl
      have HK2 := Lib.hid (HK.out.trans hk2)
      have hg2 : w.heap.size ≤ g := by have := HK.out.size; omega
      clear hsl hk2
      go_wp2
      go_ret
      exact ⟨g, c2, rfl, HSL.out, HK2.out, hg2⟩

end Go.Proofs.YtgdmkddegcecaaaGreat
