/- wire.Reader: octet, Uint, Int. Conditions: the reader lies in memory as RAt says. -/
import Derived.Test.YtgdmkddegcecaaaGreatWire
import Derived.Lib.VarintBits
namespace Go.Proofs.YtgdmkddegcecaaaGreat
open Go.RowKit

/-- A reader at block b, over the bytes bs at block g, at a place, with its error. -/
structure RAt (w : World) (b g c : Nat) (bs : List Int) (at_ : Nat) (wrong : Int) : Prop where
  cell : w.heap[b]? = some (.cells #[.slice (some ⟨g, 0, none⟩) bs.length c, .int .i64 at_, .int .i64 wrong] 55 (0, 0))
  rd : ∀ j, j < bs.length → w.cell? ⟨g, j, none⟩ = some (.int .u8 (bs.getD j 0))
  ne : g ≠ b
  le : at_ ≤ bs.length
  by_ : ∀ x ∈ bs, 0 ≤ x ∧ x ≤ 255
  len : bs.length ≤ 1000000
  gl : g < w.heap.size
theorem RAt.c0 {w : World} {b g c : Nat} {bs : List Int} {at_ : Nat} {wrong : Int} (h : RAt w b g c bs at_ wrong) : w.cell? ⟨b, 0, none⟩ = some (.slice (some ⟨g, 0, none⟩) bs.length c) := by simp [World.cell?, h.cell]
theorem RAt.c1 {w : World} {b g c : Nat} {bs : List Int} {at_ : Nat} {wrong : Int} (h : RAt w b g c bs at_ wrong) : w.cell? ⟨b, 1, none⟩ = some (.int .i64 at_) := by simp [World.cell?, h.cell]
theorem RAt.c2 {w : World} {b g c : Nat} {bs : List Int} {at_ : Nat} {wrong : Int} (h : RAt w b g c bs at_ wrong) : w.cell? ⟨b, 2, none⟩ = some (.int .i64 wrong) := by simp [World.cell?, h.cell]
theorem RAt.fz {w : World} {b g c : Nat} {bs : List Int} {at_ : Nat} {wrong : Int} (h : RAt w b g c bs at_ wrong) (i : Nat) : w.frozen? ⟨b, i, none⟩ = false := by simp [World.frozen?, h.cell]
theorem RAt.drewN {w : World} {b g c : Nat} {bs : List Int} {at_ : Nat} {wrong : Int} (h : RAt w b g c bs at_ wrong) (n : Nat) : RAt (w.drewN n) b g c bs at_ wrong := ⟨h.cell, h.rd, h.ne, h.le, h.by_, h.len, h.gl⟩
theorem RAt.keep {S : List Nat} {w w' : World} {b g c : Nat} {bs : List Int} {at_ : Nat} {wrong : Int} (h : RAt w b g c bs at_ wrong) (k : Keeps S w w') (hb : b ∉ S) (hg : g ∉ S) : RAt w' b g c bs at_ wrong :=
  ⟨k.heap h.cell hb, fun j hj => k.cell (h.rd j hj) hg, h.ne, h.le, h.by_, h.len, Nat.lt_of_lt_of_le h.gl k.size⟩
theorem RAt.setWrong {w : World} {b g c : Nat} {bs : List Int} {at_ : Nat} {wrong : Int} (h : RAt w b g c bs at_ wrong) (e : Int) : RAt (w.setCell ⟨b, 2, none⟩ (.int .i64 e)) b g c bs at_ e := by
  refine ⟨?_, fun j hj => ((Keeps.refl [b] w).setCell (.inl (by simp)) _).cell (h.rd j hj) (by simpa using h.ne), h.ne, h.le, h.by_, h.len, by simpa using h.gl⟩
  have := heap_setCell_same w b 2 _ _ (.int .i64 e) h.cell
  simpa using this
theorem RAt.setAt {w : World} {b g c : Nat} {bs : List Int} {at_ : Nat} {wrong : Int} (h : RAt w b g c bs at_ wrong) (k : Nat) (hk : k ≤ bs.length) : RAt (w.setCell ⟨b, 1, none⟩ (.int .i64 k)) b g c bs k wrong := by
  refine ⟨?_, fun j hj => ((Keeps.refl [b] w).setCell (.inl (by simp)) _).cell (h.rd j hj) (by simpa using h.ne), h.ne, hk, h.by_, h.len, by simpa using h.gl⟩
  have := heap_setCell_same w b 1 _ _ (.int .i64 k) h.cell
  simpa using this

set_option maxRecDepth 100000 in
set_option maxHeartbeats 1000000 in
theorem octet_bad (b g c : Nat) (bs : List Int) (at_ : Nat) (wrong : Int) (w : World) (hR : RAt w b g c bs at_ wrong) (hw : wrong ≠ 0) :
    Calls Tryz.prog 35 #[.pointer (some ⟨b, 0, none⟩)] w fun e w' => e = .returned (.int .u8 0) ∧ w = w' := by
  have d2 := hR.c2
  have hb : (wrong != 0) = true := by simp [hw]
  clear hR hw
  go_enter Tryz.func35, Tryz.ntmps35
  go_wp2
  go_ret
  exact ⟨rfl, rfl⟩

set_option maxRecDepth 100000 in
set_option maxHeartbeats 1000000 in
theorem octet_end (b g c : Nat) (bs : List Int) (w : World) (hR : RAt w b g c bs bs.length 0) :
    Calls Tryz.prog 35 #[.pointer (some ⟨b, 0, none⟩)] w fun e w' => e = .returned (.int .u8 0) ∧ RAt w' b g c bs bs.length 3 ∧ Keeps [b] w w' := by
  have d0 := hR.c0
  have d1 := hR.c1
  have d2 := hR.c2
  have f2 := hR.fz 2
  have HR := Lib.hid hR
  clear hR
  go_enter Tryz.func35, Tryz.ntmps35
  go_wp2
  go_quiet (fail)
  have HRq := Lib.hid (HR.out.drewN nq)
  have HKq := Lib.hid ((Keeps.refl [b] w).drewN nq)
  have e2 : (w.drewN nq).cell? ⟨b, 2, none⟩ = some (.int .i64 0) := d2
  have g2 : (w.drewN nq).frozen? ⟨b, 2, none⟩ = false := f2
  generalize w.drewN nq = W at *
  clear d0 d1 d2 f2
  go_wp2
  go_ret
  exact ⟨rfl, HRq.out.setWrong 3, HKq.out.setCell (.inl (by simp)) _⟩

set_option maxRecDepth 100000 in
set_option maxHeartbeats 1000000 in
theorem octet_ok (b g c : Nat) (bs : List Int) (at_ : Nat) (w : World) (hR : RAt w b g c bs at_ 0) (hlt : at_ < bs.length) :
    Calls Tryz.prog 35 #[.pointer (some ⟨b, 0, none⟩)] w fun e w' => e = .returned (.int .u8 (bs.getD at_ 0)) ∧ RAt w' b g c bs (at_ + 1) 0 ∧ Keeps [b] w w' := by
  have d0 := hR.c0
  have d1 := hR.c1
  have d2 := hR.c2
  have f1 := hR.fz 1
  have hl := hR.len
  have hlt2 : ¬ (bs.length : Int) ≤ (at_ : Int) := by omega
  have HR := Lib.hid hR
  clear hR
  go_enter Tryz.func35, Tryz.ntmps35
  go_wp2
  go_quiet (fail)
  have HRq := Lib.hid (HR.out.drewN nq)
  have HKq := Lib.hid ((Keeps.refl [b] w).drewN nq)
  have e1 : (w.drewN nq).cell? ⟨b, 1, none⟩ = some (.int .i64 at_) := d1
  have g1 : (w.drewN nq).frozen? ⟨b, 1, none⟩ = false := f1
  generalize w.drewN nq = W at *
  clear d0 d1 d2 f1
  go_wp2
  have hR2 := HRq.out.setAt (at_ + 1) (by omega)
  have hK2 := HKq.out.setCell (p := ⟨b, 1, none⟩) (.inl (by simp)) (.int .i64 ((at_ + 1 : Nat) : Int))
  rw [show ((at_ + 1 : Nat) : Int) = (at_ : Int) + 1 by omega] at hR2 hK2
  generalize W.setCell ⟨b, 1, none⟩ (.int .i64 ((at_ : Int) + 1)) = X at *
  have x0 := hR2.c0
  have x1 : X.cell? ⟨b, 1, none⟩ = some (.int .i64 ((at_ : Int) + 1)) := by have := hR2.c1; rw [show ((at_ + 1 : Nat) : Int) = (at_ : Int) + 1 by omega] at this; exact this
  have xr := hR2.rd at_ hlt
  have HR2 := Lib.hid hR2
  have HK2 := Lib.hid hK2
  obtain ⟨v, hv⟩ : ∃ v, v = bs.getD at_ 0 := ⟨_, rfl⟩
  rw [← hv] at xr
  have HVV := Lib.hid hv
  clear hR2 hK2 e1 g1 hv
  go_quiet (fail)
  go_wp2
  go_ret
  exact ⟨by rw [← HVV.out]; rfl, HR2.out.drewN _, HK2.out.drewN _⟩

/-- Reading an unsigned number: its value, how many bytes it takes, the error. -/
def rdU : Nat → List Int → Nat × Nat × Int
  | _, [] => (0, 0, 3)
  | i, b :: l =>
    if (i = 9 ∧ 1 < b) ∨ (0 < i ∧ b = 0) then (0, 1, 2) else if b < 128 then (b.toNat, 1, 0)
    else if (rdU (i + 1) l).2.2 = 0 then ((b - 128).toNat + 128 * (rdU (i + 1) l).1, (rdU (i + 1) l).2.1 + 1, 0) else (0, (rdU (i + 1) l).2.1 + 1, (rdU (i + 1) l).2.2)
theorem rdU_err : ∀ (l : List Int) (i : Nat), (rdU i l).2.2 ≠ 0 → (rdU i l).1 = 0 := by
  intro l
  cases l with
  | nil => intro i _; rfl
  | cons b l =>
    intro i h
    rw [rdU] at h ⊢
    by_cases h1 : (i = 9 ∧ 1 < b) ∨ (0 < i ∧ b = 0)
    · rw [if_pos h1]
    · rw [if_neg h1] at h ⊢
      by_cases h2 : b < 128
      · rw [if_pos h2] at h; exact absurd rfl h
      · rw [if_neg h2] at h ⊢
        by_cases h3 : (rdU (i + 1) l).2.2 = 0
        · rw [if_pos h3] at h; exact absurd rfl h
        · rw [if_neg h3]
theorem rdU_form (r : Nat × Nat × Int) (h : r.2.2 ≠ 0 → r.1 = 0) : r = if r.2.2 = 0 then (0 + 128 ^ 0 * r.1, 0 + r.2.1, 0) else (0, 0 + r.2.1, r.2.2) := by
  obtain ⟨a, b, c⟩ := r
  by_cases hc : c = 0
  · subst hc; simp
  · simp only at h ⊢
    rw [if_neg hc, h hc]
    simp
theorem rdU_go (k acc : Nat) (v : Int) (rest : List Int) (hv : ¬ v < 128) (hv2 : v ≤ 255) (hbad : ¬ ((k = 9 ∧ 1 < v) ∨ (0 < k ∧ v = 0))) :
    (if (rdU k (v :: rest)).2.2 = 0 then (acc + 128 ^ k * (rdU k (v :: rest)).1, k + (rdU k (v :: rest)).2.1, 0) else (0, k + (rdU k (v :: rest)).2.1, (rdU k (v :: rest)).2.2) : Nat × Nat × Int) =
    if (rdU (k + 1) rest).2.2 = 0 then (acc + 128 ^ k * (v.toNat % 128) + 128 ^ (k + 1) * (rdU (k + 1) rest).1, k + 1 + (rdU (k + 1) rest).2.1, 0) else (0, k + 1 + (rdU (k + 1) rest).2.1, (rdU (k + 1) rest).2.2) := by
  rw [rdU, if_neg hbad, if_neg hv]
  by_cases h3 : (rdU (k + 1) rest).2.2 = 0
  · rw [if_pos h3, if_pos h3]
    simp only [if_true]
    have e1 : (v - 128).toNat = v.toNat % 128 := by omega
    rw [e1, Nat.mul_add, Nat.pow_succ, ← Nat.mul_assoc, ← Nat.add_assoc]
    congr 2
    omega
  · rw [if_neg h3, if_neg h3]
    simp only
    rw [if_neg h3]
    congr 2
    omega
theorem drop_cons (bs : List Int) (k : Nat) (h : k < bs.length) : bs.drop k = bs.getD k 0 :: bs.drop (k + 1) := by
  rw [List.drop_eq_getElem_cons h]; simp [h]

theorem or_shift (k acc : Nat) (v : Int) (hk : k ≤ 9) (ha : acc < 128 ^ k) (v0 : 0 ≤ v) (v1 : v ≤ 255) (h9 : k = 9 → v ≤ 1) :
    bits .or .u64 (acc : Int) (IntKind.u64.wrap (IntKind.u64.wrap (bits .and .u8 v 127) * 2 ^ (7 * k))) = ((acc + 128 ^ k * (v.toNat % 128) : Nat) : Int) := by
  have hP : (2 : Int) ^ (7 * k) = ((128 ^ k : Nat) : Int) := by
    have h1 : (128 : Nat) ^ k = 2 ^ (7 * k) := by rw [Nat.pow_mul]
    rw [h1]; simp
  have hQ9 : (128 : Nat) ^ k ≤ 128 ^ 9 := Nat.pow_le_pow_right (by omega) hk
  have hQ8 : k ≤ 8 → (128 : Nat) ^ k ≤ 128 ^ 8 := fun h => Nat.pow_le_pow_right (by omega) h
  have e9 : (128 : Nat) ^ 9 = 9223372036854775808 := by decide
  have e8 : (128 : Nat) ^ 8 = 72057594037927936 := by decide
  rw [e9] at hQ9
  rw [e8] at hQ8
  rw [u8_and127 (x := v) v0 (by omega), show IntKind.u64.wrap (v % 128) = v % 128 by rw [IntKind.wrap_u64]; omega]
  have hx0 : 0 ≤ v % 128 * ((128 ^ k : Nat) : Int) := Int.mul_nonneg (by omega) (by omega)
  have hx1 : v % 128 * ((128 ^ k : Nat) : Int) < 18446744073709551616 := by
    by_cases h8 : k ≤ 8
    · have h1 := hQ8 h8
      have h2 : v % 128 * ((128 ^ k : Nat) : Int) ≤ 127 * 72057594037927936 := Int.mul_le_mul (by omega) (by omega) (by omega) (by omega)
      omega
    · have h1 := h9 (by omega)
      have h2 : v % 128 * ((128 ^ k : Nat) : Int) ≤ 1 * 9223372036854775808 := Int.mul_le_mul (by omega) (by omega) (by omega) (by omega)
      omega
  rw [hP, show IntKind.u64.wrap (v % 128 * ((128 ^ k : Nat) : Int)) = v % 128 * ((128 ^ k : Nat) : Int) by rw [IntKind.wrap_u64]; omega]
  rw [bits_join_low .u64 64 (by decide) wraps_u64 (7 * k) (acc : Int) (v % 128 * ((128 ^ k : Nat) : Int)) (by omega) (by rw [hP]; omega) (by omega) hx0 (by rw [hP]; exact Int.mul_emod_left _ _) (by omega)]
  have hv : ((v.toNat % 128 : Nat) : Int) = v % 128 := by omega
  rw [Int.natCast_add, Int.natCast_mul, hv, Int.mul_comm]

set_option maxRecDepth 100000 in
set_option maxHeartbeats 1000000 in
theorem rduint_bad (b g c : Nat) (bs : List Int) (at_ : Nat) (wrong : Int) (w : World) (hR : RAt w b g c bs at_ wrong) (hw : wrong ≠ 0) :
    Calls Tryz.prog 24 #[.pointer (some ⟨b, 0, none⟩)] w fun e w' => e = .returned (.int .u64 0) ∧ w = w' := by
  have d2 := hR.c2
  have hb : (wrong != 0) = true := by simp [hw]
  have HO := Lib.hid (octet_bad b g c bs at_ wrong w hR hw)
  clear hR hw
  go_enter Tryz.func24, Tryz.ntmps24
  go_wp2
  refine wp_loop_rounds 1 ?_
  rw [rounds_succ]
  go_wp2_with fail
  refine Calls.mono HO.out ?_
  rintro e w1 ⟨rfl, rfl⟩
  go_wp2
  go_ret
  exact ⟨rfl, rfl⟩

set_option maxRecDepth 100000 in
set_option maxHeartbeats 4000000 in
theorem rduint_ok (b g c : Nat) (bs : List Int) (at_ : Nat) (w : World) (hR : RAt w b g c bs at_ 0) :
    Calls Tryz.prog 24 #[.pointer (some ⟨b, 0, none⟩)] w fun e w' =>
      e = .returned (.int .u64 (rdU 0 (bs.drop at_)).1) ∧ RAt w' b g c bs (at_ + (rdU 0 (bs.drop at_)).2.1) (rdU 0 (bs.drop at_)).2.2 ∧ Keeps [b] w w' := by
  have HR := Lib.hid hR
  clear hR
  go_enter Tryz.func24, Tryz.ntmps24
  go_wp2
  go_loopw [3, 4, 5, 6] (fun s _ _ i wr => ∃ k acc : Nat, k ≤ 9 ∧ i = .int .i64 k ∧ s = .int .u64 acc ∧ acc < 128 ^ k ∧ RAt wr b g c bs (at_ + k) 0 ∧ Keeps [b] w wr ∧
    rdU 0 (bs.drop at_) = if (rdU k (bs.drop (at_ + k))).2.2 = 0 then (acc + 128 ^ k * (rdU k (bs.drop (at_ + k))).1, k + (rdU k (bs.drop (at_ + k))).2.1, 0) else (0, k + (rdU k (bs.drop (at_ + k))).2.1, (rdU k (bs.drop (at_ + k))).2.2)) (fun _ _ _ i _ => 10 - (intOf i).toNat)
  case atStart =>
    exact ⟨0, 0, by omega, rfl, rfl, by decide, HR.out, Keeps.refl _ _, rdU_form _ (rdU_err _ 0)⟩
  case round =>
    obtain ⟨k, acc, hk, rfl, rfl, hacc, hR, hK, hlink⟩ := hrel
    have hk10 : (k : Int) < 10 := by omega
    have HR := Lib.hid hR
    have HK := Lib.hid hK
    have HLI := Lib.hid hlink
    have HACC := Lib.hid hacc
    clear hlink hacc
    by_cases hend : at_ + k = bs.length
    · rw [hend] at hR
      have ho := octet_end b g c bs wr hR
      have HO := Lib.hid ho
      clear ho hR hK
      go_wp2_with fail
      refine Calls.mono HO.out ?_
      rintro e w1 ⟨rfl, hR1, hk1⟩
      have d2 := hR1.c2
      have HR1 := Lib.hid hR1
      have HK1 := Lib.hid (HK.out.trans hk1)
      clear hR1 hk1 HO
      go_wp2
      go_ret
      have h1 := HLI.out
      rw [hend, List.drop_length] at h1
      simp only [rdU] at h1
      rw [h1]
      refine ⟨rfl, ?_, HK1.out⟩
      have h2 := HR1.out
      simpa [hend] using h2
    · have hlt : at_ + k < bs.length := by have := hR.le; omega
      have ho := octet_ok b g c bs (at_ + k) wr hR hlt
      obtain ⟨v0, v1⟩ := hR.by_ (bs.getD (at_ + k) 0) (getD_mem hlt)
      have hdc := drop_cons bs (at_ + k) hlt
      obtain ⟨v, hv⟩ : ∃ v, v = bs.getD (at_ + k) 0 := ⟨_, rfl⟩
      rw [← hv] at ho v0 v1 hdc
      have HO := Lib.hid ho
      have HDC := Lib.hid hdc
      clear ho hR hK hv hdc
      go_wp2_with fail
      refine Calls.mono HO.out ?_
      rintro e w1 ⟨rfl, hR1, hk1⟩
      have d2 := hR1.c2
      have f2 := hR1.fz 2
      have HR1 := Lib.hid hR1
      have HK1 := Lib.hid (HK.out.trans hk1)
      clear hR1 hk1 HO
      by_cases hbad : (k = 9 ∧ 1 < v) ∨ (0 < k ∧ v = 0)
      · have hrd : rdU k (v :: bs.drop (at_ + k + 1)) = (0, 1, 2) := by rw [rdU, if_pos hbad]
        have hfin : rdU 0 (bs.drop at_) = (0, k + 1, 2) := by
          have h1 := HLI.out
          rw [HDC.out, hrd] at h1
          simpa using h1
        have HFIN := Lib.hid hfin
        have HR2 := Lib.hid (HR1.out.setWrong 2)
        have HK2 := Lib.hid (HK1.out.setCell (p := ⟨b, 2, none⟩) (.inl (by simp)) (.int .i64 2))
        have hend : ∀ W : World, RAt W b g c bs (at_ + k + 1) 2 → Keeps [b] w W → Ending.returned (Value.int .u64 0) = .returned (.int .u64 (rdU 0 (bs.drop at_)).1) ∧ RAt W b g c bs (at_ + (rdU 0 (bs.drop at_)).2.1) (rdU 0 (bs.drop at_)).2.2 ∧ Keeps [b] w W := by
          intro W h1 h2
          rw [HFIN.out]
          exact ⟨rfl, h1, h2⟩
        have HEND := Lib.hid hend
        clear hrd hfin hend
        by_cases h9 : k = 9 ∧ 1 < v
        · have b1 : ((k : Int) == 9) = true := by simp; omega
          have b2 : 1 < v := h9.2
          clear h9 hbad
          go_wp2
          go_ret
          exact HEND.out _ HR2.out HK2.out
        · have h0 : 0 < k ∧ v = 0 := hbad.resolve_left h9
          have b3 : 0 < k := h0.1
          have b4 : (v == 0) = true := by simp [h0.2]
          have b5 : ¬ 1 < v := by omega
          by_cases hk9 : k = 9
          · have b1 : ((k : Int) == 9) = true := by simp; omega
            clear h9 hbad h0 hk9
            go_wp2
            go_ret
            exact HEND.out _ HR2.out HK2.out
          · have b1 : ((k : Int) == 9) = false := by simp; omega
            clear h9 hbad h0 hk9
            go_wp2
            go_ret
            exact HEND.out _ HR2.out HK2.out
      · have hos := or_shift k acc v hk HACC.out v0 v1 (fun h => by
          apply Int.not_lt.1
          intro h1
          exact hbad (.inl ⟨h, by omega⟩))
        have HOS := Lib.hid hos
        clear hos
        by_cases h128 : v < 128
        · have hrd : rdU k (v :: bs.drop (at_ + k + 1)) = (v.toNat, 1, 0) := by rw [rdU, if_neg hbad, if_pos h128]
          have hfin : rdU 0 (bs.drop at_) = (acc + 128 ^ k * (v.toNat % 128), k + 1, 0) := by
            have h1 := HLI.out
            rw [HDC.out, hrd] at h1
            rw [h1, Nat.mod_eq_of_lt (by omega : v.toNat < 128)]
            rfl
          have HFIN := Lib.hid hfin
          have hend : ∀ (x : Int), x = ((acc + 128 ^ k * (v.toNat % 128) : Nat) : Int) → Ending.returned (Value.int .u64 x) = .returned (.int .u64 (rdU 0 (bs.drop at_)).1) ∧ RAt w1 b g c bs (at_ + (rdU 0 (bs.drop at_)).2.1) (rdU 0 (bs.drop at_)).2.2 ∧ Keeps [b] w w1 := by
            intro x hx
            rw [HFIN.out, hx]
            exact ⟨rfl, HR1.out, HK1.out⟩
          have HEND := Lib.hid hend
          clear hrd hfin hend
          by_cases h9 : k = 9
          · have b1 : ((k : Int) == 9) = true := by simp; omega
            have b2 : ¬ 1 < v := fun h => hbad (.inl ⟨h9, h⟩)
            have b3 : 0 < k := by omega
            have b4 : (v == 0) = false := by simp; intro h; exact hbad (.inr ⟨b3, h⟩)
            clear hbad h9
            go_wp2
            go_ret
            exact HEND.out _ HOS.out
          · have b1 : ((k : Int) == 9) = false := by simp; omega
            by_cases h0 : 0 < k
            · have b4 : (v == 0) = false := by simp; intro h; exact hbad (.inr ⟨h0, h⟩)
              clear hbad h9
              go_wp2
              go_ret
              exact HEND.out _ HOS.out
            · clear hbad h9
              go_wp2
              go_ret
              exact HEND.out _ HOS.out
        · have h8 : k ≤ 8 := by
            by_cases h9 : k = 9
            · exact absurd (.inl ⟨h9, by omega⟩) hbad
            · omega
          have hli := HLI.out
          rw [HDC.out, rdU_go k acc v _ h128 v1 hbad] at hli
          have hacc2 : acc + 128 ^ k * (v.toNat % 128) < 128 ^ (k + 1) := by
            have h1 := HACC.out
            have h2 : 128 ^ k * (v.toNat % 128) ≤ 128 ^ k * 127 := Nat.mul_le_mul_left _ (by omega)
            rw [Nat.pow_succ]
            omega
          have HLI2 := Lib.hid hli
          have HACC2 := Lib.hid hacc2
          have b1 : ((k : Int) == 9) = false := by simp; omega
          have b4 : (v == 0) = false := by simp; omega
          clear hli hacc2 hbad HLI HACC
          by_cases h0 : 0 < k
          · go_wp2
            go_roundw
            case rel => exact ⟨k + 1, acc + 128 ^ k * (v.toNat % 128), by omega, by go_num, by rw [HOS.out], HACC2.out, HR1.out, HK1.out, HLI2.out⟩
            case measure => simp [intOf]; omega
          · go_wp2
            go_roundw
            case rel => exact ⟨k + 1, acc + 128 ^ k * (v.toNat % 128), by omega, by go_num, by rw [HOS.out], HACC2.out, HR1.out, HK1.out, HLI2.out⟩
            case measure => simp [intOf]; omega

/-- Reading on: with an error nothing is read. -/
def rdE (bs : List Int) (at_ : Nat) (wrong : Int) : Nat × Nat × Int := if wrong = 0 then rdU 0 (bs.drop at_) else (0, 0, wrong)
theorem rduint_any (b g c : Nat) (bs : List Int) (at_ : Nat) (wrong : Int) (w : World) (hR : RAt w b g c bs at_ wrong) :
    Calls Tryz.prog 24 #[.pointer (some ⟨b, 0, none⟩)] w fun e w' =>
      e = .returned (.int .u64 (rdE bs at_ wrong).1) ∧ RAt w' b g c bs (at_ + (rdE bs at_ wrong).2.1) (rdE bs at_ wrong).2.2 ∧ Keeps [b] w w' := by
  unfold rdE
  by_cases h : wrong = 0
  · subst h
    rw [if_pos rfl]
    exact rduint_ok b g c bs at_ w hR
  · rw [if_neg h]
    refine (rduint_bad b g c bs at_ wrong w hR h).mono ?_
    rintro e w' ⟨rfl, rfl⟩
    exact ⟨rfl, hR, Keeps.refl _ _⟩
theorem rdU_lt : ∀ (l : List Int) (i : Nat), i ≤ 9 → (∀ x ∈ l, 0 ≤ x ∧ x ≤ 255) → (rdU i l).1 * 128 ^ i < 18446744073709551616 := by
  intro l
  induction l with
  | nil => intro i _ _; simp [rdU]
  | cons b l ih =>
    intro i hi hb
    obtain ⟨b0, b1⟩ := hb b (by simp)
    have hQ8 : i ≤ 8 → (128 : Nat) ^ i ≤ 72057594037927936 := fun h => by
      have e8 : (128 : Nat) ^ 8 = 72057594037927936 := by decide
      rw [← e8]
      exact Nat.pow_le_pow_right (by omega) h
    have hQ9 : i = 9 → (128 : Nat) ^ i = 9223372036854775808 := fun h => by subst h; decide
    rw [rdU]
    by_cases h1 : (i = 9 ∧ 1 < b) ∨ (0 < i ∧ b = 0)
    · rw [if_pos h1]; simp
    · rw [if_neg h1]
      by_cases h2 : b < 128
      · rw [if_pos h2]
        by_cases h9 : i = 9
        · rw [hQ9 h9]
          have : b ≤ 1 := Int.not_lt.1 (fun h => h1 (.inl ⟨h9, h⟩))
          have : b.toNat ≤ 1 := by omega
          have := Nat.mul_le_mul_right 9223372036854775808 this
          simp only
          omega
        · have h3 := hQ8 (by omega)
          have h4 : b.toNat * 128 ^ i ≤ 127 * 72057594037927936 := Nat.mul_le_mul (by omega) h3
          simp only
          omega
      · rw [if_neg h2]
        have h8 : i ≤ 8 := by
          by_cases h9 : i = 9
          · exact absurd (.inl ⟨h9, by omega⟩) h1
          · omega
        have h3 := ih (i + 1) (by omega) (fun x hx => hb x (by simp [hx]))
        by_cases h4 : (rdU (i + 1) l).2.2 = 0
        · rw [if_pos h4]
          simp only
          rw [Nat.pow_succ] at h3
          have h5 : ((b - 128).toNat + 128 * (rdU (i + 1) l).1) * 128 ^ i = (b - 128).toNat * 128 ^ i + (rdU (i + 1) l).1 * (128 ^ i * 128) := by
            rw [Nat.add_mul]
            congr 1
            rw [Nat.mul_comm (128 ^ i) 128, ← Nat.mul_assoc, Nat.mul_comm 128]
          have h6 : (rdU (i + 1) l).1 * (128 ^ i * 128) ≤ 18446744073709551616 - 128 ^ i * 128 := by
            obtain ⟨q, hq⟩ : ∃ q, 18446744073709551616 = q * (128 ^ i * 128) := by
              refine ⟨2 ^ (64 - 7 * (i + 1)), ?_⟩
              have e1 : (128 : Nat) ^ i * 128 = 2 ^ (7 * (i + 1)) := by rw [Nat.pow_mul, Nat.pow_succ]
              rw [e1, ← Nat.pow_add]
              have : 64 - 7 * (i + 1) + 7 * (i + 1) = 64 := by omega
              rw [this]
            rw [hq] at h3 ⊢
            have h7 : (rdU (i + 1) l).1 < q := Nat.lt_of_mul_lt_mul_right h3
            have h8 : (rdU (i + 1) l).1 * (128 ^ i * 128) ≤ (q - 1) * (128 ^ i * 128) := Nat.mul_le_mul_right _ (by omega)
            rw [Nat.sub_mul, Nat.one_mul] at h8
            exact h8
          have h7 : (b - 128).toNat * 128 ^ i ≤ 127 * 128 ^ i := Nat.mul_le_mul_right _ (by omega)
          rw [h5]
          have h9 := hQ8 h8
          have h10 : 0 < 128 ^ i := Nat.pos_of_ne_zero (by
            intro h
            have := Nat.pow_pos (n := i) (show 0 < 128 by omega)
            omega)
          omega
        · rw [if_neg h4]; simp
theorem rdE_lt (bs : List Int) (at_ : Nat) (wrong : Int) (h : ∀ x ∈ bs, 0 ≤ x ∧ x ≤ 255) : (rdE bs at_ wrong).1 < 18446744073709551616 := by
  unfold rdE
  by_cases hw : wrong = 0
  · rw [if_pos hw]
    have := rdU_lt (bs.drop at_) 0 (by omega) (fun x hx => h x (List.mem_of_mem_drop hx))
    simpa using this
  · rw [if_neg hw]; show 0 < _; omega

/-- The signed number with a zigzag form. -/
def unzig (n : Nat) : Int := if n % 2 = 0 then ((n / 2 : Nat) : Int) else -((n / 2 : Nat) : Int) - 1

theorem unzig_xor (n : Nat) (h : n < 18446744073709551616) : bits .xor .i64 ((n : Int) / 2) (-((n : Int) % 2)) = unzig n := by
  have e : (n : Int) / 2 = ((n / 2 : Nat) : Int) := by omega
  unfold unzig
  by_cases he : n % 2 = 0
  · rw [if_pos he, e, show -((n : Int) % 2) = 0 by omega]
    show IntKind.i64.wrap ((BitVec.ofInt 64 ((n / 2 : Nat) : Int) ^^^ BitVec.ofInt 64 0).toNat : Int) = _
    have h2 : (BitVec.ofInt 64 ((n / 2 : Nat) : Int)).toNat = n / 2 := by
      rw [BitVec.ofInt_natCast, BitVec.toNat_ofNat]; exact Nat.mod_eq_of_lt (by omega)
    have h3 : (BitVec.ofInt 64 0).toNat = 0 := by decide
    rw [BitVec.toNat_xor, h2, h3, Nat.xor_zero, IntKind.wrap_i64]
    omega
  · rw [if_neg he, e, show -((n : Int) % 2) = -1 by omega, bits_xor_comm, Lib.i64_not _ (by omega)]

set_option maxRecDepth 100000 in
set_option maxHeartbeats 1000000 in
theorem rdint_any (b g c : Nat) (bs : List Int) (at_ : Nat) (wrong : Int) (w : World) (hR : RAt w b g c bs at_ wrong) :
    Calls Tryz.prog 11 #[.pointer (some ⟨b, 0, none⟩)] w fun e w' =>
      e = .returned (.int .i64 (unzig (rdE bs at_ wrong).1)) ∧ RAt w' b g c bs (at_ + (rdE bs at_ wrong).2.1) (rdE bs at_ wrong).2.2 ∧ Keeps [b] w w' := by
  have hu := rduint_any b g c bs at_ wrong w hR
  have hlt := rdE_lt bs at_ wrong hR.by_
  obtain ⟨n, hn⟩ : ∃ n, n = (rdE bs at_ wrong).1 := ⟨_, rfl⟩
  rw [← hn] at hu hlt ⊢
  have HU := Lib.hid hu
  have ha : bits .and .u64 (n : Int) 1 = (n : Int) % 2 := Lib.u64_and1 _ (by omega) (by omega)
  have HX := Lib.hid (unzig_xor n hlt)
  clear hu hn hR
  go_enter Tryz.func11, Tryz.ntmps11
  go_wp2_with fail
  refine Calls.mono HU.out ?_
  rintro e w1 ⟨rfl, hr⟩
  have HR := Lib.hid hr
  clear hr
  go_wp2
  go_ret
  exact ⟨by rw [← HX.out]; rfl, HR.out⟩

set_option maxRecDepth 100000 in
set_option maxHeartbeats 1000000 in
theorem rdend_any (b g c : Nat) (bs : List Int) (at_ : Nat) (wrong : Int) (w : World) (hR : RAt w b g c bs at_ wrong) :
    Calls Tryz.prog 21 #[.pointer (some ⟨b, 0, none⟩)] w fun e w' =>
      e = .returned (.int .i64 (if wrong ≠ 0 then wrong else if at_ < bs.length then 2 else 0)) ∧ ∃ n, w' = w.drewN n := by
  have d0 := hR.c0
  have d1 := hR.c1
  have d2 := hR.c2
  have hl := hR.len
  have hle := hR.le
  by_cases h : wrong = 0
  · subst h
    have hb : ((0 : Int) != 0) = false := by simp
    clear hR
    by_cases hlt : at_ < bs.length
    · rw [if_neg (by simp), if_pos hlt]
      have hlt2 : (at_ : Int) < (bs.length : Int) := by omega
      go_enter Tryz.func21, Tryz.ntmps21
      go_wp2
      go_quiet (fail)
      go_wp2
      go_ret
      exact ⟨rfl, nq, rfl⟩
    · rw [if_neg (by simp), if_neg hlt]
      have hlt2 : ¬ (at_ : Int) < (bs.length : Int) := by omega
      go_enter Tryz.func21, Tryz.ntmps21
      go_wp2
      go_quiet (fail)
      go_wp2
      go_ret
      exact ⟨rfl, nq, rfl⟩
  · rw [if_pos h]
    have hb : (wrong != 0) = true := by simp [h]
    clear hR
    go_enter Tryz.func21, Tryz.ntmps21
    go_wp2
    go_ret
    exact ⟨rfl, 0, rfl⟩

end Go.Proofs.YtgdmkddegcecaaaGreat
