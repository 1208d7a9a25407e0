/- slices.insertionSortCmpFunc at int with the closure of Shares. Conditions: the row and what the closure has captured lie in memory as Ints and CmpEnv say; the row is in stable order. -/
import Derived.Test.YtdpmkbiibmjbfaaCmp
import Derived.Test.YtdpmkbiibmjbfaaStab
import Derived.BigRegion
import Derived.Deep.LoopGhost
namespace Go.Proofs.Ytdpmkbiibmjbfaa
open Go.RowKit

theorem Ints.swp {E : Nat} {w : World} {b : Nat} {zs : List Int} (h : Ints E w b zs) (i j : Nat) : Ints E ((w.setCell ⟨b, i, none⟩ (.int .i64 (zs.getD j 0))).setCell ⟨b, j, none⟩ (.int .i64 (zs.getD i 0))) b (swp zs i j) := (h.set i _).set j _
theorem Ints.cellG {E : Nat} {w : World} {b : Nat} {zs : List Int} (h : Ints E w b zs) (i : Nat) (hi : i < zs.length) : w.cell? ⟨b, i, none⟩ = some (.int .i64 (zs.getD i 0)) := by rw [h.cell i hi]; simp [hi]

theorem cmpI_neg (x y : Int) : (cmpI x y < 0) ↔ x < y := by unfold cmpI; split <;> (try split) <;> omega

set_option maxHeartbeats 2000000 in
theorem isort_any (g p q s bw off cap : Nat) (total sum : Int) (ws : List Int) (xs : List Int) (c a b : Nat) (w : World) (hE : CmpEnv w p q s bw off cap total sum ws) (hI : Ints 3 w g xs)
    (hd : g ∉ [p, q, s, bw]) (hr : ∀ x ∈ xs, 0 ≤ x ∧ x < ws.length) (hst : Stab (keyOf total sum ws) xs) (hab : a ≤ b) (hb : b ≤ xs.length) (hxl : xs.length ≤ 1000) :
    Calls Try.prog 41 #[.slice (some ⟨g, 0, none⟩) xs.length c, .int .i64 a, .int .i64 b, .func (.func 29) #[] #[.pointer (some ⟨p, 0, none⟩), .pointer (some ⟨q, 0, none⟩), .pointer (some ⟨s, 0, none⟩)]] w fun e w' =>
      e = .returned (.tuple #[]) ∧ ∃ ys, Ints 3 w' g ys ∧ Turned xs ys a b ∧ Stab (keyOf total sum ws) ys ∧ Desc (keyOf total sum ws) ys a b ∧ Keeps [g] w w' := by
  have HE := Lib.hid hE
  have HI := Lib.hid hI
  have HD := Lib.hid hd
  have HR := Lib.hid hr
  have HST := Lib.hid hst
  clear hE hI hd hr hst
  go_enter Try.func41, Try.ntmps41
  go_wp2
  go_loopw [8, 9] (fun i _ wr => ∃ (k : Nat) (ys : List Int), a + 1 ≤ k ∧ (k ≤ b ∨ k = a + 1) ∧ i = .int .i64 k ∧ Ints 3 wr g ys ∧ Turned xs ys a b ∧ Stab (keyOf total sum ws) ys ∧ Desc (keyOf total sum ws) ys a k ∧ Keeps [g] w wr) (fun i _ _ => b - (intOf i).toNat)
  case atStart => exact ⟨a + 1, xs, by omega, by omega, by go_num, HI.out, Turned.refl _ _ _, HST.out, fun p q h1 h2 h3 => by omega, Keeps.refl _ _⟩
  case round =>
    obtain ⟨k, ys, hk1, hk2, rfl, hIy, hT, hS, hDs, hK⟩ := hrel
    have HL := Lib.hid hT.len
    have HIy := Lib.hid hIy
    have HT := Lib.hid hT
    have HS := Lib.hid hS
    have HDs := Lib.hid hDs
    have HK := Lib.hid hK
    clear hIy hT hS hDs hK
    by_cases hlt : k < b
    · go_wp2
      obtain ⟨wo, hwo⟩ : ∃ wo : World, wo = wr := ⟨_, rfl⟩
      go_loopw [9] (fun j wi => ∃ (m : Nat) (zs : List Int), a ≤ m ∧ m ≤ k ∧ j = .int .i64 m ∧ Ints 3 wi g zs ∧ Turned xs zs a b ∧ Stab (keyOf total sum ws) zs ∧ Sink (keyOf total sum ws) zs a m k ∧ Keeps [g] w wi) (fun j _ => (intOf j).toNat)
      case atStart => exact ⟨k, ys, by omega, by omega, rfl, HIy.out, HT.out, HS.out, Sink.start HDs.out, HK.out⟩
      case round =>
        obtain ⟨m, zs, hm1, hm2, rfl, hIz, hTz, hSz, hSk, hKz⟩ := hrel
        have hlz := hTz.len
        have hEz := HE.out.keep hKz (by intro h; simp at h; exact HD.out (by simp [h])) (by intro h; simp at h; exact HD.out (by simp [h])) (by intro h; simp at h; exact HD.out (by simp [h])) (by intro h; simp at h; exact HD.out (by simp [h]))
        have hRz : ∀ x ∈ zs, 0 ≤ x ∧ x < ws.length := fun x hx => HR.out x (hTz.perm.mem_iff.1 hx)
        have HLZ := Lib.hid hlz
        have HIz := Lib.hid hIz
        have HTz := Lib.hid hTz
        have HSz := Lib.hid hSz
        have HSk := Lib.hid hSk
        have HKz := Lib.hid hKz
        have HEz := Lib.hid hEz
        by_cases hma : m = a
        · have hdec : decide (a < m) = false := by simp [hma]
          have HMA := Lib.hid hma
          clear hlz hIz hTz hSz hSk hKz hEz hRz hma
          go_wp2
          go_quiet (fail)
          go_wp2
          go_roundw
          case rel => exact ⟨k + 1, zs, by omega, by omega, by go_num, HIz.out, HTz.out, HSz.out, HSk.out.done hm2 (.inl HMA.out), HKz.out.drewN _⟩
          case measure => simp [intOf]; omega
        · obtain ⟨n, rfl⟩ : ∃ n, m = n + 1 := ⟨m - 1, by omega⟩
          have ha1 : a ≤ n := by omega
          have ha2 : a < n + 1 := by omega
          have ha3 : (a : Int) < (n : Int) + 1 := by omega
          have ha4 : (a : Int) ≤ (n : Int) := by omega
          have d1 := hIz.cellG (n + 1) (by omega)
          have d0 := hIz.cellG n (by omega)
          have f1 := hIz.fz (n + 1)
          have f0 := hIz.fz n
          obtain ⟨r10, r11⟩ := hRz (zs.getD (n + 1) 0) (by rw [List.getD_eq_getElem?_getD, List.getElem?_eq_getElem (by omega)]; simp)
          obtain ⟨r00, r01⟩ := hRz (zs.getD n 0) (by rw [List.getD_eq_getElem?_getD, List.getElem?_eq_getElem (by omega)]; simp)
          obtain ⟨x1, hx1⟩ : ∃ x, x = zs.getD (n + 1) 0 := ⟨_, rfl⟩
          obtain ⟨x0, hx0⟩ : ∃ x, x = zs.getD n 0 := ⟨_, rfl⟩
          rw [← hx1] at d1 r10 r11
          rw [← hx0] at d0 r00 r01
          have HX1 := Lib.hid hx1
          have HX0 := Lib.hid hx0
          clear hlz hIz hTz hSz hSk hKz hEz hRz hx1 hx0
          by_cases hc : keyOf total sum ws x0 < keyOf total sum ws x1
          · have hcb : cmpI (keyOf total sum ws x0) (keyOf total sum ws x1) = -1 := by simp [cmpI, hc]
            have HCB := Lib.hid hcb
            have HC := Lib.hid hc
            clear hcb hc
            go_wp2
            go_quiet ((go_at_call 29; exact Calls.quiet_of (HCB.out ▸ cmp_any p q s bw off cap total sum ws x1 x0 _ (HEz.out.drewN _) r10 r11 r00 r01)))
            go_wp2
            have e1 : wr.cell? ⟨g, n + 1, none⟩ = (wr.drewN nq).cell? ⟨g, n + 1, none⟩ := rfl
            have e0 : wr.cell? ⟨g, n, none⟩ = (wr.drewN nq).cell? ⟨g, n, none⟩ := rfl
            have g1 : wr.frozen? ⟨g, n + 1, none⟩ = (wr.drewN nq).frozen? ⟨g, n + 1, none⟩ := rfl
            have g0 : wr.frozen? ⟨g, n, none⟩ = (wr.drewN nq).frozen? ⟨g, n, none⟩ := rfl
            rw [e1] at d1
            rw [e0] at d0
            rw [g1] at f1
            rw [g0] at f0
            clear e1 e0 g1 g0
            have HIw := Lib.hid (HIz.out.drewN nq)
            have HKw := Lib.hid (HKz.out.drewN nq)
            clear HKz HIz HEz
            generalize wr.drewN nq = w2 at *
            go_region
            have hsw := HIw.out.swp (n + 1) n
            rw [← HX1.out, ← HX0.out] at hsw
            have HSW := Lib.hid hsw
            have hcm : swp zs (n + 1) n = swp zs n (n + 1) := swp_comm _ _ _ (by have := HLZ.out; omega) (by have := HLZ.out; omega)
            have HCM := Lib.hid hcm
            clear hsw hcm
            go_wp2
            go_roundw
            case rel =>
              have hk := HC.out
              rw [HX1.out, HX0.out] at hk
              have hl := HLZ.out
              refine ⟨n, swp zs (n + 1) n, ha1, by omega, by go_num, HSW.out, HTz.out.trans (Turned.swp _ _ _ _ _ (by omega) (by omega) (by omega) (by omega) (by omega) (by omega)), ?_, ?_, ?_⟩
              · rw [HCM.out]; exact HSz.out.swp_adj n (by omega) (by omega)
              · rw [HCM.out]; exact HSk.out.step (by omega) ha1 hm2 hk
              · exact (HKw.out.drew.setCell (by simp) _).setCell (by simp) _
            case measure => simp [intOf]
          · have hcb : (cmpI (keyOf total sum ws x0) (keyOf total sum ws x1) < 0) = False := by simp [cmpI_neg]; omega
            have HC := Lib.hid hc
            obtain ⟨cv, hcv⟩ : ∃ cv, cv = cmpI (keyOf total sum ws x0) (keyOf total sum ws x1) := ⟨_, rfl⟩
            rw [← hcv] at hcb
            have hcb' : ¬ cv < 0 := by rw [hcb]; exact not_false
            have HCV := Lib.hid hcv.symm
            clear hc hcb hcv
            go_wp2
            go_quiet ((go_at_call 29; exact Calls.quiet_of (HCV.out ▸ cmp_any p q s bw off cap total sum ws x1 x0 _ (HEz.out.drewN _) r10 r11 r00 r01)))
            go_wp2
            go_roundw
            case rel =>
              have hk := HC.out
              rw [HX1.out, HX0.out] at hk
              exact ⟨k + 1, zs, by omega, by omega, by go_num, HIz.out, HTz.out, HSz.out, HSk.out.done hm2 (.inr ⟨n, rfl, ha1, by omega⟩), HKz.out.drewN _⟩
            case measure => simp [intOf]; omega
    · have hkb : ∀ key zs, Desc key zs a k → Desc key zs a b := fun key zs h p q h1 h2 h3 => h p q h1 h2 (by omega)
      have HKB := Lib.hid hkb
      clear hkb
      go_wp2
      go_end0
      exact ⟨rfl, ys, HIy.out, HT.out, HS.out, HKB.out _ _ HDs.out, HK.out⟩

end Go.Proofs.Ytdpmkbiibmjbfaa
