/- Part 9 of the proof. No condition: every lemma says its own. -/
import Derived.Test.YtphnbmdcgcchaaaDoorEac
import Derived.Test.YtphnbmdcgcchaaaDoorEaa
namespace Go.Proofs.YtphnbmdcgcchaaaDoor
open Go.RowKit
open Go.RowKit Go.Sort Go.BigFrame
set_option maxRecDepth 100000
set_option maxHeartbeats 16000000
def RevAt (xs zs : List Int) (i : Nat) : Prop := zs.length = xs.length ∧ ∀ k, k < xs.length → zs.getD k 0 = if k < i ∨ xs.length ≤ k + i then xs.getD (xs.length - 1 - k) 0 else xs.getD k 0
theorem RevAt.start (xs : List Int) : RevAt xs xs 0 := ⟨rfl, fun k hk => by rw [if_neg (by omega)]⟩
theorem getD_setI {l : List Int} {i k : Nat} {v : Int} (hk : k < l.length) : (l.set i v).getD k 0 = if k = i then v else l.getD k 0 := by
 simp only [List.getD, List.getElem?_set]
 by_cases h : i = k
 ·subst h; simp [hk]
 ·rw [if_neg h, if_neg (fun e => h e.symm)]
theorem RevAt.step {xs zs : List Int} {i j : Nat} (h : RevAt xs zs i) (hj : i + j + 1 = xs.length) (hij : i < j) : RevAt xs ((zs.set i (zs.getD j 0)).set j (zs.getD i 0)) (i + 1) := by
 obtain ⟨hl, h⟩ := h
 refine ⟨by simpa using hl, fun k hk => ?_⟩
 rw [getD_setI (by simp; omega), getD_setI (by omega), h k hk, h i (by omega), h j (by omega), if_neg (show ¬ (i < i ∨ xs.length ≤ i + i) by omega), if_neg (show ¬ (j < i ∨ xs.length ≤ j + i) by omega)]
 by_cases e : k = j
 ·subst e
  rw [if_pos rfl, if_pos (by omega)]
  congr 1; omega
 ·rw [if_neg e]
  by_cases e2 : k = i
  ·subst e2
   rw [if_pos rfl, if_pos (by omega)]
   congr 1; omega
  ·rw [if_neg e2]
   by_cases e3 : k < i ∨ xs.length ≤ k + i
   ·rw [if_pos e3, if_pos (by omega)]
   ·rw [if_neg e3, if_neg (by omega)]
theorem RevAt.done {xs zs : List Int} {i : Nat} (h : RevAt xs zs i) (hi : xs.length ≤ 2 * i + 1) : zs = xs.reverse := by
 obtain ⟨hl, h⟩ := h
 apply List.ext_getElem
 ·simpa using hl
 ·intro k h1 h2
  have h3 := h k (by omega)
  simp only [List.getElem_reverse]
  simp only [List.getD, List.getElem?_eq_getElem h1, Option.getD_some] at h3
  rw [h3]
  split
  ·rw [List.getElem?_eq_getElem (by omega), Option.getD_some]
  ·have hk : xs.length - 1 - k = k := by omega
   rw [List.getElem?_eq_getElem (by omega), Option.getD_some]
   congr 1; omega
theorem SliceAt.setI {w : World} {e g n c : Nat} {xs : List Int} (h : SliceAt w e 1 (some g) n c (xs.map (Value.int .i64))) (i : Nat) (v : Int) : SliceAt (w.setCell ⟨g, i, none⟩ (.int .i64 v)) e 1 (some g) n c ((xs.set i v).map (Value.int .i64)) := by
 obtain ⟨h1, cur, h2, h3, h4, h5, h6⟩ := h
 refine ⟨by simpa using h1, _, heap_setCell_same w g i _ e _ h2, h3, h4, by simpa using h5, ?_⟩
 simp only [Nat.mul_one] at h6 ⊢
 simp [List.map_set, ← h6, List.take_set]
theorem SliceAt.intD {w : World} {e g n c : Nat} {xs : List Int} (h : SliceAt w e 1 (some g) n c (xs.map (Value.int .i64))) (i : Nat) (hi : i < xs.length) : w.cell? ⟨g, i, none⟩ = some (.int .i64 (xs.getD i 0)) := by
 rw [h.cell i (by simpa using hi)]
 simp [List.getD, hi]
theorem reverse_any (a : Option Nat) (c : Nat) (xs : List Int) (w : World) (hI : SliceAt w 3 1 a xs.length c (xs.map (Value.int .i64))) (hxl : xs.length ≤ 1000000) :
  Calls Tryd.prog 61 #[.slice (a.map fun g => ⟨g, 0, none⟩) xs.length c] w fun e w' =>
   e = .returned (.tuple #[]) ∧ SliceAt w' 3 1 a xs.length c (xs.reverse.map (Value.int .i64)) ∧ Keeps a.toList w w' := by
 have HI := Lib.hid hI
 obtain ⟨n, hn⟩ : ∃ n, n = xs.length := ⟨_, rfl⟩
 rw [← hn] at hxl ⊢
 have HN := Lib.hid hn
 clear hI hn
 go_enter Tryd.func61, Tryd.ntmps61
 go_wp2
 go_loopw [2, 3] (fun s2 s3 wr => ∃ (i : Nat) (jz : Int) (zs : List Int), s2 = .int .i64 i ∧ s3 = .int .i64 jz ∧ jz = (n : Int) - 1 - i ∧ i ≤ n ∧ RevAt xs zs i ∧ SliceAt wr 3 1 a n c (zs.map (Value.int .i64)) ∧ Keeps a.toList w wr) (fun s2 _ _ => n - (intOf s2).toNat)
 case atStart => exact ⟨0, (n : Int) - 1, xs, rfl, by first | rfl | go_num, by omega, Nat.zero_le _, RevAt.start xs, by rw [HN.out]; exact HI.out, Keeps.refl _ _⟩
 case round =>
  obtain ⟨i, jz, zs, rfl, rfl, hjz, hin, hr, hs, hk⟩ := hrel
  by_cases hij : (i : Int) < jz
  ·obtain ⟨j, rfl⟩ := Int.eq_ofNat_of_zero_le (show 0 ≤ jz by omega)
   obtain ⟨g, rfl⟩ : ∃ g, a = some g := by
    cases a with
    | none => have := hs.2.1; omega
    | some g => exact ⟨g, rfl⟩
   simp only [Option.map_some]
   have hzl : zs.length = n := by rw [hr.1, HN.out]
   have c1 := hs.intD i (by omega)
   have c2 := hs.intD j (by omega)
   have f1 := hs.fz i
   have f2 := hs.fz j
   have hlt : i < n := by omega
   have hlt2 : j < n := by omega
   have HJ := Lib.hid (show i + j + 1 = xs.length by rw [← HN.out]; omega)
   have HIJ := Lib.hid (show i < j by omega)
   have HR := Lib.hid (hr.step HJ.out HIJ.out)
   have HSW := Lib.hid ((hs.setI i (zs.getD j 0)).setI j (zs.getD i 0))
   have HSW2 := Lib.hid ((hs.setI j (zs.getD i 0)).setI i (zs.getD j 0))
   have HK := Lib.hid hk
   have HJZ := Lib.hid hjz
   have hne : i ≠ j := by omega
   have hne2 : ¬ i = j := by omega
   have hne3 : ¬ j = i := by omega
   obtain ⟨x1, hx1⟩ : ∃ x, x = zs.getD i 0 := ⟨_, rfl⟩
   obtain ⟨x2, hx2⟩ : ∃ x, x = zs.getD j 0 := ⟨_, rfl⟩
   rw [← hx1] at c1 HSW HSW2 HR
   rw [← hx2] at c2 HSW HSW2 HR
   clear hr hs hk hjz hzl hx1 hx2
   go_wp2
   go_region
   go_wp2
   go_roundw
   case rel => exact ⟨i + 1, (j : Int) - 1, _, by go_num, by go_num, by have := HJ.out; rw [← HN.out] at this; omega, by omega, HR.out, HSW.out, (HK.out.drew.setCell (by simp) _).setCell (by simp) _⟩
   case measure => simp [intOf]; omega
  ·have HS := Lib.hid hs
   have HK := Lib.hid hk
   have HR := Lib.hid (hr.done (by rw [← HN.out]; omega))
   clear hs hk hr
   go_wp2
   go_end0
   exact ⟨rfl, by have h := HS.out; rw [HR.out] at h; simpa using h, HK.out⟩
theorem triv_eq (x y z : Int) : triv (x, y, z) = .agg #[.int .i64 x, .int .i64 y, .int .i64 z] := rfl
theorem cmp_any (p mb n : Nat) (gm : Value → Option Value) (key : Tri → Int) (s t : Tri) (w : World) (hE : KeyEnv w p mb n gm) (hs : HasKey gm key s) (ht : HasKey gm key t) :
  Calls Tryd.prog 60 #[triv s, triv t, .pointer (some ⟨p, 0, none⟩)] w fun e w' => e = .returned (.int .i64 (cmpI (key t) (key s))) ∧ Keeps [] w w' := by
 obtain ⟨x, y, z⟩ := s
 obtain ⟨x2, y2, z2⟩ := t
 have HC := Lib.hid (show cmpI (key (x2, y2, z2)) (key (x, y, z)) = cmpI (-(key (x, y, z))) (-(key (x2, y2, z2))) by unfold cmpI; split <;> split <;> (try split) <;> (try split) <;> omega)
 obtain ⟨Y, hY⟩ : ∃ Y, Y = (w.alloc (.cells #[.int .i64 x, .int .i64 y, .int .i64 z] 92)).alloc (.cells #[.int .i64 x2, .int .i64 y2, .int .i64 z2] 92) := ⟨_, rfl⟩
 have hkY : Keeps [] w Y := by rw [hY]; exact ((Keeps.refl [] w).alloc _).alloc _
 obtain ⟨B, hB⟩ : ∃ B, B = w.heap.size := ⟨_, rfl⟩
 have c0 : Y.heap[B]? = some (.cells #[.int .i64 x, .int .i64 y, .int .i64 z] 92 (0, 0)) := by rw [hY, hB]; exact ((Keeps.refl [] _).alloc _).heap (heap_alloc_new w _) (by simp)
 have c1 : Y.heap[B + 1]? = some (.cells #[.int .i64 x2, .int .i64 y2, .int .i64 z2] 92 (0, 0)) := by rw [hY, hB]; exact heap_alloc2_new w _ _
 have b0 : Y.cell? ⟨B, 0, none⟩ = some (.int .i64 x) := by simp [World.cell?, c0]
 have b1 : Y.cell? ⟨B, 1, none⟩ = some (.int .i64 y) := by simp [World.cell?, c0]
 have b2 : Y.cell? ⟨B, 2, none⟩ = some (.int .i64 z) := by simp [World.cell?, c0]
 have d0 : Y.cell? ⟨B + 1, 0, none⟩ = some (.int .i64 x2) := by simp [World.cell?, c1]
 have d1 : Y.cell? ⟨B + 1, 1, none⟩ = some (.int .i64 y2) := by simp [World.cell?, c1]
 have d2 : Y.cell? ⟨B + 1, 2, none⟩ = some (.int .i64 z2) := by simp [World.cell?, c1]
 have hE2 := hE.keep hkY (by simp) (by simp)
 have L1 : ∀ q, (Instr.lookup 116 (.map (some mb)) (.agg #[.int .i64 x, .int .i64 y, .int .i64 z]) false).run Tryd.prog (Y.drewN q) = .ok (.int .i64 (-(key (x, y, z)))) (Y.drewN q) := fun q => by
  have h := (hE2.map.keep ((Keeps.refl [] Y).drewN q) (by simp)).look false triKeyed Tryd.underlying116 (z := .int .i64 0) (by kernel_rfl) (key3 hs.1)
  rw [hs.2] at h
  exact h
 have L2 : ∀ q, (Instr.lookup 116 (.map (some mb)) (.agg #[.int .i64 x2, .int .i64 y2, .int .i64 z2]) false).run Tryd.prog (Y.drewN q) = .ok (.int .i64 (-(key (x2, y2, z2)))) (Y.drewN q) := fun q => by
  have h := (hE2.map.keep ((Keeps.refl [] Y).drewN q) (by simp)).look false triKeyed Tryd.underlying116 (z := .int .i64 0) (by kernel_rfl) (key3 ht.1)
  rw [ht.2] at h
  exact h
 have pp := hE2.ptr
 rw [HC.out]
 have HY := Lib.hid hY
 have HB := Lib.hid hB
 have HK := Lib.hid hkY
 clear hE hE2 hs ht hY hB hkY c0 c1
 simp only [triv_eq]
 go_enter Tryd.func60, Tryd.ntmps60
 go_upto_region 1 with fail
 rw [← HY.out, ← HB.out]
 go_quiet ((go_at_call 57; exact quiet_left (compare_any _ _ _)))
 go_wp2
 go_ret
 exact ⟨rfl, HK.out.drewN _⟩
theorem cmp_regrown (p mb mn : Nat) (gm : Value → Option Value) (key : Tri → Int) (s t : Tri) (w : World) (hE : KeyEnv w p mb mn gm) (hs : HasKey gm key s) (ht : HasKey gm key t) (d : Nat) (os : Array Obj) :
  Calls Tryd.prog 60 #[triv s, triv t, .pointer (some ⟨p, 0, none⟩)] (grow (redrawn w d) os) fun e w'' => e = .returned (.int .i64 (cmpI (key t) (key s))) ∧ ∃ p : Regrown, w'' = grow (redrawn w p.d) p.os :=
 Calls.regrown_of ((cmp_any p mb mn gm key s t _ (hE.keep (Keeps.of_below (below_regrown w d os)) (by simp) (by simp)) hs ht).mono fun _ _ h => ⟨h.1, h.2.below (Nat.le_refl _)⟩)
def cmpV (p : Nat) : Value := .func (.func 60) #[] #[.pointer (some ⟨p, 0, none⟩)]
theorem isort_any (g p mb mn : Nat) (gm : Value → Option Value) (key : Tri → Int) (sp : List Value) (xs : List Tri) (c a b : Nat) (w : World) (hE : KeyEnv w p mb mn gm) (hI : Tris 92 w g sp xs)
  (hd : g ∉ [p, mb]) (hr : ∀ x ∈ xs, HasKey gm key x) (hab : a ≤ b) (hb : b ≤ xs.length) (hxl : xs.length ≤ 1000000) :
  Calls Tryd.prog 76 #[.slice (some ⟨g, 0, none⟩) xs.length c, .int .i64 a, .int .i64 b, cmpV p] w fun e w' =>
   e = .returned (.tuple #[]) ∧ ∃ ys, Tris 92 w' g sp ys ∧ Turned xs ys a b ∧ Desc key ys a b ∧ Keeps [g] w w' := by
 have HE := Lib.hid hE
 have HI := Lib.hid hI
 have HD := Lib.hid hd
 have HR := Lib.hid hr
 have hgp : g ≠ p := fun h => hd (by simp [h])
 have hgm : g ≠ mb := fun h => hd (by simp [h])
 clear hE hI hd hr
 unfold cmpV
 go_enter Tryd.func76, Tryd.ntmps76
 go_wp2
 go_loopw [8, 9] (fun i _ wr => ∃ (k : Nat) (ys : List Tri), a + 1 ≤ k ∧ (k ≤ b ∨ k = a + 1) ∧ i = .int .i64 k ∧ Tris 92 wr g sp ys ∧ Turned xs ys a b ∧ Desc key ys a k ∧ Keeps [g] w wr) (fun i _ _ => b - (intOf i).toNat)
 case atStart => exact ⟨a + 1, xs, by omega, by omega, by go_num, HI.out, Turned.refl _ _ _, fun p q h1 h2 h3 => by omega, Keeps.refl _ _⟩
 case round =>
  obtain ⟨k, ys, hk1, hk2, rfl, hIy, hT, hDs, hK⟩ := hrel
  have HL := Lib.hid hT.len
  have HIy := Lib.hid hIy
  have HT := Lib.hid hT
  have HDs := Lib.hid hDs
  have HK := Lib.hid hK
  clear hIy hT hDs hK
  by_cases hlt : k < b
  ·go_wp2
   obtain ⟨wo, hwo⟩ : ∃ wo : World, wo = wr := ⟨_, rfl⟩
   go_loopw [9] (fun j wi => ∃ (m : Nat) (zs : List Tri), a ≤ m ∧ m ≤ k ∧ j = .int .i64 m ∧ Tris 92 wi g sp zs ∧ Turned xs zs a b ∧ Sink key zs a m k ∧ Keeps [g] w wi) (fun j _ => (intOf j).toNat)
   case atStart => exact ⟨k, ys, by omega, by omega, rfl, HIy.out, HT.out, Sink.start HDs.out, HK.out⟩
   case round =>
    obtain ⟨m, zs, hm1, hm2, rfl, hIz, hTz, hSk, hKz⟩ := hrel
    have hlz := hTz.len
    have hEz := HE.out.keep hKz (by simp; exact hgp.symm) (by simp; exact hgm.symm)
    have hRz : ∀ x ∈ zs, HasKey gm key x := fun x hx => HR.out x (hTz.perm.mem_iff.1 hx)
    have HLZ := Lib.hid hlz
    have HIz := Lib.hid hIz
    have HTz := Lib.hid hTz
    have HSk := Lib.hid hSk
    have HKz := Lib.hid hKz
    have HEz := Lib.hid hEz
    by_cases hma : m = a
    ·have hdec : decide (a < m) = false := by simp [hma]
     have HMA := Lib.hid hma
     clear hlz hIz hTz hSk hKz hEz hRz hma
     go_wp2
     go_quiet (fail)
     go_wp2
     go_roundw
     case rel => exact ⟨k + 1, zs, by omega, by omega, by go_num, HIz.out.drewN _, HTz.out, HSk.out.done hm2 (.inl HMA.out), HKz.out.drewN _⟩
     case measure => simp [intOf]; omega
    ·obtain ⟨n, rfl⟩ : ∃ n, m = n + 1 := ⟨m - 1, by omega⟩
     have ha1 : a ≤ n := by omega
     have ha2 : a < n + 1 := by omega
     have ha3 : (a : Int) < (n : Int) + 1 := by omega
     have ha4 : (a : Int) ≤ (n : Int) := by omega
     obtain ⟨d1, d2, d3⟩ := hIz.cells (n + 1) (by omega)
     obtain ⟨c1, c2, c3⟩ := hIz.cells n (by omega)
     have k1 := hRz (zs.getD (n + 1) z0) (by rw [List.getD_eq_getElem?_getD, List.getElem?_eq_getElem (by omega)]; simp)
     have k0 := hRz (zs.getD n z0) (by rw [List.getD_eq_getElem?_getD, List.getElem?_eq_getElem (by omega)]; simp)
     obtain ⟨x1, hx1⟩ : ∃ x, x = zs.getD (n + 1) z0 := ⟨_, rfl⟩
     obtain ⟨x0, hx0⟩ : ∃ x, x = zs.getD n z0 := ⟨_, rfl⟩
     rw [← hx1] at d1 d2 d3 k1
     rw [← hx0] at c1 c2 c3 k0
     have cE := fun d os => cmp_regrown p mb _ gm key x1 x0 wr hEz k1 k0 d os
     have HX1 := Lib.hid hx1
     have HX0 := Lib.hid hx0
     clear hlz hIz hTz hSk hKz hEz hRz hx1 hx0 k1 k0
     have hsw := HIz.out.swp (n + 1) n (by have := HLZ.out; omega) (by have := HLZ.out; omega)
     rw [← HX1.out, ← HX0.out] at hsw
     have HSW := Lib.hid (show ∀ W, Keeps [] wr W → Tris 92 (Go.Proofs.YtphnbmdcgcchaaaDoor.put3 (Go.Proofs.YtphnbmdcgcchaaaDoor.put3 W g ((n + 1) * 3) x0) g (n * 3) x1) g sp (swp zs (n + 1) n) from fun W hW => by
      have h := (HIz.out.keep hW (by simp)).swp (n + 1) n (by have := HLZ.out; omega) (by have := HLZ.out; omega)
      rw [← HX1.out, ← HX0.out] at h
      exact h)
     have hcm : swp zs (n + 1) n = swp zs n (n + 1) := swp_comm _ _ _ (by have := HLZ.out; omega) (by have := HLZ.out; omega)
     have HCM := Lib.hid hcm
     have HCK := Lib.hid (show (key x0 < key x1) = (key (zs.getD n z0) < key (zs.getD (n + 1) z0)) by rw [HX1.out, HX0.out])
     clear hsw hcm
     obtain ⟨cv, hcv⟩ : ∃ cv, cv = cmpI (key x0) (key x1) := ⟨_, rfl⟩
     have HCV := Lib.hid (show (cv < 0) = (key x0 < key x1) by rw [hcv, cmpI_neg])
     simp only [← hcv] at cE
     clear hcv
     obtain ⟨p1, p2, p3⟩ := x1
     obtain ⟨q1, q2, q3⟩ := x0
     simp only [triv_eq] at d1 d2 d3 c1 c2 c3 cE
     have CE := Lib.hid cE
     have D1 := cell_regrown d1
     have D2 := cell_regrown d2
     have D3 := cell_regrown d3
     have C1 := cell_regrown c1
     have C2 := cell_regrown c2
     have C3 := cell_regrown c3
     clear cE
     by_cases hc : cv < 0
     ·have HC := Lib.hid (HCV.out ▸ hc)
      clear d1 d2 d3 c1 c2 c3
      go_upto_region 4 with fail
      refine wp_region_quiet_below (by kernel_rfl) (by kernel_rfl) ?_
      repeat (go_big_quiet_step (exact CE.out _ _))
      refine wpQuiet_nil ?_
      intro _ hw'
      obtain ⟨pq, hw''⟩ := hw'
      subst hw''
      have hk := Keeps.of_below (below_regrown wr pq.d pq.os)
      have HIw := Lib.hid (HIz.out.keep hk (by simp))
      have HKw := Lib.hid (HKz.out.trans (hk.mono (by simp)))
      have d1 := D1 pq.d pq.os
      have d2 := D2 pq.d pq.os
      have d3 := D3 pq.d pq.os
      have c1 := C1 pq.d pq.os
      have c2 := C2 pq.d pq.os
      have c3 := C3 pq.d pq.os
      have HSZ := Lib.hid (HSW.out _ hk)
      have f1 := HIw.out.fz ((n + 1) * 3)
      have f2 := HIw.out.fz ((n + 1) * 3 + 1)
      have f3 := HIw.out.fz ((n + 1) * 3 + 2)
      have g1 := HIw.out.fz (n * 3)
      have g2 := HIw.out.fz (n * 3 + 1)
      have g3 := HIw.out.fz (n * 3 + 2)
      clear hk HSW D1 D2 D3 C1 C2 C3 HIz HKz CE HEz
      generalize grow (redrawn wr pq.d) pq.os = Z at *
      go_wp2
      go_region
      go_wp2
      go_roundw
      case rel =>
       have hk := HC.out
       rw [HCK.out] at hk
       have hl := HLZ.out
       refine ⟨n, swp zs (n + 1) n, ha1, by omega, by go_num, ?_, HTz.out.trans (Turned.swp _ _ _ _ _ (by omega) (by omega) (by omega) (by omega) (by omega) (by omega)), ?_, ?_⟩
       ·exact Tris.drew HSZ.out
       ·rw [HCM.out]; exact HSk.out.step (by omega) ha1 hm2 hk
       ·exact ((HKw.out.put3 (b := g) (by simp) ((n + 1) * 3) (q1, q2, q3)).put3 (b := g) (by simp) (n * 3) (p1, p2, p3)).drew
      case measure => simp [intOf]
     ·have HC := Lib.hid hc
      clear d1 d2 d3 c1 c2 c3
      go_upto_region 4 with fail
      refine wp_region_quiet_below (by kernel_rfl) (by kernel_rfl) ?_
      repeat (go_big_quiet_step (exact CE.out _ _))
      refine wpQuiet_nil ?_
      intro _ hw'
      obtain ⟨pq, hw''⟩ := hw'
      subst hw''
      have hk := Keeps.of_below (below_regrown wr pq.d pq.os)
      have HIw := Lib.hid (HIz.out.keep hk (by simp))
      have HKw := Lib.hid (HKz.out.trans (hk.mono (by simp)))
      clear hk HSW D1 D2 D3 C1 C2 C3 HIz HKz CE HEz
      generalize grow (redrawn wr pq.d) pq.os = Z at *
      go_wp2
      go_roundw
      case rel =>
       have hk := HC.out
       rw [HCV.out, HCK.out] at hk
       exact ⟨k + 1, zs, by omega, by omega, by go_num, HIw.out, HTz.out, HSk.out.done hm2 (.inr ⟨n, rfl, ha1, by omega⟩), HKw.out⟩
      case measure => simp [intOf]; omega
  ·have hkb : ∀ key zs, Desc key zs a k → Desc key zs a b := fun key zs h p q h1 h2 h3 => h p q h1 h2 (by omega)
   have HKB := Lib.hid hkb
   clear hkb
   go_wp2
   go_end0
   exact ⟨rfl, ys, HIy.out, HT.out, HKB.out _ _ HDs.out, HK.out⟩
theorem swapRange_any (g : Nat) (E : Nat) (sp : List Value) (xs : List Tri) (c a b n : Nat) (fn : Value) (w : World) (hI : Tris E w g sp xs) (h1 : a + n ≤ b) (h2 : b + n ≤ xs.length) (hxl : xs.length ≤ 1000000) :
  Calls Tryd.prog 91 #[.slice (some ⟨g, 0, none⟩) xs.length c, .int .i64 a, .int .i64 b, .int .i64 n, fn] w fun e w' =>
   e = .returned (.tuple #[]) ∧ Tris E w' g sp (swpR xs a b n) ∧ Keeps [g] w w' := by
 have HI := Lib.hid hI
 clear hI
 go_enter Tryd.func91, Tryd.ntmps91
 go_wp2
 go_loopw [10] (fun i wr => ∃ k : Nat, k ≤ n ∧ i = .int .i64 k ∧ Tris E wr g sp (swpR xs a b k) ∧ Keeps [g] w wr) (fun i _ => n - (intOf i).toNat)
 case atStart => exact ⟨0, Nat.zero_le _, rfl, HI.out, Keeps.refl _ _⟩
 case round =>
  obtain ⟨k, hk, rfl, hI, hK⟩ := hrel
  by_cases hlt : k < n
  ·have hl := swpR_length xs a b k
   obtain ⟨d1, d2, d3⟩ := hI.cells (a + k) (by omega)
   obtain ⟨c1, c2, c3⟩ := hI.cells (b + k) (by omega)
   have f1 := hI.fz ((a + k) * 3)
   have f2 := hI.fz ((a + k) * 3 + 1)
   have f3 := hI.fz ((a + k) * 3 + 2)
   have g1 := hI.fz ((b + k) * 3)
   have g2 := hI.fz ((b + k) * 3 + 1)
   have g3 := hI.fz ((b + k) * 3 + 2)
   have hsw := hI.swp (a + k) (b + k) (by omega) (by omega)
   obtain ⟨x1, hx1⟩ : ∃ x, x = (swpR xs a b k).getD (a + k) z0 := ⟨_, rfl⟩
   obtain ⟨x2, hx2⟩ : ∃ x, x = (swpR xs a b k).getD (b + k) z0 := ⟨_, rfl⟩
   rw [← hx1] at d1 d2 d3 hsw
   rw [← hx2] at c1 c2 c3 hsw
   obtain ⟨p1, p2, p3⟩ := x1
   obtain ⟨q1, q2, q3⟩ := x2
   simp only at d1 d2 d3 c1 c2 c3
   have HSW := Lib.hid hsw
   have HK := Lib.hid hK
   have hne : a + k ≠ b + k := by omega
   have hne2 : ¬ a + k = b + k := by omega
   have hne3 : ¬ b + k = a + k := by omega
   clear hI hK hsw hl hx1 hx2
   go_wp2
   go_region
   go_wp2
   go_roundw
   case rel =>
    refine ⟨k + 1, by omega, by go_num, ?_, ?_⟩
    ·exact Tris.drew HSW.out
    ·exact ((HK.out.put3 (b := g) (by simp) ((a + k) * 3) (q1, q2, q3)).put3 (b := g) (by simp) ((b + k) * 3) (p1, p2, p3)).drew
   case measure => simp [intOf]; omega
  ·obtain rfl : k = n := by omega
   have HI := Lib.hid hI
   have HK := Lib.hid hK
   clear hI hK
   go_wp2
   go_end0
   exact ⟨rfl, HI.out, HK.out⟩
theorem rotate_any (g : Nat) (E : Nat) (sp : List Value) (xs : List Tri) (c a m b : Nat) (fn : Value) (w : World) (hI : Tris E w g sp xs) (h1 : a < m) (h2 : m < b) (h3 : b ≤ xs.length) (hxl : xs.length ≤ 1000000) :
  Calls Tryd.prog 80 #[.slice (some ⟨g, 0, none⟩) xs.length c, .int .i64 a, .int .i64 m, .int .i64 b, fn] w fun e w' =>
   e = .returned (.tuple #[]) ∧ ∃ ys, Tris E w' g sp ys ∧ ys.Perm xs ∧ (∀ k, k < a ∨ b ≤ k → ys.getD k z0 = xs.getD k z0) ∧ (∀ k, a ≤ k → k < b → ys.getD k z0 = rotF xs a m b k) ∧ Keeps [g] w w' := by
 have HI := Lib.hid hI
 clear hI
 go_enter Tryd.func80, Tryd.ntmps80
 go_wp2
 go_loopw [10, 11] (fun i j wr => ∃ (ni nj : Nat) (zs : List Tri), i = .int .i64 ni ∧ j = .int .i64 nj ∧ RotI xs zs a m b ni nj ∧ Tris E wr g sp zs ∧ Keeps [g] w wr) (fun i j _ => (intOf i).toNat + (intOf j).toNat)
 case atStart => exact ⟨m - a, b - m, xs, by go_num, by go_num, RotI.start xs a m b h1 h2, HI.out, Keeps.refl _ _⟩
 case round =>
  obtain ⟨ni, nj, zs, rfl, rfl, hR, hI, hK⟩ := hrel
  have hzl : zs.length = xs.length := hR.perm.length_eq
  have hi0 := hR.i0
  have hj0 := hR.j0
  have hia := hR.ia
  have hjb := hR.jb
  rcases Nat.lt_trichotomy ni nj with h | h | h
  ·have hs := swapRange_any g E sp zs c (m - ni) (m + nj - ni) ni fn wr hI (by omega) (by omega) (by omega)
   rw [hzl] at hs
   have hR2 := hR.less (by omega) h
   have e1 : ((m - ni : Nat) : Int) = (m : Int) - ni := by omega
   have e2 : ((m + nj - ni : Nat) : Int) = (m : Int) + nj - ni := by omega
   rw [e1, e2] at hs
   have HS := Lib.hid hs
   have HR2 := Lib.hid hR2
   have HK := Lib.hid hK
   have hne : ((ni : Int) != (nj : Int)) = true := by simp; omega
   have hne2 : (ni != nj) = true := by simp; omega
   clear hs hR2 hK hI hR hzl e1 e2
   go_wp2_with fail
   refine Calls.mono HS.out ?_
   rintro e w1 ⟨rfl, hI1, hk1⟩
   have HI1 := Lib.hid hI1
   have HK1 := Lib.hid (HK.out.trans hk1)
   clear hI1 hk1
   go_wp2
   go_roundw
   case rel => exact ⟨ni, nj - ni, _, rfl, by go_num, HR2.out, HI1.out, HK1.out⟩
   case measure => simp [intOf]; omega
  ·subst h
   have hs := swapRange_any g E sp zs c (m - ni) m ni fn wr hI (by omega) (by omega) (by omega)
   rw [hzl] at hs
   have hR2 := hR.done (by omega)
   have e1 : ((m - ni : Nat) : Int) = (m : Int) - ni := by omega
   rw [e1] at hs
   have HS := Lib.hid hs
   have HR2 := Lib.hid hR2
   have HK := Lib.hid hK
   clear hs hR2 hK hI hR hzl e1
   go_wp2_with fail
   refine Calls.mono HS.out ?_
   rintro e w1 ⟨rfl, hI1, hk1⟩
   have HI1 := Lib.hid hI1
   have HK1 := Lib.hid (HK.out.trans hk1)
   clear hI1 hk1
   go_wp2
   go_end0
   exact ⟨rfl, _, HI1.out, HR2.out.1, HR2.out.2.1, HR2.out.2.2, HK1.out⟩
  ·have hs := swapRange_any g E sp zs c (m - ni) m nj fn wr hI (by omega) (by omega) (by omega)
   rw [hzl] at hs
   have hR2 := hR.more (by omega) h
   have e1 : ((m - ni : Nat) : Int) = (m : Int) - ni := by omega
   rw [e1] at hs
   have HS := Lib.hid hs
   have HR2 := Lib.hid hR2
   have HK := Lib.hid hK
   have hne : ((ni : Int) != (nj : Int)) = true := by simp; omega
   have hne2 : (ni != nj) = true := by simp; omega
   clear hs hR2 hK hI hR hzl e1
   go_wp2_with fail
   refine Calls.mono HS.out ?_
   rintro e w1 ⟨rfl, hI1, hk1⟩
   have HI1 := Lib.hid hI1
   have HK1 := Lib.hid (HK.out.trans hk1)
   clear hI1 hk1
   go_wp2
   go_roundw
   case rel => exact ⟨ni - nj, nj, _, by go_num, rfl, HR2.out, HI1.out, HK1.out⟩
   case measure => simp [intOf]; omega
end Go.Proofs.YtphnbmdcgcchaaaDoor
