/- Part 25 of the proof. No condition: every lemma says its own. -/
import Derived.Laws.EntriesVeiled
import Derived.BigQuiet
import Derived.Deep.DeepCutAuto
import Derived.Test.YtkekenaamnhbhaaGreatZsai
import Derived.Test.YtkekenaamnhbhaaGreatZsaw
import Derived.Test.YtkekenaamnhbhaaGreatZsag
import Derived.Test.YtkekenaamnhbhaaGreatZsam
namespace Go.Proofs.YtkekenaamnhbhaaGreat
open Go.RowKit Go.BigFrame
set_option maxRecDepth 100000
set_option maxHeartbeats 16000000
def RnkP (w : World) (K : Nat) (rk : List Int) (e : Ending) (w' : World) : Prop := ∃ kb, e = .returned (.slice (some ⟨kb, 0, none⟩) K K) ∧ SliceAt w' 3 1 (some kb) K K (bi rk) ∧ w.heap.size ≤ kb ∧ Keeps [] w w'
set_option linter.unusedSimpArgs false in
theorem ranks_any (w : World) (gb : Nat) (x : Gr) (rb ob : Nat) (pa : Option Nat) (pc : Nat) (rows : List Nat) (of : List Int) (ps : List Pt) (h : BG w gb x rb ob pa pc rows of ps) (ho : of.length = x.nodes.length) (hK : ps.length ≤ 64) (hof : ∀ i, of.getD i 0 < ps.length)
  (hE : ∀ i, i < x.edges.length → (0 ≤ (x.edges.getD i e40).fr ∧ (x.edges.getD i e40).fr < x.nodes.length) ∧ 0 ≤ (x.edges.getD i e40).tt ∧ (x.edges.getD i e40).tt < x.nodes.length) (hel : x.edges.length ≤ 1000000) :
  Calls Tryz.prog 45 #[.pointer (some ⟨gb, 0, none⟩)] w (RnkP w ps.length (rnkK of ps x.edges ps.length)) := by
 obtain ⟨ii, hii, hiz, his, hib⟩ := infoParts infoInt
 obtain ⟨⟨_, _, _, c3⟩, _, c5, c6⟩ := bg_cells h.box
 have HO := gI (fun i hi => bi_cell h.ofs i hi)
 have HED := gI (fun i (hi : i < x.edges.length) => ed_cells h.gr.edges hi)
 have HBG := gI h
 obtain ⟨es, hes⟩ : ∃ es, es = x.edges := ⟨_, rfl⟩
 rw [← hes] at c3 hE hel HED ⊢
 obtain ⟨N, hNN⟩ : ∃ N, N = x.nodes.length := ⟨_, rfl⟩
 rw [← hNN] at c5 ho hE
 obtain ⟨K, hKK⟩ : ∃ K, K = ps.length := ⟨_, rfl⟩
 rw [← hKK] at c6 hK hof ⊢
 obtain ⟨L, hL⟩ : ∃ L, L = es.length := ⟨_, rfl⟩
 rw [← hL] at c3
 obtain ⟨Q, hQ⟩ : ∃ Q, Q = RnkP w K (rnkK of ps es K) := ⟨_, rfl⟩
 rw [← hQ]
 have HQ := gI hQ
 have HL := gI hL
 have HKK := gI hKK
 have HOL := gI ho
 have HOF := gI hof
 have HE := gI hE
 have HC3 := gI c3
 have HC5 := gI c5
 simp only [sv] at c6
 have HC6 := gI c6
 have hll : L ≤ 1000000 := by omega
 have HMK : ∀ W : World, (Instr.makeSlice 22 (.int .i64 (K : Nat)) (.int .i64 (K : Nat))).run Tryz.prog W = .ok (.slice (some ⟨W.heap.size, 0, none⟩) K K) (W.alloc (.cells (List.replicate K (.int .i64 0)).toArray 3)) := fun W =>
  run_make_one Tryz.underlying22 hii hiz his hib rfl W K (by omega)
 obtain ⟨B, hB⟩ : ∃ B, B = w.heap.size := ⟨_, rfl⟩
 obtain ⟨Y, hY⟩ : ∃ Y, Y = w.alloc (.cells (List.replicate K (.int .i64 0)).toArray 3) := ⟨_, rfl⟩
 have hkY : Keeps [] w Y := by rw [hY]; exact Keeps.a1 _ _
 have d6 := hkY.cell c6 (by simp)
 have hsY : SliceAt Y 3 1 (some B) K K (bi (rnkK of ps es 0)) := by
  have hb : Y.heap[B]? = some (.cells (List.replicate K (.int .i64 0)).toArray 3 (0, 0)) := by rw [hY, hB]; exact heap_alloc_new w _
  have h := SliceAt.of_row (size := 1) (c := K) hb (by simp) (by unfold maxLen; omega)
  simpa [bi, rnkK, ← hKK] using h
 have HSY := gI hsY
 have HKY := gI hkY
 have HY := gI hY
 have HB := gI hB
 clear h hes hNN hKK hL hQ ho hof hE hY hB hkY hsY hii hiz his hib hel c3 c5
 go_enter Tryz.func45, Tryz.ntmps45
 go_upto_region 2 with fail
 try simp only [List.toArray_replicate] at HY
 rw [← HY.out, ← HB.out]
 clear c6
 go_upto_region 3 with fail
 clear d6
 go_loopw [19] (fun i wr => ∃ k : Nat, k ≤ K ∧ i = .int .i64 k ∧ SliceAt wr 3 1 (some B) K K (bi (rnkK of ps es k)) ∧ Keeps [] w wr) (fun i _ => K - (intOf i).toNat)
 case atStart => exact ⟨0, Nat.zero_le _, rfl, HSY.out, HKY.out⟩
 case round =>
  obtain ⟨k, hk, rfl, hs, hkp⟩ := hrel
  have HS := gI hs
  have HKP := gI hkp
  clear hs hkp
  have hw1 : IntKind.i64.wrap ((k : Int) + 1) = (k : Int) + 1 := IntWalk.i64_in _ (by omega)
  by_cases hkK : k < K
  ·have hki : (k : Int) < (K : Int) := by omega
   have c3 := HKP.out.cell HC3.out (by simp)
   go_upto_region 6 with fail
   clear c3
   go_loopw [28] (fun i wr => ∃ j : Nat, j ≤ L ∧ i = .int .i64 j ∧ SliceAt wr 3 1 (some B) K K (bi (rnkI of ps es k (rnkK of ps es k) j)) ∧ Keeps [] w wr) (fun i _ => L - (intOf i).toNat)
   case atStart => exact ⟨0, Nat.zero_le _, rfl, HS.out, HKP.out⟩
   case round =>
    obtain ⟨j, hj, rfl, hs, hkp⟩ := hrel
    have HS2 := gI hs
    have HKP2 := gI hkp
    clear hs hkp
    have hw2 : IntKind.i64.wrap ((j : Int) + 1) = (j : Int) + 1 := IntWalk.i64_in _ (by omega)
    by_cases hjL : j < L
    ·have hji : (j : Int) < (L : Int) := by omega
     obtain ⟨b, off, hla, v0, v1, v2, v3⟩ := HED.out j (by rw [← HL.out]; exact hjL)
     have v0 := HKP2.out.cell v0 (by simp)
     have v1 := HKP2.out.cell v1 (by simp)
     have v2 := HKP2.out.cell v2 (by simp)
     have v3 := HKP2.out.cell v3 (by simp)
     have hbj := HE.out j (by rw [← HL.out]; exact hjL)
     have HS3 := gI (show rnkI of ps es k (rnkK of ps es k) (j + 1) = rnkE of ps k (rnkI of ps es k (rnkK of ps es k) j) (es.getD j e40) from rfl)
     obtain ⟨rk, hrk⟩ : ∃ rk, rk = rnkI of ps es k (rnkK of ps es k) j := ⟨_, rfl⟩
     rw [← hrk] at HS2 HS3
     obtain ⟨e, he⟩ : ∃ e, e = es.getD j e40 := ⟨_, rfl⟩
     rw [← he] at v0 v1 v2 v3 hbj HS3
     clear he
     obtain ⟨f1, t1, l1, s1⟩ := e
     simp only at v0 v1 v2 v3 hbj
     obtain ⟨F, rfl⟩ := Int.eq_ofNat_of_zero_le hbj.1.1
     obtain ⟨T, rfl⟩ := Int.eq_ofNat_of_zero_le hbj.2.1
     have hFN : F < N := by omega
     have hTN : T < N := by omega
     obtain ⟨C, hC⟩ : ∃ C, C = wr.heap.size := ⟨_, rfl⟩
     obtain ⟨Z, hZ⟩ : ∃ Z, Z = wr.alloc (.cells #[.int .i64 F, .int .i64 T, .int .i64 l1, .int .i64 s1] 125) := ⟨_, rfl⟩
     have hkZ : Keeps [] wr Z := by rw [hZ]; exact Keeps.a1 _ _
     have HKZ := gI (HKP2.out.trans hkZ)
     have HSZ := gI (HS2.out.keep hkZ (by simp))
     have hZH : Z.heap[C]? = some (.cells #[.int .i64 F, .int .i64 T, .int .i64 l1, .int .i64 s1] 125 (0, 0)) := by rw [hZ, hC]; exact heap_alloc_new wr _
     have z0 : Z.cell? ⟨C, 0, none⟩ = some (.int .i64 F) := by simp [World.cell?, hZH]
     have z1 : Z.cell? ⟨C, 1, none⟩ = some (.int .i64 T) := by simp [World.cell?, hZH]
     have c5 := HKZ.out.cell HC5.out (by simp)
     have oF := HKZ.out.cell (HO.out F (by rw [HOL.out]; exact hFN)) (by simp)
     have oT := HKZ.out.cell (HO.out T (by rw [HOL.out]; exact hTN)) (by simp)
     have HP := gI (show rnkB of k ⟨F, T, l1, s1⟩ = (decide (0 ≤ of.getD F 0) && (decide (of.getD F 0 ≠ k) && decide (of.getD T 0 = k))) from rfl)
     have HR := gI (show rnkE of ps k rk ⟨F, T, l1, s1⟩ = if rnkB of k ⟨F, T, l1, s1⟩ then rk.set k (max (rk.getD k 0) (rk.getD (of.getD F 0).toNat 0 + riseP ps (of.getD F 0).toNat k)) else rk from rfl)
     have hoFK := HOF.out F
     obtain ⟨a, ha⟩ : ∃ a, a = of.getD F 0 := ⟨_, rfl⟩
     obtain ⟨c, hc⟩ : ∃ c, c = of.getD T 0 := ⟨_, rfl⟩
     rw [← ha] at oF HP HR hoFK
     rw [← hc] at oT HP
     have HRL := gI (show rk.length = K by rw [hrk, rnkI_length, rnkK_length, HKK.out])
     have HRB := gI (show ∀ q, 0 ≤ rk.getD q 0 ∧ rk.getD q 0 ≤ 100000000 from fun q => by
      have h1 := rnkI_bd (of := of) (ps := ps) (es := es) (i := k) (rnkK_bd (of := of) (ps := ps) (es := es) k) j q
      have h2 : k * es.length ≤ 64 * 1000000 := Nat.mul_le_mul (by omega) (by rw [← HL.out]; exact hll)
      rw [← hrk] at h1
      omega)
     have HRK := gI hrk
     have HZ := gI hZ
     have HC := gI hC
     rw [hla]
     clear ha hc hrk hZ hC hZH hkZ
     go_upto_region 8 with fail
     rw [← HZ.out, ← HC.out]
     clear v0 v1 v2 v3
     have HF := gI (show rnkB of k ⟨F, T, l1, s1⟩ = false → rnkI of ps es k (rnkK of ps es k) (j + 1) = rk from fun h => by rw [HS3.out, HR.out, h]; rfl)
     by_cases h0 : 0 ≤ a
     ·by_cases hak : a = k
      ·have HS4 := gI (HF.out (by rw [HP.out]; simp [hak]))
       go_quiet (fail)
       go_wp2
       go_quiet (fail)
       go_wp2
       go_roundw
       case rel => exact ⟨j + 1, by omega, by go_num, by rw [HS4.out]; exact HSZ.out.drewN _, HKZ.out.drewN _⟩
       case measure => simp [intOf]; omega
      ·by_cases hck : c = k
       ·subst hck
        obtain ⟨A, rfl⟩ := Int.eq_ofNat_of_zero_le h0
        have hAK : A < K := by omega
        have hAl : A < (bi rk).length := by simp [bi, HRL.out]; exact hAK
        have hkl : k < (bi rk).length := by simp [bi, HRL.out]; exact hkK
        have HT := gI (show rnkI of ps es k (rnkK of ps es k) (j + 1) = rk.set k (max (rk.getD k 0) (rk.getD A 0 + riseP ps A k)) from by
         rw [HS3.out, HR.out, HP.out, if_pos (by simp [hak]), Int.toNat_natCast])
        go_quiet (fail)
        rename Nat => nq1
        go_wp2
        go_quiet (fail)
        rename Nat => nq2
        go_wp2
        obtain ⟨V, hV⟩ : ∃ V, V = (Z.drewN nq1).drewN nq2 := ⟨_, rfl⟩
        have HSV := gI (show SliceAt V 3 1 (some B) K K (bi rk) by rw [hV]; exact (HSZ.out.drewN _).drewN _)
        have HKV := gI (show Keeps [] w V by rw [hV]; exact (HKZ.out.drewN _).drewN _)
        rw [← hV]
        clear hV
        have rA : V.drew.cell? ⟨B, A, none⟩ = some (.int .i64 (rk.getD A 0)) := bi_cell HSV.out A (by rw [HRL.out]; exact hAK)
        have rK : V.drew.cell? ⟨B, k, none⟩ = some (.int .i64 (rk.getD k 0)) := bi_cell HSV.out k (by rw [HRL.out]; exact hkK)
        have rf : V.drew.frozen? ⟨B, k, none⟩ = false := HSV.out.fz k
        have HC := gI (rise_any V.drew gb x rb ob pa pc rows of ps (HBG.out.keep HKV.out.drew) A k (by rw [← HKK.out]; exact hAK) (by rw [← HKK.out]; exact hkK))
        have hb1 := HRB.out A
        have hb2 := HRB.out k
        have hb3 := rise_bd ps A k
        obtain ⟨rA0, hrA0⟩ : ∃ v, v = rk.getD A 0 := ⟨_, rfl⟩
        obtain ⟨rK0, hrK0⟩ : ∃ v, v = rk.getD k 0 := ⟨_, rfl⟩
        obtain ⟨ri, hri⟩ : ∃ v, v = riseP ps A k := ⟨_, rfl⟩
        rw [← hrA0] at rA hb1 HT
        rw [← hrK0] at rK hb2 HT
        rw [← hri] at HC hb3 HT
        clear hrK0 hri
        have hws : IntKind.i64.wrap (rA0 + ri) = rA0 + ri := IntWalk.i64_in _ (by omega)
        have hmx : (if rK0 < rA0 + ri then rA0 + ri else rK0 : Int) = max rK0 (rA0 + ri) := by split <;> omega
        obtain ⟨X, hX⟩ : ∃ X, X = (V.setCell ⟨B, k, none⟩ (.int .i64 (max rK0 (rA0 + ri)))).drew := ⟨_, rfl⟩
        have HSX := gI (show SliceAt X 3 1 (some B) K K (bi (rk.set k (max rK0 (rA0 + ri)))) by
         have h := (HSV.out.set k (.int .i64 (max rK0 (rA0 + ri)))).keep ((Keeps.refl [] _).drew) (by simp)
         rw [hX]
         simpa [bi, List.map_set] using h)
        have hkX : Keeps [B] V X := by rw [hX]; exact ((Keeps.refl [B] V).setCell (by simp) _).drew
        have HKX := gI (show Keeps [] w X from HKV.out.after hkX (fun q hq => .inr (by simp at hq; subst hq; exact Nat.le_of_eq HB.out.symm)))
        have sA : X.cell? ⟨B, A, none⟩ = some (.int .i64 rA0) := by
         have h := bi_cell HSX.out A (by simp [HRL.out, hAK])
         rw [List.getD_eq_getElem?_getD, List.getElem?_set_ne (by omega), ← List.getD_eq_getElem?_getD, ← hrA0] at h
         exact h
        have HX := gI hX
        clear hkX hX hrA0
        refine wp_region_held_drew (S := fun W => W.cell? ⟨B, A, none⟩ = some (.int .i64 rA0)) (by kernel_rfl) rA (fun hHeld => ?_)
        refine take_on (i := 0) (v := ?_) rfl (by kernel_rfl) (by kernel_rfl) (by kernel_rfl) (fun _ _ _ h => h) (by rfl) (by assumption) ?_ ?_
        rotate_left
        ·((intro w hSw; (try dsimp only at hSw); go_simp <;> with_reducible rfl); done)
        try simp only [Act.put, List.setIfInBounds_toArray, List.set_cons_zero, List.set_cons_succ]
        refine take_on (i := 1) (v := ?_) rfl (by kernel_rfl) (by kernel_rfl) (by kernel_rfl) (fun _ _ _ h => h) (by rfl) (by assumption) ?_ ?_
        rotate_left
        ·((intro w hSw; (try dsimp only at hSw); go_simp <;> with_reducible rfl); done)
        try simp only [Act.put, List.setIfInBounds_toArray, List.set_cons_zero, List.set_cons_succ]
        refine take_on (i := 2) (v := ?_) rfl (by kernel_rfl) (by kernel_rfl) (by kernel_rfl) (fun _ _ _ h => h) (by rfl) (by assumption) ?_ ?_
        rotate_left
        ·((intro w hSw; (try dsimp only at hSw); go_simp <;> with_reducible rfl); done)
        try simp only [Act.put, List.setIfInBounds_toArray, List.set_cons_zero, List.set_cons_succ]
        refine take_on (i := 3) (v := ?_) rfl (by kernel_rfl) (by kernel_rfl) (by kernel_rfl) (fun _ _ _ h => h) (by rfl) (by assumption) ?_ ?_
        rotate_left
        ·((intro w hSw; (try dsimp only at hSw); go_simp <;> with_reducible rfl); done)
        try simp only [Act.put, List.setIfInBounds_toArray, List.set_cons_zero, List.set_cons_succ]
        refine take_on (i := 4) (v := ?_) rfl (by kernel_rfl) (by kernel_rfl) (by kernel_rfl) (fun _ _ _ h => h) (by rfl) (by assumption) ?_ ?_
        rotate_left
        ·((intro w hSw; (try dsimp only at hSw); go_simp <;> with_reducible rfl); done)
        try simp only [Act.put, List.setIfInBounds_toArray, List.set_cons_zero, List.set_cons_succ]
        refine take_on (i := 6) (v := ?_) rfl (by kernel_rfl) (by kernel_rfl) (by kernel_rfl) (fun _ _ _ h => h) (by rfl) (by assumption) ?_ ?_
        rotate_left
        ·((intro w hSw; (try dsimp only at hSw); go_simp <;> with_reducible rfl); done)
        try simp only [Act.put, List.setIfInBounds_toArray, List.set_cons_zero, List.set_cons_succ]
        refine take_on (i := 7) (v := ?_) rfl (by kernel_rfl) (by kernel_rfl) (by kernel_rfl) (fun _ _ _ h => h) (by rfl) (by assumption) ?_ ?_
        rotate_left
        ·((intro w hSw; (try dsimp only at hSw); go_simp <;> with_reducible rfl); done)
        try simp only [Act.put, List.setIfInBounds_toArray, List.set_cons_zero, List.set_cons_succ]
        refine take_on (i := 8) (v := ?_) rfl (by kernel_rfl) (by kernel_rfl) (by kernel_rfl) (fun _ _ _ h => h) (by rfl) (by assumption) ?_ ?_
        rotate_left
        ·((intro w hSw; (try dsimp only at hSw); go_simp <;> with_reducible rfl); done)
        try simp only [Act.put, List.setIfInBounds_toArray, List.set_cons_zero, List.set_cons_succ]
        refine take_on (i := 9) (v := ?_) rfl (by kernel_rfl) (by kernel_rfl) (by kernel_rfl) (fun _ _ _ h => h) (by rfl) (by assumption) ?_ ?_
        rotate_left
        ·((intro w hSw; (try dsimp only at hSw); go_simp <;> with_reducible rfl); done)
        try simp only [Act.put, List.setIfInBounds_toArray, List.set_cons_zero, List.set_cons_succ]
        refine take_on (i := 10) (v := ?_) rfl (by kernel_rfl) (by kernel_rfl) (by kernel_rfl) (fun _ _ _ h => h) (by rfl) (by assumption) ?_ ?_
        rotate_left
        ·((intro w hSw; (try dsimp only at hSw); go_simp <;> with_reducible rfl); done)
        try simp only [Act.put, List.setIfInBounds_toArray, List.set_cons_zero, List.set_cons_succ]
        refine take_on (i := 11) (v := ?_) rfl (by kernel_rfl) (by kernel_rfl) (by kernel_rfl) (fun _ _ _ h => h) (by rfl) (by assumption) ?_ ?_
        rotate_left
        ·((intro w hSw; (try dsimp only at hSw); go_simp <;> with_reducible rfl); done)
        try simp only [Act.put, List.setIfInBounds_toArray, List.set_cons_zero, List.set_cons_succ]
        refine take_on (i := 12) (v := ?_) rfl (by kernel_rfl) (by kernel_rfl) (by kernel_rfl) (fun _ _ _ h => h) (by rfl) (by assumption) ?_ ?_
        rotate_left
        ·((intro w hSw; (try dsimp only at hSw); go_simp <;> with_reducible rfl); done)
        try simp only [Act.put, List.setIfInBounds_toArray, List.set_cons_zero, List.set_cons_succ]
        refine branch_two (i := 5) (j := 13) rfl rfl (by kernel_rfl) (by rfl) (by rfl) (fun K hK => ?_) (fun K hK => ?_)
        ·go_simp
         refine hK.out _ _ (rA) (fun hHeld => ?_)
         clear hK K
         try simp only [Act.put, List.setIfInBounds_toArray, List.set_cons_zero, List.set_cons_succ]
         refine branch_one (i := 13) rfl (by kernel_rfl) (by rfl) (fun K hK => ?_)
         go_simp
         with_reducible refine Calls.mono HC.out ?_
         rintro e w8 ⟨rfl, rfl⟩
         refine hK.out _ _ (rA) (fun hHeld => ?_)
         clear hK K
         try simp only [Act.put, List.setIfInBounds_toArray, List.set_cons_zero, List.set_cons_succ]
         refine take_on (i := 14) (v := ?_) rfl (by kernel_rfl) (by kernel_rfl) (by kernel_rfl) (fun _ _ _ h => h) (by rfl) (by assumption) ?_ ?_
         rotate_left
         ·((intro w hSw; (try dsimp only at hSw); go_simp <;> with_reducible rfl); done)
         try simp only [Act.put, List.setIfInBounds_toArray, List.set_cons_zero, List.set_cons_succ]
         refine take_on (i := 15) (v := ?_) rfl (by kernel_rfl) (by kernel_rfl) (by kernel_rfl) (fun _ _ _ h => h) (by rfl) (by assumption) ?_ ?_
         rotate_left
         ·((intro w hSw; (try dsimp only at hSw); go_simp <;> with_reducible rfl); done)
         try simp only [Act.put, List.setIfInBounds_toArray, List.set_cons_zero, List.set_cons_succ]
         refine take_on (i := 16) (v := ?_) rfl (by kernel_rfl) (by kernel_rfl) (by kernel_rfl) (fun _ _ _ h => h) (by rfl) (by assumption) ?_ ?_
         rotate_left
         ·((intro w hSw; (try dsimp only at hSw); go_simp <;> with_reducible rfl); done)
         try simp only [Act.put, List.setIfInBounds_toArray, List.set_cons_zero, List.set_cons_succ]
         refine branch_one (i := 17) rfl (by kernel_rfl) (by rfl) (fun K hK => ?_)
         go_simp
         rw [← HX.out]
         refine hK.out _ _ (sA) (fun hHeld => ?_)
         clear hK K
         try simp only [Act.put, List.setIfInBounds_toArray, List.set_cons_zero, List.set_cons_succ]
         refine wpAnyH_done (by kernel_rfl) ?_ _
         clear hHeld sA rA rK rf
         go_wp2
         go_roundw
         case rel => exact ⟨j + 1, by omega, by go_num, by rw [HT.out]; exact HSX.out, HKX.out⟩
         case measure => simp [intOf]; omega
        ·go_simp
         with_reducible refine Calls.mono HC.out ?_
         rintro e w8 ⟨rfl, rfl⟩
         refine hK.out _ _ (rA) (fun hHeld => ?_)
         clear hK K
         try simp only [Act.put, List.setIfInBounds_toArray, List.set_cons_zero, List.set_cons_succ]
         refine take_on (i := 14) (v := ?_) rfl (by kernel_rfl) (by kernel_rfl) (by kernel_rfl) (fun _ _ _ h => h) (by rfl) (by assumption) ?_ ?_
         rotate_left
         ·((intro w hSw; (try dsimp only at hSw); go_simp <;> with_reducible rfl); done)
         try simp only [Act.put, List.setIfInBounds_toArray, List.set_cons_zero, List.set_cons_succ]
         refine branch_one (i := 5) rfl (by kernel_rfl) (by rfl) (fun K hK => ?_)
         go_simp
         refine hK.out _ _ (rA) (fun hHeld => ?_)
         clear hK K
         try simp only [Act.put, List.setIfInBounds_toArray, List.set_cons_zero, List.set_cons_succ]
         refine take_on (i := 15) (v := ?_) rfl (by kernel_rfl) (by kernel_rfl) (by kernel_rfl) (fun _ _ _ h => h) (by rfl) (by assumption) ?_ ?_
         rotate_left
         ·((intro w hSw; (try dsimp only at hSw); go_simp <;> with_reducible rfl); done)
         try simp only [Act.put, List.setIfInBounds_toArray, List.set_cons_zero, List.set_cons_succ]
         refine take_on (i := 16) (v := ?_) rfl (by kernel_rfl) (by kernel_rfl) (by kernel_rfl) (fun _ _ _ h => h) (by rfl) (by assumption) ?_ ?_
         rotate_left
         ·((intro w hSw; (try dsimp only at hSw); go_simp <;> with_reducible rfl); done)
         try simp only [Act.put, List.setIfInBounds_toArray, List.set_cons_zero, List.set_cons_succ]
         refine branch_one (i := 17) rfl (by kernel_rfl) (by rfl) (fun K hK => ?_)
         go_simp
         rw [← HX.out]
         refine hK.out _ _ (sA) (fun hHeld => ?_)
         clear hK K
         try simp only [Act.put, List.setIfInBounds_toArray, List.set_cons_zero, List.set_cons_succ]
         refine wpAnyH_done (by kernel_rfl) ?_ _
         clear hHeld sA rA rK rf
         go_wp2
         go_roundw
         case rel => exact ⟨j + 1, by omega, by go_num, by rw [HT.out]; exact HSX.out, HKX.out⟩
         case measure => simp [intOf]; omega
       ·have HS4 := gI (HF.out (by rw [HP.out]; simp [hck]))
        have hd1 : decide (c = (k : Int)) = false := by simpa using hck
        have hd2 : (c == (k : Int)) = false := by simpa using hck
        go_quiet (fail)
        go_wp2
        go_quiet (fail)
        go_wp2
        go_roundw
        case rel => exact ⟨j + 1, by omega, by go_num, by rw [HS4.out]; exact HSZ.out.drewN _, HKZ.out.drewN _⟩
        case measure => simp [intOf]; omega
     ·have HS4 := gI (HF.out (by rw [HP.out]; simp [h0]))
      have hd1 : decide (0 ≤ a) = false := by simpa using h0
      go_quiet (fail)
      go_wp2
      go_quiet (fail)
      go_wp2
      go_roundw
      case rel => exact ⟨j + 1, by omega, by go_num, by rw [HS4.out]; exact HSZ.out.drewN _, HKZ.out.drewN _⟩
      case measure => simp [intOf]; omega
    ·obtain rfl : j = L := by omega
     have HS3 := gI (show rnkK of ps es (k + 1) = rnkI of ps es k (rnkK of ps es k) j by rw [rnkK, ← HL.out])
     go_wp2
     go_roundw
     case rel => exact ⟨k + 1, by omega, by go_num, by rw [HS3.out]; exact HS2.out, HKP2.out⟩
     case measure => simp [intOf]; omega
  ·obtain rfl : k = K := by omega
   go_wp2
   rw [HQ.out]
   exact ⟨B, rfl, HS.out, Nat.le_of_eq HB.out.symm, HKP.out⟩
end Go.Proofs.YtkekenaamnhbhaaGreat
