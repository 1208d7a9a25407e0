/- Part 25 of the proof. No condition: every lemma says its own. -/
import Derived.Laws.EntriesVeiled
import Derived.Test.YtphnbmdcgcchaaaDoorEaw
namespace Go.Proofs.YtphnbmdcgcchaaaDoor
open Go.RowKit Go.Sort Go.BigFrame Classical
set_option maxRecDepth 100000
set_option maxHeartbeats 16000000
theorem infoIs : (Tryd.prog.info? 22).map (fun i => (i.zero, i.size, i.bytes)) = some (some (.slice none 0 0), 1, 24) := by kernel_rfl
theorem run_make_nil {P : Program} {E T : Nat} {i : TypeInfo} (ht : P.underlying T = some (.slice E)) (hi : P.info? E = some i) (hz : i.zero = some (.slice none 0 0)) (hs : i.size = 1) (hb : i.bytes = 24) (w : World) (n : Nat) (h1 : n ≤ 1000000000) :
  (Instr.makeSlice T (.int .i64 n) (.int .i64 n)).run P w = .ok (.slice (some ⟨w.heap.size, 0, none⟩) n n) (w.alloc (.cells (Array.replicate n (.slice none 0 0)) E)) := by
 have h := run_make (P := P) w T E i (.slice none 0 0) ht hi hz .i64 .i64 n n (by omega) (Int.le_refl _) (by rw [hb]; omega) (by omega)
 rw [h]
 simp only [Int.toNat_natCast]
 congr 3
 rw [show (Value.slice none 0 0).cells = #[Value.slice none 0 0] from rfl, madeCells_one, hs, Nat.mul_one]
 simp
theorem nodes_reach {x : Gr} {rows : List Nat} (hl : rows.length = x.nodes.length) (H : WRows (Ere x.edges) x.nodes.length rows) (ok : GrOK x) (hlt : ∀ n, n < rows.length → rows.getD n 0 < 2 ^ 64) :
  Nodes x.nodes.length (reachN rows x.first rows.length) ∧ ∀ a b, a < x.nodes.length → (reachN rows x.first rows.length).testBit a = true → (partN rows a).testBit b = true → (reachN rows x.first rows.length).testBit b = true := by
 have hw : ∀ n m, n < x.nodes.length → Way (Ere x.edges) n m → m < x.nodes.length := fun n m hn h => by
  induction h with
  | refl => exact hn
  | snoc _ hs ih =>
   obtain ⟨e, he, _, h2⟩ := hs
   have := (ok.ed e he).2.1
   omega
 refine ⟨⟨reachN_lt rows x.first hlt _ (Nat.le_refl _), fun i hi => ?_⟩, fun a b ha h1 h2 => ?_⟩
 ·obtain ⟨n, hn, _, hb⟩ := (reachN_bit rows x.first _ i).1 hi
  exact hw n i (by omega) ((H.2 n (by omega) i).1 hb)
 ·obtain ⟨n, hn, h3, hb⟩ := (reachN_bit rows x.first _ a).1 h1
  rw [partN_bit] at h2
  exact (reachN_bit rows x.first _ b).2 ⟨n, hn, h3, (H.2 n (by omega) b).2 (((H.2 n (by omega) a).1 hb).trans ((H.2 a ha b).1 h2.1))⟩
theorem Degree_any (x : Gr) (w : World) (hx : GrIn w x) (hT : TabW w) : Calls Tryd.prog 7 #[x.val] w (DegreePost w x) := by
 obtain ⟨Q, hQ⟩ : ∃ Q, Q = DegreePost w x := ⟨_, rfl⟩
 rw [← hQ]
 have HQ := Lib.hid hQ
 obtain ⟨B, hB⟩ : ∃ B, B = w.heap.size := ⟨_, rfl⟩
 obtain ⟨Y, hY⟩ : ∃ Y, Y = w.alloc (.cells x.row.toArray 26) := ⟨_, rfl⟩
 have hkY : Keeps [] w Y := by rw [hY]; exact Keeps.a1 _ _
 have hb : Y.heap[B]? = some (.cells x.row.toArray 26 (0, 0)) := by rw [hY, hB]; exact heap_alloc_new w _
 obtain ⟨b0, b1, b2, b3⟩ := row_cells4 hb
 have HX := Lib.hid (hx.keep hkY)
 have HY := Lib.hid (show w.alloc (.cells #[.slice x.ca x.cls.length x.cc, .slice x.na x.nodes.length x.nc, .slice x.fa x.first.length x.fc, .slice x.ea x.edges.length x.ec] 26) = Y by rw [hY]; rfl)
 have HB := Lib.hid hB
 have HKY := Lib.hid hkY
 have HV := Lib.hid (gvalid_any x Y (hx.keep hkY))
 have HTW := Lib.hid hT
 have hln := hx.ln
 simp only [Gr.val] at HV ⊢
 clear hQ hB hY hkY hb hx hT
 obtain ⟨gv, hgv⟩ : ∃ gv, gv = gvalE x := ⟨_, rfl⟩
 rw [← hgv] at HV
 have HGV := Lib.hid hgv
 clear hgv
 go_enter Tryd.func7, Tryd.ntmps7
 go_upto_region 1 with fail
 rw [HY.out, ← HB.out]
 go_wp2_with fail
 refine HV.out.mono ?_
 rintro e w2 ⟨rfl, hk2⟩
 have c0 := hk2.cell b0 (by simp)
 have c1 := hk2.cell b1 (by simp)
 have c2 := hk2.cell b2 (by simp)
 have c3 := hk2.cell b3 (by simp)
 have HK2 := Lib.hid (HKY.out.trans hk2)
 have HX2 := Lib.hid (HX.out.keep hk2)
 clear b0 b1 b2 b3 hk2
 by_cases hg : gv = 0
 ·subst hg
  have HOK := Lib.hid (gval_ok HGV.out.symm)
  have HF := Lib.hid (show ∀ e w', (Keeps [] w w' ∧ ∃ rows, WRows (Ere x.edges) x.nodes.length rows ∧ (((∃ s ∈ partsX x rows, DoubleAt x.edges rows (lowN s)) ∧ e = .returned (.tuple #[.int .i64 (-1), .int .i64 0])) ∨
   ((∀ s ∈ partsX x rows, ¬ DoubleAt x.edges rows (lowN s)) ∧ ∃ (L : Nat → Nat) (D : Nat), IsL (partsX x rows).length (rchP rows (partsX x rows)) (ldP x.edges rows (partsX x rows)) L ∧ e = .returned (.tuple #[.int .i64 D, .int .i64 0]) ∧
    (∀ i, i < (partsX x rows).length → L i ≤ D) ∧ (D = 0 ∨ ∃ i, i < (partsX x rows).length ∧ D = L i)))) → Q e w' from fun e w' h => by
   rw [HQ.out]
   refine ⟨h.1, ?_⟩
   rw [if_neg (by rw [← HGV.out]; simp)]
   exact h.2)
  have HNW := Lib.hid (newWays_any x w2 HX2.out HOK.out)
  simp only [Gr.val] at HNW
  go_wp2_with fail
  refine HNW.out.mono ?_
  rintro e w3 ⟨wb, rows, rfl, hw3, hrows, hlt, hk3⟩
  have hE3 : WEnv w3 wb x rows := ⟨hw3, HOK.out, hrows, fun n hn => hlt n (by rw [← hrows.1]; exact hn), HTW.out.keep (HK2.out.trans hk3) (by simp)⟩
  obtain ⟨p5, hp5⟩ : ∃ n, n = w3.heap.size := ⟨_, rfl⟩
  obtain ⟨w4, hw4⟩ : ∃ w4, w4 = w3.alloc (.cells #[.pointer (some ⟨wb, 0, none⟩)] 54) := ⟨_, rfl⟩
  have hk4 : Keeps [] w3 w4 := by rw [hw4]; exact Keeps.a1 _ _
  have h5 : w4.heap[p5]? = some (.cells #[.pointer (some ⟨wb, 0, none⟩)] 54 (0, 0)) := by rw [hw4, hp5]; exact heap_alloc_new w3 _
  have d5 : w4.cell? ⟨p5, 0, none⟩ = some (.pointer (some ⟨wb, 0, none⟩)) := by simp [World.cell?, h5]
  have HROWS := Lib.hid hrows
  have HE4 := Lib.hid (hE3.keep hk4)
  have HK4 := Lib.hid ((HK2.out.trans hk3).trans hk4)
  have HW4 := Lib.hid hw4
  have HP5 := Lib.hid hp5
  have hnr := nodes_reach hE3.len hrows HOK.out hE3.lt
  have HNR := Lib.hid hnr
  obtain ⟨P, hP⟩ : ∃ P, P = partsX x rows := ⟨_, rfl⟩
  have hpok := partsN_ok hrows HOK.out.ln 64 (reachN rows x.first rows.length) hnr.1 (cntB_le_k _ _) hnr.2
  rw [show partsN rows 64 (reachN rows x.first rows.length) = P from hP.symm] at hpok
  have HPOK := Lib.hid hpok
  have HRE := Lib.hid (fun W (k : Keeps [] w4 W) => reached_any wb x rows W ((hE3.keep hk4).ways.keep k) hE3.len HOK.out.lf HOK.out.ln hE3.lt)
  have HPA := Lib.hid (fun W (k : Keeps [] w4 W) => parts_any wb x rows (reachN rows x.first rows.length) W ((hE3.keep hk4).keep k) hnr.1)
  rw [show partsN rows 64 (reachN rows x.first rows.length) = P from hP.symm] at HPA
  obtain ⟨re, hre⟩ : ∃ re, re = reachN rows x.first rows.length := ⟨_, rfl⟩
  simp only [← hre] at HRE HPA
  have HPE := Lib.hid hP
  clear hw3 hrows hlt hk3 hE3 hp5 hw4 hk4 h5 hnr hpok hre hP c0 c1 c2 c3
  go_upto_region 5 with fail
  rw [← HW4.out, ← HP5.out]
  go_cut [6] (fun s6 wx => ∃ (p6 : Nat) (a : Option Nat) (c : Nat), s6 = .pointer (some ⟨p6, 0, none⟩) ∧ wx.heap[p6]? = some (.cells #[.slice (a.map fun g => ⟨g, 0, none⟩) P.length c] 56 (0, 0)) ∧ SliceAt wx 59 1 a P.length c (P.map fun r => .int .u64 ((r : Nat) : Int)) ∧ Keeps [] w4 wx)
  case first =>
   refine wp_region_held_drew (S := fun w' => w'.cell? ⟨p5, 0, none⟩ = some (.pointer (some ⟨wb, 0, none⟩))) (by kernel_rfl) d5 (fun hHeld => ?_)
   have hk0 : Keeps [] w4 w4.drew := (Keeps.refl [] w4).drew
   refine take_on (i := 0) (v := ?_) rfl (by kernel_rfl) (by kernel_rfl) (by kernel_rfl) (fun _ _ _ h => h) (by rfl) (by assumption) ?_ ?_
   rotate_left
   ·((intro w hSw; (try dsimp only at hSw); go_simp <;> with_reducible rfl); done)
   try simp only [Act.put, List.setIfInBounds_toArray, List.set_cons_zero, List.set_cons_succ]
   refine take_on (i := 1) (v := ?_) rfl (by kernel_rfl) (by kernel_rfl) (by kernel_rfl) (fun _ _ _ h => h) (by rfl) (by assumption) ?_ ?_
   rotate_left
   ·((intro w hSw; (try dsimp only at hSw); go_simp <;> with_reducible rfl); done)
   try simp only [Act.put, List.setIfInBounds_toArray, List.set_cons_zero, List.set_cons_succ]
   refine branch_two (i := 2) (j := 4) rfl rfl (by kernel_rfl) (by rfl) (by rfl) (fun K hK => ?_) (fun K hK => ?_)
   ·go_simp
    with_reducible refine Calls.mono (HRE.out _ hk0) ?_
    rintro e v1 ⟨rfl, rfl⟩
    refine hK.out _ _ (hk0.cell d5 (by simp)) (fun hHeld => ?_)
    clear hK K
    try simp only [Act.put, List.setIfInBounds_toArray, List.set_cons_zero, List.set_cons_succ]
    refine branch_two (i := 3) (j := 4) rfl rfl (by kernel_rfl) (by rfl) (by rfl) (fun K hK => ?_) (fun K hK => ?_)
    ·go_simp
     with_reducible refine Calls.mono (HPA.out _ hk0) ?_
     rintro e v2 ⟨a, c, rfl, hs2, hv2, hg2⟩
     have hK2 := hk0.trans hv2
     have HS2 := Lib.hid hs2
     clear hs2 hg2
     refine hK.out _ _ (hK2.cell d5 (by simp)) (fun hHeld => ?_)
     clear hK K
     try simp only [Act.put, List.setIfInBounds_toArray, List.set_cons_zero, List.set_cons_succ]
     refine branch_one (i := 4) rfl (by kernel_rfl) (by rfl) (fun K hK => ?_)
     go_simp
     obtain ⟨C3, hC3⟩ : ∃ C, C = v2.heap.size := ⟨_, rfl⟩
     obtain ⟨v3, hv3⟩ : ∃ v, v = (v2.alloc (.cells #[.slice none 0 0] 56)) := ⟨_, rfl⟩
     rw [← hC3, ← hv3]
     have hz3 : v3.heap[C3]? = some (.cells #[.slice none 0 0] 56 (0, 0)) := by rw [hv3, hC3]; exact heap_alloc_new v2 _
     have hK3 : Keeps [] w4 v3 := by rw [hv3]; exact hK2.trans (Keeps.a1 v2 _)
     have HG3 := Lib.hid (show w4.heap.size ≤ C3 by rw [hC3]; exact hK2.size)
     have HS3 := Lib.hid (HS2.out.keep (show Keeps [] v2 v3 by rw [hv3]; exact Keeps.a1 v2 _) (by simp))
     have HN3 := Lib.hid (show ∀ g, a = some g → g ≠ C3 from fun g hg e => by subst hg; have := HS2.out.lt; omega)
     have HZ3 := Lib.hid hz3
     clear hz3 hC3 hv3
     refine hK.out _ _ (hK3.cell d5 (by simp)) (fun hHeld => ?_)
     clear hK K
     try simp only [Act.put, List.setIfInBounds_toArray, List.set_cons_zero, List.set_cons_succ]
     obtain ⟨z0, zf⟩ : v3.cell? ⟨C3, 0, none⟩ = some (.slice none 0 0) ∧ v3.frozen? ⟨C3, 0, none⟩ = false := by simp [World.cell?, World.frozen?, HZ3.out]
     have hset := heap_setCell_same v3 C3 0 _ _ (.slice (a.map fun g => ⟨g, 0, none⟩) P.length c) HZ3.out
     have HSET := Lib.hid (show (v3.setCell ⟨C3, 0, none⟩ (.slice (a.map fun g => ⟨g, 0, none⟩) P.length c)).heap[C3]? = some (.cells #[.slice (a.map fun g => ⟨g, 0, none⟩) P.length c] 56 (0, 0)) by rw [hset]; rfl)
     have hKF := hK3.setCell (p := ⟨C3, 0, none⟩) (.inr HG3.out) (.slice (a.map fun g => ⟨g, 0, none⟩) P.length c)
     have hSF := HS3.out.keep ((Keeps.refl [C3] v3).setCell (p := ⟨C3, 0, none⟩) (by simp) (.slice (a.map fun g => ⟨g, 0, none⟩) P.length c)) (fun g hg => by simpa using HN3.out g hg)
     clear hset
     simp only [sv]
     refine branch_one (i := 5) rfl (by kernel_rfl) (by rfl) (fun K hK => ?_)
     go_simp
     refine hK.out _ _ (hKF.cell d5 (by simp)) (fun hHeld => ?_)
     clear hK K
     try simp only [Act.put, List.setIfInBounds_toArray, List.set_cons_zero, List.set_cons_succ]
     refine wpAnyH_done (by kernel_rfl) ?_ _
     go_wp2
     go_meet
     exact ⟨C3, a, c, rfl, HSET.out, hSF, hKF⟩
    ·go_simp
     obtain ⟨C4, hC4⟩ : ∃ C, C = w4.heap.size := ⟨_, rfl⟩
     obtain ⟨v4, hv4⟩ : ∃ v, v = (w4.alloc (.cells #[.slice none 0 0] 56)).drew := ⟨_, rfl⟩
     rw [← hC4, ← hv4]
     have hz4 : v4.heap[C4]? = some (.cells #[.slice none 0 0] 56 (0, 0)) := by rw [hv4, hC4]; exact heap_alloc_new w4 _
     have hK4 : Keeps [] w4 v4 := by rw [hv4]; exact (Keeps.a1 w4 _).drew
     have HG4 := Lib.hid (show w4.heap.size ≤ C4 by rw [hC4]; exact Nat.le_refl _)
     have HZ4 := Lib.hid hz4
     clear hz4 hC4 hv4
     refine hK.out _ _ (hK4.cell d5 (by simp)) (fun hHeld => ?_)
     clear hK K
     try simp only [Act.put, List.setIfInBounds_toArray, List.set_cons_zero, List.set_cons_succ]
     refine branch_one (i := 3) rfl (by kernel_rfl) (by rfl) (fun K hK => ?_)
     go_simp
     with_reducible refine Calls.mono (HPA.out _ hK4) ?_
     rintro e v5 ⟨a, c, rfl, hs5, hv5, hg5⟩
     have hK5 := hK4.trans hv5
     have HS5 := Lib.hid hs5
     have HY5 := Lib.hid (hv5.heap HZ4.out (by simp))
     have HN5 := Lib.hid (show ∀ g, a = some g → g ≠ C4 from fun g hg e => by have h1 := hg5 g hg; have h2 := lt_of_block HZ4.out; omega)
     clear hs5 hg5
     refine hK.out _ _ (hK5.cell d5 (by simp)) (fun hHeld => ?_)
     clear hK K
     try simp only [Act.put, List.setIfInBounds_toArray, List.set_cons_zero, List.set_cons_succ]
     obtain ⟨z0, zf⟩ : v5.cell? ⟨C4, 0, none⟩ = some (.slice none 0 0) ∧ v5.frozen? ⟨C4, 0, none⟩ = false := by simp [World.cell?, World.frozen?, HY5.out]
     have hset := heap_setCell_same v5 C4 0 _ _ (.slice (a.map fun g => ⟨g, 0, none⟩) P.length c) HY5.out
     have HSET := Lib.hid (show (v5.setCell ⟨C4, 0, none⟩ (.slice (a.map fun g => ⟨g, 0, none⟩) P.length c)).heap[C4]? = some (.cells #[.slice (a.map fun g => ⟨g, 0, none⟩) P.length c] 56 (0, 0)) by rw [hset]; rfl)
     have hKF := hK5.setCell (p := ⟨C4, 0, none⟩) (.inr HG4.out) (.slice (a.map fun g => ⟨g, 0, none⟩) P.length c)
     have hSF := HS5.out.keep ((Keeps.refl [C4] v5).setCell (p := ⟨C4, 0, none⟩) (by simp) (.slice (a.map fun g => ⟨g, 0, none⟩) P.length c)) (fun g hg => by simpa using HN5.out g hg)
     clear hset
     simp only [sv]
     refine branch_one (i := 5) rfl (by kernel_rfl) (by rfl) (fun K hK => ?_)
     go_simp
     refine hK.out _ _ (hKF.cell d5 (by simp)) (fun hHeld => ?_)
     clear hK K
     try simp only [Act.put, List.setIfInBounds_toArray, List.set_cons_zero, List.set_cons_succ]
     refine wpAnyH_done (by kernel_rfl) ?_ _
     go_wp2
     go_meet
     exact ⟨C4, a, c, rfl, HSET.out, hSF, hKF⟩
   ·go_simp
    obtain ⟨C6, hC6⟩ : ∃ C, C = w4.heap.size := ⟨_, rfl⟩
    obtain ⟨v6, hv6⟩ : ∃ v, v = (w4.alloc (.cells #[.slice none 0 0] 56)).drew := ⟨_, rfl⟩
    rw [← hC6, ← hv6]
    have hz6 : v6.heap[C6]? = some (.cells #[.slice none 0 0] 56 (0, 0)) := by rw [hv6, hC6]; exact heap_alloc_new w4 _
    have hK6 : Keeps [] w4 v6 := by rw [hv6]; exact (Keeps.a1 w4 _).drew
    have HG6 := Lib.hid (show w4.heap.size ≤ C6 by rw [hC6]; exact Nat.le_refl _)
    have HZ6 := Lib.hid hz6
    clear hz6 hC6 hv6
    refine hK.out _ _ (hK6.cell d5 (by simp)) (fun hHeld => ?_)
    clear hK K
    try simp only [Act.put, List.setIfInBounds_toArray, List.set_cons_zero, List.set_cons_succ]
    refine branch_one (i := 2) rfl (by kernel_rfl) (by rfl) (fun K hK => ?_)
    go_simp
    with_reducible refine Calls.mono (HRE.out _ hK6) ?_
    rintro e v7 ⟨rfl, rfl⟩
    refine hK.out _ _ (hK6.cell d5 (by simp)) (fun hHeld => ?_)
    clear hK K
    try simp only [Act.put, List.setIfInBounds_toArray, List.set_cons_zero, List.set_cons_succ]
    refine branch_one (i := 3) rfl (by kernel_rfl) (by rfl) (fun K hK => ?_)
    go_simp
    with_reducible refine Calls.mono (HPA.out _ hK6) ?_
    rintro e v8 ⟨a, c, rfl, hs8, hv8, hg8⟩
    have hK8 := hK6.trans hv8
    have HS8 := Lib.hid hs8
    have HY8 := Lib.hid (hv8.heap HZ6.out (by simp))
    have HN8 := Lib.hid (show ∀ g, a = some g → g ≠ C6 from fun g hg e => by have h1 := hg8 g hg; have h2 := lt_of_block HZ6.out; omega)
    clear hs8 hg8
    refine hK.out _ _ (hK8.cell d5 (by simp)) (fun hHeld => ?_)
    clear hK K
    try simp only [Act.put, List.setIfInBounds_toArray, List.set_cons_zero, List.set_cons_succ]
    obtain ⟨z0, zf⟩ : v8.cell? ⟨C6, 0, none⟩ = some (.slice none 0 0) ∧ v8.frozen? ⟨C6, 0, none⟩ = false := by simp [World.cell?, World.frozen?, HY8.out]
    have hset := heap_setCell_same v8 C6 0 _ _ (.slice (a.map fun g => ⟨g, 0, none⟩) P.length c) HY8.out
    have HSET := Lib.hid (show (v8.setCell ⟨C6, 0, none⟩ (.slice (a.map fun g => ⟨g, 0, none⟩) P.length c)).heap[C6]? = some (.cells #[.slice (a.map fun g => ⟨g, 0, none⟩) P.length c] 56 (0, 0)) by rw [hset]; rfl)
    have hKF := hK8.setCell (p := ⟨C6, 0, none⟩) (.inr HG6.out) (.slice (a.map fun g => ⟨g, 0, none⟩) P.length c)
    have hSF := HS8.out.keep ((Keeps.refl [C6] v8).setCell (p := ⟨C6, 0, none⟩) (by simp) (.slice (a.map fun g => ⟨g, 0, none⟩) P.length c)) (fun g hg => by simpa using HN8.out g hg)
    clear hset
    simp only [sv]
    refine branch_one (i := 5) rfl (by kernel_rfl) (by rfl) (fun K hK => ?_)
    go_simp
    refine hK.out _ _ (hKF.cell d5 (by simp)) (fun hHeld => ?_)
    clear hK K
    try simp only [Act.put, List.setIfInBounds_toArray, List.set_cons_zero, List.set_cons_succ]
    refine wpAnyH_done (by kernel_rfl) ?_ _
    go_wp2
    go_meet
    exact ⟨C6, a, c, rfl, HSET.out, hSF, hKF⟩
  case rest =>
   obtain ⟨p6, pa, pc, rfl, h6, hrow, hk5⟩ := hcut
   obtain ⟨w5, hw5⟩ : ∃ w5 : World, w5 = wc := ⟨_, rfl⟩
   subst hw5
   have HROW := Lib.hid hrow
   have d5 := hk5.cell d5 (by simp)
   have d6 : w5.cell? ⟨p6, 0, none⟩ = some (.slice (pa.map fun g => ⟨g, 0, none⟩) P.length pc) := by simp [World.cell?, h6]
   have HD5 := Lib.hid d5
   have HD6 := Lib.hid d6
   have HK5 := Lib.hid (HK4.out.trans hk5)
   have HE5 := Lib.hid (HE4.out.keep hk5)
   have hsm : P.length ≤ 64 := by rw [HPE.out]; exact partsN_len rows 64 _
   clear h6 hrow hk5
   go_wp2
   go_loopw [34] (fun v wr => ∃ q : Nat, v = .int .i64 q ∧ q ≤ P.length ∧ Keeps [] w5 wr ∧ ∀ i, i < q → ¬ DoubleAt x.edges rows (lowN (P.getD i 0))) (fun v _ => P.length - (intOf v).toNat)
   case atStart => exact ⟨0, rfl, Nat.zero_le _, Keeps.refl _ _, fun i h => absurd h (Nat.not_lt_zero _)⟩
   case round =>
    obtain ⟨q, rfl, hq, hkq, hnd⟩ := hrel
    obtain ⟨wA, hwA⟩ : ∃ wA : World, wA = wr := ⟨_, rfl⟩
    subst hwA
    have HKQ := Lib.hid hkq
    have HND := Lib.hid hnd
    have d5 := hkq.cell HD5.out (by simp)
    clear d6 hnd
    by_cases hqm : q < P.length
    ·have hrow := HROW.out.keep hkq (by simp)
     obtain ⟨g, rfl⟩ := hrow.some_of (by omega)
     simp only [Option.map_some]
     have rk := hrow.cell q (by simpa using hqm)
     simp only [List.getElem_map] at rk
     rw [show P[q] = P.getD q 0 by simp [List.getD, hqm]] at rk
     obtain ⟨nk, nk0⟩ := HPOK.out.1.nodes _ (mem_getN hqm)
     have lk := nk.low nk0
     have hEw := HE5.out.keep hkq
     have HF1 := Lib.hid (fun W (k : Keeps [] w5 W) => first_any (P.getD q 0) W nk0 nk.1 (HE5.out.tab.keep k (by simp)))
     have HDB := Lib.hid (fun W (k : Keeps [] w5 W) => double_any search_ok wb x rows (lowN (P.getD q 0)) W (HE5.out.ways.keep k) HOK.out HE5.out.len HE5.out.lt (by rw [HE5.out.len]; exact lk.1))
     have HDA := Lib.hid (show ∀ e W' W, SearchPost W (DSucc x.edges (partN rows (lowN (P.getD q 0)))) ((lowN (P.getD q 0) : Int), (lowN (P.getD q 0) : Int), 0) ((lowN (P.getD q 0) : Int), (lowN (P.getD q 0) : Int), 1) e W' → Keeps [] W W' ∧ ((∃ s, e = .returned (.tuple #[s, .bool true]) ∧ DoubleAt x.edges rows (lowN (P.getD q 0))) ∨ (∃ s, e = .returned (.tuple #[s, .bool false]) ∧ ¬ DoubleAt x.edges rows (lowN (P.getD q 0)))) from fun e W' W h => by
      refine ⟨h.1, ?_⟩
      rcases h.2 with ⟨a, c, word, rfl, _, hl, _⟩ | ⟨rfl, hno⟩
      ·exact .inl ⟨_, rfl, word, hl.1⟩
      ·exact .inr ⟨_, rfl, fun ⟨v, hv⟩ => hno v hv⟩)
     have HDE := Lib.hid (show DoubleAt x.edges rows (lowN (P.getD q 0)) ↔ DoubleAt x.edges rows (lowN (P.getD q 0)) from Iff.rfl)
     obtain ⟨lq, hlq⟩ : ∃ n, n = lowN (P.getD q 0) := ⟨_, rfl⟩
     obtain ⟨Pq, hPq⟩ : ∃ n, n = P.getD q 0 := ⟨_, rfl⟩
     rw [← hlq] at HF1 HDB HDA
     simp only [← hPq] at HF1 rk
     have HLQ := Lib.hid hlq
     clear hrow nk nk0 lk hEw hlq hPq HDE hkq
     go_upto_region 9 with fail
     go_cut [9, 10, 34] from 34 to 46 (fun s9 s10 s34 wx => s34 = .int .i64 q ∧ ∃ ok : Bool, s10 = .bool ok ∧ (ok = true → DoubleAt x.edges rows lq) ∧ (ok = false → ¬ DoubleAt x.edges rows lq) ∧ Keeps [] w5 wx)
     case first =>
      refine wp_region_held_drew (S := fun w' => w'.cell? ⟨p5, 0, none⟩ = some (.pointer (some ⟨wb, 0, none⟩))) (by kernel_rfl) d5 (fun hHeld => ?_)
      have hkd := HKQ.out.drew
      refine take_on (i := 0) (v := ?_) rfl (by kernel_rfl) (by kernel_rfl) (by kernel_rfl) (fun _ _ _ h => h) (by rfl) (by assumption) ?_ ?_
      rotate_left
      ·((intro w hSw; (try dsimp only at hSw); go_simp <;> with_reducible rfl); done)
      try simp only [Act.put, List.setIfInBounds_toArray, List.set_cons_zero, List.set_cons_succ]
      refine take_on (i := 1) (v := ?_) rfl (by kernel_rfl) (by kernel_rfl) (by kernel_rfl) (fun _ _ _ h => h) (by rfl) (by assumption) ?_ ?_
      rotate_left
      ·((intro w hSw; (try dsimp only at hSw); go_simp <;> with_reducible rfl); done)
      try simp only [Act.put, List.setIfInBounds_toArray, List.set_cons_zero, List.set_cons_succ]
      refine branch_one (i := 2) rfl (by kernel_rfl) (by rfl) (fun K hK => ?_)
      go_simp
      with_reducible refine Calls.mono (HF1.out _ hkd) ?_
      rintro e v1 ⟨rfl, rfl⟩
      refine hK.out _ _ (d5) (fun hHeld => ?_)
      clear hK K
      try simp only [Act.put, List.setIfInBounds_toArray, List.set_cons_zero, List.set_cons_succ]
      refine branch_one (i := 3) rfl (by kernel_rfl) (by rfl) (fun K hK => ?_)
      go_simp
      with_reducible refine Calls.mono (HDB.out _ hkd) ?_
      intro e v2 hsp
      obtain ⟨hv2, h2⟩ := HDA.out _ _ _ hsp
      have hk2 := hkd.trans hv2
      have HK2' := Lib.hid hk2
      rcases h2 with ⟨s, rfl, hda⟩ | ⟨s, rfl, hda⟩
      ·have HDA2 := Lib.hid hda
       clear hsp hda hv2
       refine hK.out _ _ (hk2.cell HD5.out (by simp)) (fun hHeld => ?_)
       clear hK K
       try simp only [Act.put, List.setIfInBounds_toArray, List.set_cons_zero, List.set_cons_succ]
       refine take_on (i := 4) (v := ?_) rfl (by kernel_rfl) (by kernel_rfl) (by kernel_rfl) (fun _ _ _ h => h) (by rfl) (by assumption) ?_ ?_
       rotate_left
       ·((intro w hSw; (try dsimp only at hSw); go_simp <;> with_reducible rfl); done)
       try simp only [Act.put, List.setIfInBounds_toArray, List.set_cons_zero, List.set_cons_succ]
       refine take_on (i := 5) (v := ?_) rfl (by kernel_rfl) (by kernel_rfl) (by kernel_rfl) (fun _ _ _ h => h) (by rfl) (by assumption) ?_ ?_
       rotate_left
       ·((intro w hSw; (try dsimp only at hSw); go_simp <;> with_reducible rfl); done)
       try simp only [Act.put, List.setIfInBounds_toArray, List.set_cons_zero, List.set_cons_succ]
       refine take_on (i := 6) (v := ?_) rfl (by kernel_rfl) (by kernel_rfl) (by kernel_rfl) (fun _ _ _ h => h) (by rfl) (by assumption) ?_ ?_
       rotate_left
       ·((intro w hSw; (try dsimp only at hSw); go_simp <;> with_reducible rfl); done)
       try simp only [Act.put, List.setIfInBounds_toArray, List.set_cons_zero, List.set_cons_succ]
       refine take_on (i := 7) (v := ?_) rfl (by kernel_rfl) (by kernel_rfl) (by kernel_rfl) (fun _ _ _ h => h) (by rfl) (by assumption) ?_ ?_
       rotate_left
       ·((intro w hSw; (try dsimp only at hSw); go_simp <;> with_reducible rfl); done)
       try simp only [Act.put, List.setIfInBounds_toArray, List.set_cons_zero, List.set_cons_succ]
       refine take_on (i := 8) (v := ?_) rfl (by kernel_rfl) (by kernel_rfl) (by kernel_rfl) (fun _ _ _ h => h) (by rfl) (by assumption) ?_ ?_
       rotate_left
       ·((intro w hSw; (try dsimp only at hSw); go_simp <;> with_reducible rfl); done)
       try simp only [Act.put, List.setIfInBounds_toArray, List.set_cons_zero, List.set_cons_succ]
       refine wpAnyH_done (by kernel_rfl) ?_ _
       go_wp2
       go_meet
       exact ⟨rfl, true, rfl, (fun _ => HDA2.out), (fun h => by cases h), HK2'.out⟩
      ·have HDA2 := Lib.hid hda
       clear hsp hda hv2
       refine hK.out _ _ (hk2.cell HD5.out (by simp)) (fun hHeld => ?_)
       clear hK K
       try simp only [Act.put, List.setIfInBounds_toArray, List.set_cons_zero, List.set_cons_succ]
       refine take_on (i := 4) (v := ?_) rfl (by kernel_rfl) (by kernel_rfl) (by kernel_rfl) (fun _ _ _ h => h) (by rfl) (by assumption) ?_ ?_
       rotate_left
       ·((intro w hSw; (try dsimp only at hSw); go_simp <;> with_reducible rfl); done)
       try simp only [Act.put, List.setIfInBounds_toArray, List.set_cons_zero, List.set_cons_succ]
       refine take_on (i := 5) (v := ?_) rfl (by kernel_rfl) (by kernel_rfl) (by kernel_rfl) (fun _ _ _ h => h) (by rfl) (by assumption) ?_ ?_
       rotate_left
       ·((intro w hSw; (try dsimp only at hSw); go_simp <;> with_reducible rfl); done)
       try simp only [Act.put, List.setIfInBounds_toArray, List.set_cons_zero, List.set_cons_succ]
       refine take_on (i := 6) (v := ?_) rfl (by kernel_rfl) (by kernel_rfl) (by kernel_rfl) (fun _ _ _ h => h) (by rfl) (by assumption) ?_ ?_
       rotate_left
       ·((intro w hSw; (try dsimp only at hSw); go_simp <;> with_reducible rfl); done)
       try simp only [Act.put, List.setIfInBounds_toArray, List.set_cons_zero, List.set_cons_succ]
       refine take_on (i := 7) (v := ?_) rfl (by kernel_rfl) (by kernel_rfl) (by kernel_rfl) (fun _ _ _ h => h) (by rfl) (by assumption) ?_ ?_
       rotate_left
       ·((intro w hSw; (try dsimp only at hSw); go_simp <;> with_reducible rfl); done)
       try simp only [Act.put, List.setIfInBounds_toArray, List.set_cons_zero, List.set_cons_succ]
       refine take_on (i := 8) (v := ?_) rfl (by kernel_rfl) (by kernel_rfl) (by kernel_rfl) (fun _ _ _ h => h) (by rfl) (by assumption) ?_ ?_
       rotate_left
       ·((intro w hSw; (try dsimp only at hSw); go_simp <;> with_reducible rfl); done)
       try simp only [Act.put, List.setIfInBounds_toArray, List.set_cons_zero, List.set_cons_succ]
       refine wpAnyH_done (by kernel_rfl) ?_ _
       go_wp2
       go_meet
       exact ⟨rfl, false, rfl, (fun h => by cases h), (fun _ => HDA2.out), HK2'.out⟩
     case rest =>
      obtain ⟨rfl, ok, rfl, ht, hf, hkc⟩ := hcut
      have HT := Lib.hid ht
      have HFF := Lib.hid hf
      have HKC := Lib.hid hkc
      clear ht hf hkc rk d5
      cases ok with
      | true =>
       go_wp2
       exact HF.out _ _ ⟨HK5.out.trans HKC.out, rows, HROWS.out, .inl ⟨⟨P.getD q 0, by rw [← HPE.out]; exact mem_getN hqm, by rw [← HLQ.out]; first | exact HT.out rfl | exact HT.out trivial⟩, rfl⟩⟩
      | false =>
       go_wp2
       go_roundw
       case rel => exact ⟨q + 1, by go_num, hqm, HKC.out, fun i h => by
        rcases Nat.lt_or_eq_of_le (show i ≤ q by omega) with e | rfl
        ·exact HND.out i e
        ·rw [← HLQ.out]; first | exact HFF.out rfl | exact HFF.out trivial⟩
       case measure => simp [intOf]; omega
    ·obtain rfl : q = P.length := by omega
     have HNDA := Lib.hid (show ∀ s ∈ P, ¬ DoubleAt x.edges rows (lowN s) from fun s hs => by
      obtain ⟨i, hi, rfl⟩ := List.mem_iff_getElem.1 hs
      have := HND.out i hi
      rwa [show P.getD i 0 = P[i] by simp [List.getD, hi]] at this)
     have d6 := hkq.cell HD6.out (by simp)
     obtain ⟨ii, hii, hiz, his, hib⟩ := infoParts infoIs
     have HMK : ∀ W : World, (Instr.makeSlice 63 (.int .i64 (P.length : Nat)) (.int .i64 (P.length : Nat))).run Tryd.prog W = .ok (.slice (some ⟨W.heap.size, 0, none⟩) P.length P.length) (W.alloc (.cells (Array.replicate P.length (.slice none 0 0)) 22)) :=
      fun W => run_make_nil Tryd.underlying63 hii hiz his hib W P.length (by omega)
     obtain ⟨lb, hlb⟩ : ∃ n, n = wA.heap.size := ⟨_, rfl⟩
     obtain ⟨p11, hp11⟩ : ∃ n, n = wA.heap.size + 1 := ⟨_, rfl⟩
     obtain ⟨w6, hw6⟩ : ∃ w6, w6 = (wA.alloc (.cells (Array.replicate P.length (.slice none 0 0)) 22)).alloc (.cells #[.slice (some ⟨wA.heap.size, 0, none⟩) P.length P.length] 63) := ⟨_, rfl⟩
     have hk6 : Keeps [] wA w6 := by rw [hw6]; exact (Keeps.a1 wA _).alloc _
     have h11 : w6.heap[p11]? = some (.cells #[.slice (some ⟨lb, 0, none⟩) P.length P.length] 63 (0, 0)) := by
      rw [hw6, hp11, hlb]
      exact heap_alloc2_new wA _ _
     have d11 : w6.cell? ⟨p11, 0, none⟩ = some (.slice (some ⟨lb, 0, none⟩) P.length P.length) := by simp [World.cell?, h11]
     have HLA := Lib.hid (show LeadsAt w6 lb lb P.length [p11] (fun _ => (none, 0)) (fun _ => []) from by
      have h := (LeadsAt.start wA P.length [p11]).keep (Keeps.a1 _ (.cells #[.slice (some ⟨wA.heap.size, 0, none⟩) P.length P.length] 63))
      rw [← hw6, ← hlb] at h
      exact h)
     have HW6 := Lib.hid hw6
     have HLB := Lib.hid hlb
     have HLBL := Lib.hid (show w5.heap.size ≤ lb by rw [hlb]; exact hkq.size)
     have HNE := Lib.hid (show p11 ≠ lb by rw [hp11, hlb]; omega)
     have HP11 := Lib.hid hp11
     have HK6 := Lib.hid (hkq.trans hk6)
     have H11 := Lib.hid h11
     have hd6' := hk6.cell d6 (by simp)
     have hd5' := hk6.cell d5 (by simp)
     clear hkq hw6 hlb hp11 h11 hk6 hii hiz his hib hqm HND
     go_upto_region 14 with fail
     rw [← HW6.out, ← HP11.out, ← HLB.out]
     go_wp2
     go_loopw [52] (fun v wr => ∃ (i : Nat) (sl : Nat → Option Nat × Nat) (ll : Nat → List Nat), v = .int .i64 i ∧ i ≤ P.length ∧ LeadsAt wr lb lb P.length [p11] sl ll ∧ wr.cell? ⟨p11, 0, none⟩ = some (.slice (some ⟨lb, 0, none⟩) P.length P.length) ∧ Keeps [] w5 wr ∧ LI x.edges rows P i 0 ll) (fun v _ => P.length - (intOf v).toNat)
     case atStart => exact ⟨0, _, _, rfl, Nat.zero_le _, HLA.out, d11, HK6.out, LI.start _ _ _⟩
     case round =>
      obtain ⟨i, sl, ll, rfl, hi, hls, hd11, hkb, hli⟩ := hrel
      obtain ⟨wB, hwB⟩ : ∃ wB : World, wB = wr := ⟨_, rfl⟩
      subst hwB
      have HLSB := Lib.hid hls
      have HD11B := Lib.hid hd11
      have HKB := Lib.hid hkb
      have HLIB := Lib.hid hli
      have d6 := hkb.cell HD6.out (by simp)
      clear hls hd11 hli hd6' hd5' d11
      by_cases hin : i < P.length
      ·have hrow := HROW.out.keep hkb (by simp)
       obtain ⟨g6, rfl⟩ := hrow.some_of (by omega)
       simp only [Option.map_some] at d6 ⊢
       have ri := hrow.cell i (by simpa using hin)
       simp only [List.getElem_map] at ri
       rw [show P[i] = P.getD i 0 by simp [List.getD, hin]] at ri
       obtain ⟨Pi, hPi⟩ : ∃ n, n = P.getD i 0 := ⟨_, rfl⟩
       rw [← hPi] at ri
       have HPI := Lib.hid hPi
       clear hrow hPi hkb
       go_wp2
       go_loopw [59] (fun v wr => ∃ (j : Nat) (sl : Nat → Option Nat × Nat) (ll : Nat → List Nat), v = .int .i64 j ∧ j ≤ P.length ∧ LeadsAt wr lb lb P.length [p11] sl ll ∧ wr.cell? ⟨p11, 0, none⟩ = some (.slice (some ⟨lb, 0, none⟩) P.length P.length) ∧ Keeps [] w5 wr ∧ LI x.edges rows P i j ll) (fun v _ => P.length - (intOf v).toNat)
       case atStart => exact ⟨0, sl, ll, rfl, Nat.zero_le _, HLSB.out, HD11B.out, HKB.out, HLIB.out⟩
       case round =>
        clear d6 ri sl ll HLSB HD11B HLIB
        obtain ⟨j, sl, ll, rfl, hj, hls, hd11, hkc, hli⟩ := hrel
        obtain ⟨wC, hwC⟩ : ∃ wC : World, wC = wr := ⟨_, rfl⟩
        subst hwC
        have HLS := Lib.hid hls
        have D11 := Lib.hid hd11
        have HKC := Lib.hid hkc
        have HLI := Lib.hid hli
        clear hls hli hkc
        by_cases hjn : j < P.length
        ·have hrow := HROW.out.keep HKC.out (by simp)
         have rj := hrow.cell j (by simpa using hjn)
         simp only [List.getElem_map] at rj
         rw [show P[j] = P.getD j 0 by simp [List.getD, hjn]] at rj
         obtain ⟨Pj, hPj⟩ : ∃ n, n = P.getD j 0 := ⟨_, rfl⟩
         rw [← hPj] at rj
         have HPJ := Lib.hid hPj
         have hd5 := HKC.out.cell HD5.out (by simp)
         clear hrow hPj
         by_cases hij : i = j
         ·subst hij
          have HSK := Lib.hid (HLI.out.skip (fun h => h.1 rfl))
          go_wp2
          go_roundw
          case rel => exact ⟨i + 1, sl, ll, by go_num, hjn, HLS.out, D11.out, HKC.out, HSK.out⟩
          case measure => simp [intOf]; omega
         ·have hij2 : ((i : Int) != (j : Int)) = true := by simp; omega
          have hij3 : ¬ ((i : Int) = (j : Int)) := by omega
          have HIJ := Lib.hid hij
          obtain ⟨ni, ni0⟩ := HPOK.out.1.nodes _ (mem_getN hin)
          obtain ⟨nj, nj0⟩ := HPOK.out.1.nodes _ (mem_getN hjn)
          have HBR := Lib.hid (bridged_any wb x rows (P.getD i 0) (P.getD j 0) wC (HE5.out.keep HKC.out) ni nj ni0 nj0 (HPOK.out.1.apart i j hin hjn hij))
          rw [← HPI.out, ← HPJ.out] at HBR
          clear ni ni0 nj nj0 hij
          go_wp2_with (go_at_call 21; refine HBR.out.mono ?_)
          rintro e wD ⟨bb, rfl, hbb, hkD⟩
          have HBB := Lib.hid hbb
          have HLSD := Lib.hid (HLS.out.keep hkD)
          have HD11D := Lib.hid (hkD.cell D11.out (by simp))
          have HKD := Lib.hid (HKC.out.trans hkD)
          clear hbb hkD hd5 rj hd11
          cases bb with
          | false =>
           have HSK := Lib.hid (HLI.out.skip (fun h => by
            have h2 := h.2
            rw [← HPI.out, ← HPJ.out] at h2
            have := HBB.out.2 h2
            cases this))
           go_wp2
           go_roundw
           case rel => exact ⟨j + 1, sl, ll, by go_num, hjn, HLSD.out, HD11D.out, HKD.out, HSK.out⟩
           case measure => simp [intOf]; omega
          | true =>
           have HADD := Lib.hid (HLI.out.add (show ldP x.edges rows P i j from ⟨HIJ.out, by rw [← HPI.out, ← HPJ.out]; first | exact HBB.out.1 rfl | exact HBB.out.1 trivial⟩))
           have HLL := Lib.hid (show (ll i).length ≤ 64 by have := HLI.out.2.1.2; omega)
           clear HLS D11 HKC HBR HBB
           have HLS := HLSD
           have D11 := HD11D
           have HKC := HKD
           clear HLSD HD11D HKD
           obtain ⟨wC, hwC⟩ : ∃ wC : World, wC = wD := ⟨_, rfl⟩
           subst hwC
           have hd11 := D11.out
           have hc0 := HLS.out.cell hin
           obtain ⟨ij, hi0, hi1, hi2, hi3⟩ := infoParts infoInt
           have HJ0 := Lib.hid hi0
           have HJ1 := Lib.hid hi1
           have HJ2 := Lib.hid hi2
           have HJ3 := Lib.hid hi3
           have K1 := Keeps.a1 wC (.cells #[.int .i64 j] 3)
           have hc0' := K1.drew.cell hc0 (by simp)
           have KA := Lib.hid K1
           clear hi0 hi1 hi2 hi3
           go_upto_region 21 with fail
           refine wp_region_held_drew (S := fun w' => w'.cell? ⟨p11, 0, none⟩ = some (.slice (some ⟨lb, 0, none⟩) P.length P.length)) (by kernel_rfl) hd11 (fun hHeld => ?_)
           refine take_on (i := 0) (v := ?_) rfl (by kernel_rfl) (by kernel_rfl) (by kernel_rfl) (fun _ _ _ h => h) (by rfl) (by assumption) ?_ ?_
           rotate_left
           ·((intro w hSw; (try dsimp only at hSw); go_simp <;> with_reducible rfl); done)
           try simp only [Act.put, List.setIfInBounds_toArray, List.set_cons_zero, List.set_cons_succ]
           refine take_on (i := 1) (v := ?_) rfl (by kernel_rfl) (by kernel_rfl) (by kernel_rfl) (fun _ _ _ h => h) (by rfl) (by assumption) ?_ ?_
           rotate_left
           ·((intro w hSw; (try dsimp only at hSw); go_simp <;> with_reducible rfl); done)
           try simp only [Act.put, List.setIfInBounds_toArray, List.set_cons_zero, List.set_cons_succ]
           refine take_on (i := 2) (v := ?_) rfl (by kernel_rfl) (by kernel_rfl) (by kernel_rfl) (fun _ _ _ h => h) (by rfl) (by assumption) ?_ ?_
           rotate_left
           ·((intro w hSw; (try dsimp only at hSw); go_simp <;> with_reducible rfl); done)
           try simp only [Act.put, List.setIfInBounds_toArray, List.set_cons_zero, List.set_cons_succ]
           refine take_on (i := 3) (v := ?_) rfl (by kernel_rfl) (by kernel_rfl) (by kernel_rfl) (fun _ _ _ h => h) (by rfl) (by assumption) ?_ ?_
           rotate_left
           ·((intro w hSw; (try dsimp only at hSw); go_simp <;> with_reducible rfl); done)
           try simp only [Act.put, List.setIfInBounds_toArray, List.set_cons_zero, List.set_cons_succ]
           refine take_on (i := 4) (v := ?_) rfl (by kernel_rfl) (by kernel_rfl) (by kernel_rfl) (fun _ _ _ h => h) (by rfl) (by assumption) ?_ ?_
           rotate_left
           ·((intro w hSw; (try dsimp only at hSw); go_simp <;> with_reducible rfl); done)
           try simp only [Act.put, List.setIfInBounds_toArray, List.set_cons_zero, List.set_cons_succ]
           refine take_on (i := 6) (v := ?_) rfl (by kernel_rfl) (by kernel_rfl) (by kernel_rfl) (fun _ _ _ h => h) (by rfl) (by assumption) ?_ ?_
           rotate_left
           ·((intro w hSw; (try dsimp only at hSw); go_simp <;> with_reducible rfl); done)
           try simp only [Act.put, List.setIfInBounds_toArray, List.set_cons_zero, List.set_cons_succ]
           refine branch_two (i := 5) (j := 7) rfl rfl (by kernel_rfl) (by rfl) (by rfl) (fun K hK => ?_) (fun K hK => ?_)
           ·go_simp
            refine hK.out _ _ (hd11) (fun hHeld => ?_)
            clear hK K
            try simp only [Act.put, List.setIfInBounds_toArray, List.set_cons_zero, List.set_cons_succ]
            refine branch_one (i := 7) rfl (by kernel_rfl) (by rfl) (fun K hK => ?_)
            go_simp
            refine hK.out _ _ (K1.cell hd11 (by simp)) (fun hHeld => ?_)
            clear hK K
            try simp only [Act.put, List.setIfInBounds_toArray, List.set_cons_zero, List.set_cons_succ]
            refine branch_one (i := 8) rfl (by kernel_rfl) (by rfl) (fun K hK => ?_)
            refine wp_append_sl (.tmp 78) (.tmp 80) 22 rfl 3 ij _ 1 8 Tryd.underlying22 HJ0.out HJ1.out HJ2.out HJ3.out rfl (by decide) (sl i).1 (ll i).length (sl i).2 ((ll i).map fun j => .int .i64 ((j : Nat) : Int)) rfl ((HLS.out.sls i hin).keep K1.drew (by simp)) ⟨wC.heap.size, 0, none⟩ 1 1 [.int .i64 j] rfl rfl (news_row wC [.int .i64 j] 3) (int_one _) (by decide) (by have := HLL.out; omega) (by have := HLL.out; omega) ?_
            intro g c2 w8 hs8 hk8 hg8
            have K2 : Keeps (sl i).1.toList wC w8 := (K1.drew.mono (by simp)).trans hk8
            have hn11 : p11 ∉ (sl i).1.toList := fun hm => (HLS.out.apt i hin p11 (by simpa using hm)).2.1 (by simp)
            refine hK.out _ _ (K2.cell D11.out hn11) (fun hHeld => ?_)
            clear hK K
            try simp only [Act.put, List.setIfInBounds_toArray, List.set_cons_zero, List.set_cons_succ]
            have e11 := K2.cell D11.out hn11
            have hfz8 : w8.frozen? ⟨lb, i, none⟩ = false := by
             have h := K2.heap HLS.out.row (fun hm => (HLS.out.apt i hin lb (by simpa using hm)).1 rfl)
             simp [World.frozen?, h]
            have hc8 := K2.cell (HLS.out.cell hin) (fun hm => (HLS.out.apt i hin lb (by simpa using hm)).1 rfl)
            have HPUSH := Lib.hid (HLS.out.push (j := j) hin hs8 K2 (by
             rcases hg8 with e | e
             ·exact .inl e
             ·exact .inr (Nat.le_trans K1.drew.size e)) (Nat.le_of_lt (lt_of_block HLS.out.row)) (fun q hq => by simp at hq; subst hq; exact World.block_lt_of_cell? _ _ D11.out))
            have HKF := Lib.hid (show Keeps [] w5 (w8.setCell ⟨lb, i, none⟩ (slv (some g, c2) ((ll i).length + 1))) from (HKC.out.after K2 (fun q hq => .inr (by have h1 := (HLS.out.apt i hin q (by simpa using hq)).2.2; have h2 := HLBL.out; omega))).after ((Keeps.refl [lb] w8).setCell (p := ⟨lb, i, none⟩) (by simp) _) (fun q hq => by simp at hq; subst hq; exact .inr HLBL.out))
            have HE11 := Lib.hid (show ∀ v, (w8.setCell ⟨lb, i, none⟩ v).cell? ⟨p11, 0, none⟩ = some (.slice (some ⟨lb, 0, none⟩) P.length P.length) from fun v => ((Keeps.refl [lb] w8).setCell (p := ⟨lb, i, none⟩) (by simp) v).cell e11 (by simp; exact HNE.out))
            clear hs8 hk8 hg8 K2
            refine take_on (i := 9) (v := ?_) rfl (by kernel_rfl) (by kernel_rfl) (by kernel_rfl) (fun _ _ _ h => h) (by rfl) (by assumption) ?_ ?_
            rotate_left
            ·((intro w hSw; (try dsimp only at hSw); go_simp <;> with_reducible rfl); done)
            try simp only [Act.put, List.setIfInBounds_toArray, List.set_cons_zero, List.set_cons_succ]
            refine branch_one (i := 10) rfl (by kernel_rfl) (by rfl) (fun K hK => ?_)
            go_simp
            refine hK.out _ _ (HE11.out _) (fun hHeld => ?_)
            clear hK K
            try simp only [Act.put, List.setIfInBounds_toArray, List.set_cons_zero, List.set_cons_succ]
            refine wpAnyH_done (by kernel_rfl) ?_ _
            clear hc0 hc0' hd11 K1 hc8 hfz8 e11
            go_wp2
            go_roundw
            case rel => exact ⟨j + 1, _, addL ll i j, by go_num, hjn, HPUSH.out, HE11.out _, HKF.out, HADD.out⟩
            case measure => simp [intOf]; omega
           ·go_simp
            refine hK.out _ _ (K1.cell hd11 (by simp)) (fun hHeld => ?_)
            clear hK K
            try simp only [Act.put, List.setIfInBounds_toArray, List.set_cons_zero, List.set_cons_succ]
            refine branch_one (i := 5) rfl (by kernel_rfl) (by rfl) (fun K hK => ?_)
            go_simp
            refine hK.out _ _ (K1.cell hd11 (by simp)) (fun hHeld => ?_)
            clear hK K
            try simp only [Act.put, List.setIfInBounds_toArray, List.set_cons_zero, List.set_cons_succ]
            refine branch_one (i := 8) rfl (by kernel_rfl) (by rfl) (fun K hK => ?_)
            refine wp_append_sl (.tmp 78) (.tmp 80) 22 rfl 3 ij _ 1 8 Tryd.underlying22 HJ0.out HJ1.out HJ2.out HJ3.out rfl (by decide) (sl i).1 (ll i).length (sl i).2 ((ll i).map fun j => .int .i64 ((j : Nat) : Int)) rfl ((HLS.out.sls i hin).keep K1.drew (by simp)) ⟨wC.heap.size, 0, none⟩ 1 1 [.int .i64 j] rfl rfl (news_row wC [.int .i64 j] 3) (int_one _) (by decide) (by have := HLL.out; omega) (by have := HLL.out; omega) ?_
            intro g c2 w8 hs8 hk8 hg8
            have K2 : Keeps (sl i).1.toList wC w8 := (K1.drew.mono (by simp)).trans hk8
            have hn11 : p11 ∉ (sl i).1.toList := fun hm => (HLS.out.apt i hin p11 (by simpa using hm)).2.1 (by simp)
            refine hK.out _ _ (K2.cell D11.out hn11) (fun hHeld => ?_)
            clear hK K
            try simp only [Act.put, List.setIfInBounds_toArray, List.set_cons_zero, List.set_cons_succ]
            have e11 := K2.cell D11.out hn11
            have hfz8 : w8.frozen? ⟨lb, i, none⟩ = false := by
             have h := K2.heap HLS.out.row (fun hm => (HLS.out.apt i hin lb (by simpa using hm)).1 rfl)
             simp [World.frozen?, h]
            have hc8 := K2.cell (HLS.out.cell hin) (fun hm => (HLS.out.apt i hin lb (by simpa using hm)).1 rfl)
            have HPUSH := Lib.hid (HLS.out.push (j := j) hin hs8 K2 (by
             rcases hg8 with e | e
             ·exact .inl e
             ·exact .inr (Nat.le_trans K1.drew.size e)) (Nat.le_of_lt (lt_of_block HLS.out.row)) (fun q hq => by simp at hq; subst hq; exact World.block_lt_of_cell? _ _ D11.out))
            have HKF := Lib.hid (show Keeps [] w5 (w8.setCell ⟨lb, i, none⟩ (slv (some g, c2) ((ll i).length + 1))) from (HKC.out.after K2 (fun q hq => .inr (by have h1 := (HLS.out.apt i hin q (by simpa using hq)).2.2; have h2 := HLBL.out; omega))).after ((Keeps.refl [lb] w8).setCell (p := ⟨lb, i, none⟩) (by simp) _) (fun q hq => by simp at hq; subst hq; exact .inr HLBL.out))
            have HE11 := Lib.hid (show ∀ v, (w8.setCell ⟨lb, i, none⟩ v).cell? ⟨p11, 0, none⟩ = some (.slice (some ⟨lb, 0, none⟩) P.length P.length) from fun v => ((Keeps.refl [lb] w8).setCell (p := ⟨lb, i, none⟩) (by simp) v).cell e11 (by simp; exact HNE.out))
            clear hs8 hk8 hg8 K2
            refine take_on (i := 9) (v := ?_) rfl (by kernel_rfl) (by kernel_rfl) (by kernel_rfl) (fun _ _ _ h => h) (by rfl) (by assumption) ?_ ?_
            rotate_left
            ·((intro w hSw; (try dsimp only at hSw); go_simp <;> with_reducible rfl); done)
            try simp only [Act.put, List.setIfInBounds_toArray, List.set_cons_zero, List.set_cons_succ]
            refine branch_one (i := 10) rfl (by kernel_rfl) (by rfl) (fun K hK => ?_)
            go_simp
            refine hK.out _ _ (HE11.out _) (fun hHeld => ?_)
            clear hK K
            try simp only [Act.put, List.setIfInBounds_toArray, List.set_cons_zero, List.set_cons_succ]
            refine wpAnyH_done (by kernel_rfl) ?_ _
            clear hc0 hc0' hd11 K1 hc8 hfz8 e11
            go_wp2
            go_roundw
            case rel => exact ⟨j + 1, _, addL ll i j, by go_num, hjn, HPUSH.out, HE11.out _, HKF.out, HADD.out⟩
            case measure => simp [intOf]; omega
        ·obtain rfl : j = P.length := by omega
         have HNX := Lib.hid HLI.out.next
         go_wp2
         go_roundw
         case rel => exact ⟨i + 1, sl, ll, by go_num, hin, HLS.out, D11.out, HKC.out, HNX.out⟩
         case measure => simp [intOf]; omega
      ·obtain rfl : i = P.length := by omega
       have HDE := Lib.hid (show DEnv wB wb x rows P ll p5 p6 p11 lb pa pc from
        {env := HE5.out.keep HKB.out, prt := HPOK.out.1, c5 := HKB.out.cell HD5.out (by simp), c6 := HKB.out.cell HD6.out (by simp), row := HROW.out.keep HKB.out (by simp), c11 := HD11B.out,
         lds := fun i hi => ⟨(sl i).1, (sl i).2, HLSB.out.cell hi, HLSB.out.sls i hi⟩, mem := fun i j hi => (HLIB.out.1 i hi).1 j, small := hsm, lsm := fun i hi => Nat.le_trans (HLIB.out.1 i hi).2 hsm })
       have hμ : ∀ i k j, i < P.length → k < P.length → j < P.length → rchP rows P i k → ldP x.edges rows P k j → cntB (rows.getD (lowN (P.getD j 0)) 0) 64 < cntB (rows.getD (lowN (P.getD i 0)) 0) 64 :=
        fun i k j hi hk hj h1 h2 => HPOK.out.1.down HROWS.out HOK.out.ln hi hk hj h1 h2
       obtain ⟨hL, hLB⟩ := LF.isL (f := 65) hμ (fun i _ => by have := cntB_le_k (rows.getD (lowN (P.getD i 0)) 0) 64; omega)
       obtain ⟨L, hLe⟩ : ∃ L, L = LF P.length (rchP rows P) (ldP x.edges rows P) 65 := ⟨_, rfl⟩
       rw [← hLe] at hL hLB
       have HL := Lib.hid hL
       have HLB2 := Lib.hid (show ∀ i, i < P.length → L i ≤ 64 from fun i hi => Nat.le_trans (hLB i hi) (cntB_le_k _ _))
       obtain ⟨ij, hi0, hi1, hi2, hi3⟩ := infoParts infoInt
       have HMK2 : ∀ W : World, (Instr.makeSlice 22 (.int .i64 (P.length : Nat)) (.int .i64 (P.length : Nat))).run Tryd.prog W = .ok (.slice (some ⟨W.heap.size, 0, none⟩) P.length P.length) (W.alloc (.cells (Array.replicate P.length (.int .i64 0)) 3)) := fun W => by
        have h := run_make_ints Tryd.underlying22 hi0 hi1 hi2 hi3 W (P.length : Nat) (by omega) (by omega)
        simpa using h
       obtain ⟨kb, hkb⟩ : ∃ n, n = wB.heap.size := ⟨_, rfl⟩
       obtain ⟨p16, hp16⟩ : ∃ n, n = wB.heap.size + 1 := ⟨_, rfl⟩
       obtain ⟨w7, hw7⟩ : ∃ w7, w7 = (wB.alloc (.cells (Array.replicate P.length (.int .i64 0)) 3)).alloc (.cells #[.slice (some ⟨wB.heap.size, 0, none⟩) P.length P.length] 22) := ⟨_, rfl⟩
       have HKL := Lib.hid (show Ints 3 w7 kb (List.replicate P.length (0 : Int)) from by
        rw [hw7, hkb]
        have h := (Keeps.a1 (wB.alloc (.cells (Array.replicate P.length (.int .i64 0)) 3)) (.cells #[.slice (some ⟨wB.heap.size, 0, none⟩) P.length P.length] 22)).heap (heap_alloc_new wB _) (by simp)
        unfold Ints
        rw [h]
        simp)
       have h16 : w7.heap[p16]? = some (.cells #[.slice (some ⟨kb, 0, none⟩) P.length P.length] 22 (0, 0)) := by
        rw [hw7, hp16, hkb]
        exact heap_alloc2_new wB _ _
       have HK7 := Lib.hid (show Keeps [] wB w7 by rw [hw7]; exact (Keeps.a1 wB _).alloc _)
       have HW7 := Lib.hid hw7
       have HKBE := Lib.hid hkb
       have HP16 := Lib.hid hp16
       have H16 := Lib.hid h16
       clear hμ hL hLB hLe hi0 hi1 hi2 hi3 hkb hp16 hw7 h16
       have d16 : w7.cell? ⟨p16, 0, none⟩ = some (.slice (some ⟨kb, 0, none⟩) P.length P.length) := by simp [World.cell?, H16.out]
       have HKN := Lib.hid (show kb ≠ p16 by rw [HKBE.out, HP16.out]; omega)
       go_upto_region 25 with fail
       rw [← HW7.out, ← HP16.out]
       go_wp2
       go_loopw [90] (fun v wr => ∃ (q : Nat) (kn : List Int), v = .int .i64 q ∧ q ≤ P.length ∧ kn.length = P.length ∧ Ints 3 wr kb kn ∧ (∀ i, i < q → kn.getD i 0 = -1) ∧ Keeps [kb] w7 wr) (fun v _ => P.length - (intOf v).toNat)
       case atStart => exact ⟨0, _, rfl, Nat.zero_le _, by simp, HKL.out, fun i h => absurd h (Nat.not_lt_zero _), Keeps.refl _ _⟩
       case round =>
        obtain ⟨q, kn, rfl, hq, hkl, hki, hkn, hkk⟩ := hrel
        obtain ⟨wE, hwE⟩ : ∃ wE : World, wE = wr := ⟨_, rfl⟩
        subst hwE
        have HKI := Lib.hid hki
        have HKN2 := Lib.hid hkn
        have HKK := Lib.hid hkk
        have d16 := hkk.cell d16 (by simpa using HKN.out.symm)
        clear hkn d6
        by_cases hqm : q < P.length
        ·have k0 := hki.cell q (by omega)
         have kf := hki.fz q
         have HSET := Lib.hid (hki.set q (-1))
         have HKL2 := Lib.hid hkl
         obtain ⟨v0, hv0⟩ : ∃ v, v = kn[q] := ⟨_, rfl⟩
         rw [← hv0] at k0
         clear hki hkk hkl hv0
         go_wp2
         go_roundw
         case rel => exact ⟨q + 1, kn.set q (-1), by go_num, hqm, by simpa using HKL2.out, HSET.out, (fun i h => by
          have h1 := HKL2.out
          simp only [List.getD, List.getElem?_set]
          by_cases e : q = i
          ·subst e; rw [if_pos rfl]; simp [show q < kn.length by omega]
          ·rw [if_neg e]; exact HKN2.out i (by omega)), HKK.out.setCell (by simp) _⟩
         case measure => simp [intOf]; omega
        ·clear hki hkk
         obtain ⟨p18, hp18⟩ : ∃ n, n = wE.heap.size := ⟨_, rfl⟩
         obtain ⟨wF, hwF⟩ : ∃ wF, wF = wE.alloc (.cells #[.nilFunc] 65) := ⟨_, rfl⟩
         have hkF : Keeps [] wE wF := by rw [hwF]; exact Keeps.a1 _ _
         have h18 : wF.heap[p18]? = some (.cells #[.nilFunc] 65 (0, 0)) := by rw [hwF, hp18]; exact heap_alloc_new wE _
         obtain ⟨z0, zf⟩ : wF.cell? ⟨p18, 0, none⟩ = some .nilFunc ∧ wF.frozen? ⟨p18, 0, none⟩ = false := by simp [World.cell?, World.frozen?, h18]
         obtain ⟨wG, hwG⟩ : ∃ wG, wG = wF.setCell ⟨p18, 0, none⟩ (.func (.func 22) #[] (degC p16 p6 p5 p11 p18)) := ⟨_, rfl⟩
         have hkG : Keeps [p18] wF wG := by rw [hwG]; exact (Keeps.refl [p18] wF).setCell (by simp) _
         have hg18 : wG.heap[p18]? = some (.cells #[.func (.func 22) #[] (degC p16 p6 p5 p11 p18)] 65 (0, 0)) := by
          rw [hwG, heap_setCell_same wF p18 0 _ _ _ h18]
          rfl
         have hlt16 := lt_of_block (HKK.out.heap H16.out (by simpa using HKN.out.symm))
         have hltk := HKI.out.lt
         have hDS : DS wB p16 p6 p5 p11 p18 kb P.length L kn wG := by
          refine ⟨?_, ?_, by simp [World.cell?, hg18], (HKI.out.keep hkF (by simp)).keep hkG (by simp; omega), hkl, fun i hi => .inl (HKN2.out i (by omega)), HKN.out, by omega, by rw [HKBE.out]; exact Nat.le_refl _⟩
          ·refine (((HK7.out.after HKK.out (fun q hq => by simp at hq; subst hq; exact .inr (by rw [HKBE.out]; exact Nat.le_refl _))).trans hkF).after hkG (fun q hq => by
            simp at hq
            subst hq
            right
            have h1 := HK7.out.size
            have h2 := HKK.out.size
            omega))
          ·exact hkG.cell (hkF.cell d16 (by simp)) (by simp; omega)
         have HDS := Lib.hid hDS
         have HWF := Lib.hid hwF
         have HWG := Lib.hid (show wF.setCell ⟨p18, 0, none⟩ (.func (.func 22) #[] #[.pointer (some ⟨p16, 0, none⟩), .pointer (some ⟨p6, 0, none⟩), .pointer (some ⟨p5, 0, none⟩), .pointer (some ⟨p11, 0, none⟩), .pointer (some ⟨p18, 0, none⟩)]) = wG by rw [hwG]; rfl)
         have HP18 := Lib.hid hp18
         clear hp18 hwF hkF h18 hwG hkG hg18 hlt16 hltk hDS hkl d16
         go_upto_region 31 with fail
         rw [← HWF.out, ← HP18.out]
         go_upto_region 33 with fail
         rw [HWG.out]
         have d6 := HDS.out.kp.cell HDE.out.c6 (by simp)
         clear z0 zf
         go_wp2
         go_loopw [19, 100] (fun v19 v100 wr => ∃ (q D : Nat) (kn : List Int), v19 = .int .i64 D ∧ v100 = .int .i64 q ∧ q ≤ P.length ∧ D ≤ 64 ∧ DS wB p16 p6 p5 p11 p18 kb P.length L kn wr ∧ (∀ i, i < q → L i ≤ D) ∧ (D = 0 ∨ ∃ i, i < P.length ∧ D = L i)) (fun _ v100 _ => P.length - (intOf v100).toNat)
         case atStart => exact ⟨0, 0, kn, rfl, rfl, Nat.zero_le _, Nat.zero_le _, HDS.out, fun i h => absurd h (Nat.not_lt_zero _), .inl rfl⟩
         case round =>
          obtain ⟨r, D, kn', rfl, rfl, hr, hD, hds, hDl, hDe⟩ := hrel
          obtain ⟨wH, hwH⟩ : ∃ wH : World, wH = wr := ⟨_, rfl⟩
          subst hwH
          have HDS' := Lib.hid hds
          have HDL := Lib.hid hDl
          have HDE' := Lib.hid hDe
          have c18 := hds.c18
          unfold degC at c18
          clear hDl hDe hds d6
          by_cases hrm : r < P.length
          ·have HREC := Lib.hid (deg1_any HDE.out HL.out HLB2.out 65 r wH kn' hrm (by have := cntB_le_k (rows.getD (lowN (P.getD r 0)) 0) 64; omega) HDS'.out)
           unfold degC at HREC
           have hLr := HLB2.out r hrm
           obtain ⟨Lr, hLr2⟩ : ∃ n, n = L r := ⟨_, rfl⟩
           rw [← hLr2] at HREC hLr
           have HLR := Lib.hid hLr2
           clear hLr2
           by_cases hmx : D ≤ Lr
           ·have HN2 := Lib.hid (show (∀ i, i < r + 1 → L i ≤ Lr) ∧ (Lr = 0 ∨ ∃ i, i < P.length ∧ Lr = L i) from ⟨fun i h => by
             rcases Nat.lt_or_eq_of_le (show i ≤ r by omega) with e | rfl
             ·exact Nat.le_trans (HDL.out i e) hmx
             ·rw [HLR.out]; exact Nat.le_refl _, .inr ⟨r, hrm, HLR.out⟩⟩)
            by_cases hmx2 : D = Lr
            ·subst hmx2
             go_wp2_with fail
             refine HREC.out.mono ?_
             rintro e wI ⟨rfl, hkI, kn5, hd5⟩
             have HD5 := Lib.hid hd5
             clear hkI hd5 c18
             go_wp2
             go_roundw
             case rel => exact ⟨r + 1, D, kn5, rfl, by go_num, hrm, hD, HD5.out, HN2.out.1, HN2.out.2⟩
             case measure => simp [intOf]; omega
            ·have hmx3 : (D : Int) < Lr := by omega
             have hmx4 : ¬ ((Lr : Int) < D) := by omega
             have hmx5 : ¬ ((Lr : Int) ≤ D) := by omega
             have hmx6 : ¬ ((D : Int) = Lr) := by omega
             go_wp2_with fail
             refine HREC.out.mono ?_
             rintro e wI ⟨rfl, hkI, kn5, hd5⟩
             have HD5 := Lib.hid hd5
             clear hkI hd5 c18
             go_wp2
             go_roundw
             case rel => exact ⟨r + 1, Lr, kn5, rfl, by go_num, hrm, hLr, HD5.out, HN2.out.1, HN2.out.2⟩
             case measure => simp [intOf]; omega
           ·have HN2 := Lib.hid (show (∀ i, i < r + 1 → L i ≤ D) from fun i h => by
             rcases Nat.lt_or_eq_of_le (show i ≤ r by omega) with e | rfl
             ·exact HDL.out i e
             ·rw [← HLR.out]; omega)
            have hmx3 : (Lr : Int) < D := by omega
            have hmx4 : ¬ ((D : Int) < Lr) := by omega
            have hmx5 : ¬ ((D : Int) ≤ Lr) := by omega
            have hmx6 : ¬ ((D : Int) = Lr) := by omega
            go_wp2_with fail
            refine HREC.out.mono ?_
            rintro e wI ⟨rfl, hkI, kn5, hd5⟩
            have HD5 := Lib.hid hd5
            clear hkI hd5 c18
            go_wp2
            go_roundw
            case rel => exact ⟨r + 1, D, kn5, rfl, by go_num, hrm, hD, HD5.out, HN2.out, HDE'.out⟩
            case measure => simp [intOf]; omega
          ·obtain rfl : r = P.length := by omega
           go_wp2
           refine HF.out _ _ ⟨(HK5.out.trans HKB.out).trans HDS'.out.kp, rows, HROWS.out, .inr ⟨by rw [← HPE.out]; exact HNDA.out, L, D, ?_⟩⟩
           rw [← HPE.out]
           exact ⟨HL.out, rfl, HDL.out, HDE'.out⟩
 ·have HF := Lib.hid (show ∀ e w', (Keeps [] w w' ∧ e = .returned (.tuple #[.int .i64 0, .int .i64 gv])) → Q e w' from fun e w' h => by
   rw [HQ.out]
   refine ⟨h.1, ?_⟩
   rw [if_pos (by rw [← HGV.out]; exact hg), ← HGV.out]
   exact h.2)
  have hg' : (gv != 0) = true := by simp [hg]
  go_wp2
  exact HF.out _ _ ⟨HK2.out, rfl⟩
end Go.Proofs.YtphnbmdcgcchaaaDoor
