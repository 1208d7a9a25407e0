/- Part 21 of the proof. No condition: every lemma says its own. -/
import Derived.Test.YtphnbmdcgcchaaaDoorEap
import Derived.Test.YtphnbmdcgcchaaaDoorEaq
import Derived.Test.YtphnbmdcgcchaaaDoorEat
import Derived.Test.YtphnbmdcgcchaaaDoorEac
namespace Go.Proofs.YtphnbmdcgcchaaaDoor
open Go.RowKit Go.Sort Go.BigFrame
open Go.RowKit
set_option maxRecDepth 100000
set_option maxHeartbeats 16000000
def domB (N : Nat) : List Tri := (List.range N).flatMap fun (a : Nat) => (List.range N).flatMap fun (b : Nat) => (List.range N).map fun (c : Nat) => ((a : Int), (b : Int), (c : Int))
theorem domB_len (N : Nat) : (domB N).length = N * (N * N) := by
 simp [domB, List.length_flatMap, List.map_const', List.sum_replicate_nat]
theorem domB_ok {N : Nat} (hN : N ≤ 64) {t : Tri} (h : BOK N t) : TOK t ∧ t ∈ domB N := by
 obtain ⟨a, b, d⟩ := t
 obtain ⟨⟨a0, a1⟩, ⟨b0, b1⟩, ⟨d0, d1⟩⟩ := h
 simp only at a0 a1 b0 b1 d0 d1
 refine ⟨⟨⟨?_, ?_⟩, ⟨?_, ?_⟩, ⟨?_, ?_⟩⟩, ?_⟩
 ·show _ ≤ a; omega
 ·show a ≤ _; omega
 ·show _ ≤ b; omega
 ·show b ≤ _; omega
 ·show _ ≤ d; omega
 ·show d ≤ _; omega
 ·obtain ⟨a, rfl⟩ := Int.eq_ofNat_of_zero_le a0
  obtain ⟨b, rfl⟩ := Int.eq_ofNat_of_zero_le b0
  obtain ⟨d, rfl⟩ := Int.eq_ofNat_of_zero_le d0
  simp only [domB, List.mem_flatMap, List.mem_range, List.mem_map]
  exact ⟨a, by omega, b, by omega, d, by omega, rfl⟩
theorem BSucc.ok {N : Nat} {es : List E4} {p0 p1 p2 : Nat} (hed : ∀ e ∈ es, 0 ≤ e.tt ∧ e.tt < N) {s t : Tri} {c : Int} (h : BSucc es p0 p1 p2 s c t) : BOK N t := by
 obtain ⟨e, he, f, hf, g, hg, _, _, _, _, _, _, _, _, _, rfl⟩ := h
 exact ⟨hed e he, hed f hf, hed g hg⟩
theorem row3_cells {w : World} {b t : Nat} {x y z : Value} (h : w.heap[b]? = some (.cells #[x, y, z] t (0, 0))) : w.cell? ⟨b, 0, none⟩ = some x ∧ w.cell? ⟨b, 1, none⟩ = some y ∧ w.cell? ⟨b, 2, none⟩ = some z ∧ w.frozen? ⟨b, 0, none⟩ = false ∧ w.frozen? ⟨b, 1, none⟩ = false ∧ w.frozen? ⟨b, 2, none⟩ = false := by
 simp [World.cell?, World.frozen?, h]
theorem set3_heap {w : World} {b t : Nat} {x y z : Value} (h : w.heap[b]? = some (.cells #[x, y, z] t (0, 0))) (x' y' z' : Value) : (((w.setCell ⟨b, 0, none⟩ x').setCell ⟨b, 1, none⟩ y').setCell ⟨b, 2, none⟩ z').heap[b]? = some (.cells #[x', y', z'] t (0, 0)) := by
 have e1 := heap_setCell_same w b 0 _ t x' h
 have e2 := heap_setCell_same _ b 1 _ t y' e1
 have e3 := heap_setCell_same _ b 2 _ t z' e2
 rw [e3]
 simp
theorem bridge_any (wb : Nat) (x : Gr) (rows : List Nat) (a b : Nat) (w : World) (hw : WaysAt w wb x rows) (ok : GrOK x) (hl : rows.length = x.nodes.length) (hlt : ∀ n, n < rows.length → rows.getD n 0 < 2 ^ 64) (ha : a < rows.length) (hb : b < rows.length) (hab : a ≠ b) :
  Calls Tryd.prog 33 #[.pointer (some ⟨wb, 0, none⟩), .int .i64 a, .int .i64 b] w (SearchPost w (BSucc x.edges (partN rows a) (rows.getD a 0 &&& leadN rows b rows.length) (partN rows b)) ((a : Int), (a : Int), (b : Int)) ((a : Int), (b : Int), (b : Int))) := by
 have hln := ok.ln
 obtain ⟨Y, hY⟩ : ∃ Y, Y = ((w.alloc (.cells #[.pointer (some ⟨wb, 0, none⟩)] 54)).alloc (.cells #[.int .i64 a] 3)).alloc (.cells #[.int .i64 b] 3) := ⟨_, rfl⟩
 have hkY : Keeps [] w Y := by rw [hY]; exact (((Keeps.refl [] w).alloc _).alloc _).alloc _
 obtain ⟨B, hB⟩ : ∃ B, B = w.heap.size := ⟨_, rfl⟩
 have c0 : Y.heap[B]? = some (.cells #[.pointer (some ⟨wb, 0, none⟩)] 54 (0, 0)) := by rw [hY, hB]; exact ((Keeps.a1 _ _).alloc _).heap (heap_alloc_new w _) (by simp)
 have c1 : Y.heap[B + 1]? = some (.cells #[.int .i64 a] 3 (0, 0)) := by rw [hY, hB]; exact (Keeps.a1 _ _).heap (heap_alloc2_new w _ _) (by simp)
 have c2 : Y.heap[B + 1 + 1]? = some (.cells #[.int .i64 b] 3 (0, 0)) := by
  have h := heap_alloc_new ((w.alloc (.cells #[.pointer (some ⟨wb, 0, none⟩)] 54)).alloc (.cells #[.int .i64 a] 3)) (.cells #[.int .i64 b] 3)
  rw [show ((w.alloc (.cells #[.pointer (some ⟨wb, 0, none⟩)] 54)).alloc (.cells #[.int .i64 a] 3)).heap.size = B + 1 + 1 by rw [hB]; simp, ← hY] at h
  exact h
 have b0 : Y.cell? ⟨B, 0, none⟩ = some (.pointer (some ⟨wb, 0, none⟩)) := by simp [World.cell?, c0]
 have b1 : Y.cell? ⟨B + 1, 0, none⟩ = some (.int .i64 a) := by simp [World.cell?, c1]
 have b2 : Y.cell? ⟨B + 1 + 1, 0, none⟩ = some (.int .i64 b) := by simp [World.cell?, c2]
 have hwY := hw.keep hkY
 obtain ⟨ob, rb, hbx, hus, _⟩ := hwY.box
 have w5 := (way_cells hbx).2.2.2.2.2
 have ra := hus.cell a ha
 have HPA := Lib.hid (show ∀ W, Keeps [] Y W → Calls Tryd.prog 38 #[.pointer (some ⟨wb, 0, none⟩), .int .i64 a] W fun e w' => e = .returned (.int .u64 ((partN rows a : Nat) : Int)) ∧ Keeps [] W w' from fun W hk => part_any wb x rows a W (hwY.keep hk) hl hln hlt ha)
 have HPB := Lib.hid (show ∀ W, Keeps [] Y W → Calls Tryd.prog 38 #[.pointer (some ⟨wb, 0, none⟩), .int .i64 b] W fun e w' => e = .returned (.int .u64 ((partN rows b : Nat) : Int)) ∧ Keeps [] W w' from fun W hk => part_any wb x rows b W (hwY.keep hk) hl hln hlt hb)
 have HLB := Lib.hid (show ∀ W, Keeps [] Y W → Calls Tryd.prog 52 #[.pointer (some ⟨wb, 0, none⟩), .int .i64 b] W fun e w' => e = .returned (.int .u64 ((leadN rows b rows.length : Nat) : Int)) ∧ W = w' from fun W hk => leading_any wb x rows b W (hwY.keep hk) hl hln hlt (by omega))
 have hand := and_u64 (rows.getD a 0) (leadN rows b rows.length) (hlt a ha) (leadN_lt rows b rows.length (by omega))
 have HL0 := Lib.hid (partN_lt rows a (by omega))
 have HL1 := Lib.hid (show rows.getD a 0 &&& leadN rows b rows.length < 2 ^ 64 from Nat.lt_of_le_of_lt Nat.and_le_left (hlt a ha))
 have HL2 := Lib.hid (partN_lt rows b (by omega))
 obtain ⟨Q, hQ⟩ : ∃ Q, Q = SearchPost w (BSucc x.edges (partN rows a) (rows.getD a 0 &&& leadN rows b rows.length) (partN rows b)) ((a : Int), (a : Int), (b : Int)) ((a : Int), (b : Int), (b : Int)) := ⟨_, rfl⟩
 rw [← hQ]
 have HQ := Lib.hid hQ
 obtain ⟨p0, hp0⟩ : ∃ p, p = partN rows a := ⟨_, rfl⟩
 obtain ⟨p2, hp2⟩ : ∃ p, p = partN rows b := ⟨_, rfl⟩
 obtain ⟨rr, hrr⟩ : ∃ p, p = rows.getD a 0 := ⟨_, rfl⟩
 obtain ⟨ll, hll⟩ : ∃ p, p = leadN rows b rows.length := ⟨_, rfl⟩
 simp only [← hp0, ← hp2, ← hrr, ← hll] at HPA HPB HLB hand HL0 HL1 HL2 HQ ra
 have HW := Lib.hid hwY
 have HOK := Lib.hid ok
 have HKY := Lib.hid hkY
 have HY := Lib.hid hY
 have HB := Lib.hid hB
 have HAN := Lib.hid (show a < x.nodes.length by omega)
 have HBN := Lib.hid (show b < x.nodes.length by omega)
 have HAB := Lib.hid hab
 have hax : a < x.nodes.length := by omega
 clear hw hwY ok hkY hY hB c0 c1 c2 hQ hp0 hp2 hrr hll hbx hus hlt hl ha hb hab
 go_enter Tryd.func33, Tryd.ntmps33
 go_upto_region 1 with fail
 rw [← HY.out, ← HB.out]
 go_cut [8] (fun s8 wx => ∃ C : Nat, s8 = .pointer (some ⟨C, 0, none⟩) ∧ wx.heap[C]? = some (.cells #[.int .u64 p0, .int .u64 ((rr &&& ll : Nat) : Int), .int .u64 p2] 108 (0, 0)) ∧ Keeps [] Y wx)
 case first =>
  refine wp_region_held_drew (S := fun w' => (w'.cell? ⟨B, 0, none⟩ = some (.pointer (some ⟨wb, 0, none⟩)) ∧ w'.cell? ⟨B + 1, 0, none⟩ = some (.int .i64 a) ∧ w'.cell? ⟨B + 1 + 1, 0, none⟩ = some (.int .i64 b)) ∧ w'.cell? ⟨wb, 5, none⟩ = some (.slice (some ⟨rb, 0, none⟩) x.nodes.length x.nodes.length) ∧ w'.cell? ⟨rb, a, none⟩ = some (.int .u64 rr)) (by kernel_rfl) ⟨⟨b0, b1, b2⟩, w5, ra⟩ (fun hHeld => ?_)
  refine take_on (i := 0) (v := ?_) rfl (by kernel_rfl) (by kernel_rfl) (by kernel_rfl) (fun _ _ _ h => h) (by rfl) (by assumption) ?_ ?_
  rotate_left
  ·((intro w hSw; (try dsimp only at hSw); go_simp <;> with_reducible rfl); done)
  try simp only [Act.put, List.setIfInBounds_toArray, List.set_cons_zero, List.set_cons_succ]
  refine take_on (i := 1) (v := ?_) rfl (by kernel_rfl) (by kernel_rfl) (by kernel_rfl) (fun _ _ _ h => h) (by rfl) (by assumption) ?_ ?_
  rotate_left
  ·((intro w hSw; (try dsimp only at hSw); go_simp <;> with_reducible rfl); done)
  try simp only [Act.put, List.setIfInBounds_toArray, List.set_cons_zero, List.set_cons_succ]
  refine take_on (i := 3) (v := ?_) rfl (by kernel_rfl) (by kernel_rfl) (by kernel_rfl) (fun _ _ _ h => h) (by rfl) (by assumption) ?_ ?_
  rotate_left
  ·((intro w hSw; (try dsimp only at hSw); go_simp <;> with_reducible rfl); done)
  try simp only [Act.put, List.setIfInBounds_toArray, List.set_cons_zero, List.set_cons_succ]
  refine take_on (i := 4) (v := ?_) rfl (by kernel_rfl) (by kernel_rfl) (by kernel_rfl) (fun _ _ _ h => h) (by rfl) (by assumption) ?_ ?_
  rotate_left
  ·((intro w hSw; (try dsimp only at hSw); go_simp <;> with_reducible rfl); done)
  try simp only [Act.put, List.setIfInBounds_toArray, List.set_cons_zero, List.set_cons_succ]
  refine take_on (i := 5) (v := ?_) rfl (by kernel_rfl) (by kernel_rfl) (by kernel_rfl) (fun _ _ _ h => h) (by rfl) (by assumption) ?_ ?_
  rotate_left
  ·((intro w hSw; (try dsimp only at hSw); go_simp <;> with_reducible rfl); done)
  try simp only [Act.put, List.setIfInBounds_toArray, List.set_cons_zero, List.set_cons_succ]
  refine take_on (i := 6) (v := ?_) rfl (by kernel_rfl) (by kernel_rfl) (by kernel_rfl) (fun _ _ _ h => h) (by rfl) (by assumption) ?_ ?_
  rotate_left
  ·((intro w hSw; (try dsimp only at hSw); go_simp <;> with_reducible rfl); done)
  try simp only [Act.put, List.setIfInBounds_toArray, List.set_cons_zero, List.set_cons_succ]
  refine take_on (i := 7) (v := ?_) rfl (by kernel_rfl) (by kernel_rfl) (by kernel_rfl) (fun _ _ _ h => h) (by rfl) (by assumption) ?_ ?_
  rotate_left
  ·((intro w hSw; (try dsimp only at hSw); go_simp <;> with_reducible rfl); done)
  try simp only [Act.put, List.setIfInBounds_toArray, List.set_cons_zero, List.set_cons_succ]
  refine take_on (i := 8) (v := ?_) rfl (by kernel_rfl) (by kernel_rfl) (by kernel_rfl) (fun _ _ _ h => h) (by rfl) (by assumption) ?_ ?_
  rotate_left
  ·((intro w hSw; (try dsimp only at hSw); go_simp <;> with_reducible rfl); done)
  try simp only [Act.put, List.setIfInBounds_toArray, List.set_cons_zero, List.set_cons_succ]
  refine take_on (i := 9) (v := ?_) rfl (by kernel_rfl) (by kernel_rfl) (by kernel_rfl) (fun _ _ _ h => h) (by rfl) (by assumption) ?_ ?_
  rotate_left
  ·((intro w hSw; (try dsimp only at hSw); go_simp <;> with_reducible rfl); done)
  try simp only [Act.put, List.setIfInBounds_toArray, List.set_cons_zero, List.set_cons_succ]
  refine take_on (i := 10) (v := ?_) rfl (by kernel_rfl) (by kernel_rfl) (by kernel_rfl) (fun _ _ _ h => h) (by rfl) (by assumption) ?_ ?_
  rotate_left
  ·((intro w hSw; (try dsimp only at hSw); go_simp <;> with_reducible rfl); done)
  try simp only [Act.put, List.setIfInBounds_toArray, List.set_cons_zero, List.set_cons_succ]
  refine take_on (i := 11) (v := ?_) rfl (by kernel_rfl) (by kernel_rfl) (by kernel_rfl) (fun _ _ _ h => h) (by rfl) (by assumption) ?_ ?_
  rotate_left
  ·((intro w hSw; (try dsimp only at hSw); go_simp <;> with_reducible rfl); done)
  try simp only [Act.put, List.setIfInBounds_toArray, List.set_cons_zero, List.set_cons_succ]
  refine take_on (i := 14) (v := ?_) rfl (by kernel_rfl) (by kernel_rfl) (by kernel_rfl) (fun _ _ _ h => h) (by rfl) (by assumption) ?_ ?_
  rotate_left
  ·((intro w hSw; (try dsimp only at hSw); go_simp <;> with_reducible rfl); done)
  try simp only [Act.put, List.setIfInBounds_toArray, List.set_cons_zero, List.set_cons_succ]
  refine take_on (i := 15) (v := ?_) rfl (by kernel_rfl) (by kernel_rfl) (by kernel_rfl) (fun _ _ _ h => h) (by rfl) (by assumption) ?_ ?_
  rotate_left
  ·((intro w hSw; (try dsimp only at hSw); go_simp <;> with_reducible rfl); done)
  try simp only [Act.put, List.setIfInBounds_toArray, List.set_cons_zero, List.set_cons_succ]
  have hkY0 : Keeps [] Y Y.drew := (Keeps.refl [] Y).drew
  refine branch_two (i := 2) (j := 18) rfl rfl (by kernel_rfl) (by rfl) (by rfl) (fun K hK => ?_) (fun K hK => ?_)
  ·go_simp
   with_reducible refine Calls.mono (HPA.out _ hkY0) ?_
   rintro e v1 ⟨rfl, hv1⟩
   have hK1 := hkY0.trans hv1
   refine hK.out _ _ (⟨⟨hK1.cell b0 (by simp), hK1.cell b1 (by simp), hK1.cell b2 (by simp)⟩, hK1.cell w5 (by simp), hK1.cell ra (by simp)⟩) (fun hHeld => ?_)
   clear hK K
   try simp only [Act.put, List.setIfInBounds_toArray, List.set_cons_zero, List.set_cons_succ]
   refine branch_two (i := 12) (j := 18) rfl rfl (by kernel_rfl) (by rfl) (by rfl) (fun K hK => ?_) (fun K hK => ?_)
   ·go_simp
    with_reducible refine Calls.mono (HLB.out _ hK1) ?_
    rintro e v2 ⟨rfl, rfl⟩
    refine hK.out _ _ (⟨⟨hK1.cell b0 (by simp), hK1.cell b1 (by simp), hK1.cell b2 (by simp)⟩, hK1.cell w5 (by simp), hK1.cell ra (by simp)⟩) (fun hHeld => ?_)
    clear hK K
    try simp only [Act.put, List.setIfInBounds_toArray, List.set_cons_zero, List.set_cons_succ]
    refine take_on (i := 13) (v := ?_) rfl (by kernel_rfl) (by kernel_rfl) (by kernel_rfl) (fun _ _ _ h => h) (by rfl) (by assumption) ?_ ?_
    rotate_left
    ·((intro w hSw; (try dsimp only at hSw); go_simp <;> with_reducible rfl); done)
    try simp only [Act.put, List.setIfInBounds_toArray, List.set_cons_zero, List.set_cons_succ]
    refine branch_two (i := 16) (j := 18) rfl rfl (by kernel_rfl) (by rfl) (by rfl) (fun K hK => ?_) (fun K hK => ?_)
    ·go_simp
     with_reducible refine Calls.mono (HPB.out _ hK1) ?_
     rintro e v3 ⟨rfl, hv3⟩
     have hK3 := hK1.trans hv3
     refine hK.out _ _ (⟨⟨hK3.cell b0 (by simp), hK3.cell b1 (by simp), hK3.cell b2 (by simp)⟩, hK3.cell w5 (by simp), hK3.cell ra (by simp)⟩) (fun hHeld => ?_)
     clear hK K
     try simp only [Act.put, List.setIfInBounds_toArray, List.set_cons_zero, List.set_cons_succ]
     refine take_on (i := 17) (v := ?_) rfl (by kernel_rfl) (by kernel_rfl) (by kernel_rfl) (fun _ _ _ h => h) (by rfl) (by assumption) ?_ ?_
     rotate_left
     ·((intro w hSw; (try dsimp only at hSw); go_simp <;> with_reducible rfl); done)
     try simp only [Act.put, List.setIfInBounds_toArray, List.set_cons_zero, List.set_cons_succ]
     refine branch_one (i := 18) rfl (by kernel_rfl) (by rfl) (fun K hK => ?_)
     go_simp
     obtain ⟨C4, hC4⟩ : ∃ C, C = v3.heap.size := ⟨_, rfl⟩
     obtain ⟨v4, hv4⟩ : ∃ v, v = (v3.alloc (.cells #[.int .u64 0, .int .u64 0, .int .u64 0] 108)) := ⟨_, rfl⟩
     rw [← hC4, ← hv4]
     have hz4 : v4.heap[C4]? = some (.cells #[.int .u64 0, .int .u64 0, .int .u64 0] 108 (0, 0)) := by rw [hv4, hC4]; exact heap_alloc_new v3 _
     have hK4 : Keeps [] Y v4 := by rw [hv4]; exact hK3.trans (Keeps.a1 v3 _)
     have HG4 := Lib.hid (show Y.heap.size ≤ C4 by rw [hC4]; exact hK3.size)
     have HZ4 := Lib.hid hz4
     clear hz4 hC4 hv4
     refine hK.out _ _ (⟨⟨hK4.cell b0 (by simp), hK4.cell b1 (by simp), hK4.cell b2 (by simp)⟩, hK4.cell w5 (by simp), hK4.cell ra (by simp)⟩) (fun hHeld => ?_)
     clear hK K
     try simp only [Act.put, List.setIfInBounds_toArray, List.set_cons_zero, List.set_cons_succ]
     obtain ⟨z0, z1, z2, zf0, zf1, zf2⟩ := row3_cells HZ4.out
     have hset := set3_heap HZ4.out (.int .u64 p0) (.int .u64 ((rr &&& ll : Nat) : Int)) (.int .u64 p2)
     have HSET := Lib.hid hset
     have hKF := ((hK4.setCell (p := ⟨C4, 0, none⟩) (.inr HG4.out) (.int .u64 p0)).setCell (p := ⟨C4, 1, none⟩) (.inr HG4.out) (.int .u64 ((rr &&& ll : Nat) : Int))).setCell (p := ⟨C4, 2, none⟩) (.inr HG4.out) (.int .u64 p2)
     clear hset
     refine branch_one (i := 19) rfl (by kernel_rfl) (by rfl) (fun K hK => ?_)
     go_simp
     refine hK.out _ _ (⟨⟨hKF.cell b0 (by simp), hKF.cell b1 (by simp), hKF.cell b2 (by simp)⟩, hKF.cell w5 (by simp), hKF.cell ra (by simp)⟩) (fun hHeld => ?_)
     clear hK K
     try simp only [Act.put, List.setIfInBounds_toArray, List.set_cons_zero, List.set_cons_succ]
     refine wpAnyH_done (by kernel_rfl) ?_ _
     go_wp2
     go_meet
     exact ⟨C4, rfl, HSET.out, hKF⟩
    ·go_simp
     obtain ⟨C5, hC5⟩ : ∃ C, C = v1.heap.size := ⟨_, rfl⟩
     obtain ⟨v5, hv5⟩ : ∃ v, v = (v1.alloc (.cells #[.int .u64 0, .int .u64 0, .int .u64 0] 108)) := ⟨_, rfl⟩
     rw [← hC5, ← hv5]
     have hz5 : v5.heap[C5]? = some (.cells #[.int .u64 0, .int .u64 0, .int .u64 0] 108 (0, 0)) := by rw [hv5, hC5]; exact heap_alloc_new v1 _
     have hK5 : Keeps [] Y v5 := by rw [hv5]; exact hK1.trans (Keeps.a1 v1 _)
     have HG5 := Lib.hid (show Y.heap.size ≤ C5 by rw [hC5]; exact hK1.size)
     have HZ5 := Lib.hid hz5
     clear hz5 hC5 hv5
     refine hK.out _ _ (⟨⟨hK5.cell b0 (by simp), hK5.cell b1 (by simp), hK5.cell b2 (by simp)⟩, hK5.cell w5 (by simp), hK5.cell ra (by simp)⟩) (fun hHeld => ?_)
     clear hK K
     try simp only [Act.put, List.setIfInBounds_toArray, List.set_cons_zero, List.set_cons_succ]
     refine branch_one (i := 16) rfl (by kernel_rfl) (by rfl) (fun K hK => ?_)
     go_simp
     with_reducible refine Calls.mono (HPB.out _ hK5) ?_
     rintro e v6 ⟨rfl, hv6⟩
     have hK6 := hK5.trans hv6
     have HY6 := Lib.hid (hv6.heap HZ5.out (by simp))
     refine hK.out _ _ (⟨⟨hK6.cell b0 (by simp), hK6.cell b1 (by simp), hK6.cell b2 (by simp)⟩, hK6.cell w5 (by simp), hK6.cell ra (by simp)⟩) (fun hHeld => ?_)
     clear hK K
     try simp only [Act.put, List.setIfInBounds_toArray, List.set_cons_zero, List.set_cons_succ]
     refine take_on (i := 17) (v := ?_) rfl (by kernel_rfl) (by kernel_rfl) (by kernel_rfl) (fun _ _ _ h => h) (by rfl) (by assumption) ?_ ?_
     rotate_left
     ·((intro w hSw; (try dsimp only at hSw); go_simp <;> with_reducible rfl); done)
     try simp only [Act.put, List.setIfInBounds_toArray, List.set_cons_zero, List.set_cons_succ]
     obtain ⟨z0, z1, z2, zf0, zf1, zf2⟩ := row3_cells HY6.out
     have hset := set3_heap HY6.out (.int .u64 p0) (.int .u64 ((rr &&& ll : Nat) : Int)) (.int .u64 p2)
     have HSET := Lib.hid hset
     have hKF := ((hK6.setCell (p := ⟨C5, 0, none⟩) (.inr HG5.out) (.int .u64 p0)).setCell (p := ⟨C5, 1, none⟩) (.inr HG5.out) (.int .u64 ((rr &&& ll : Nat) : Int))).setCell (p := ⟨C5, 2, none⟩) (.inr HG5.out) (.int .u64 p2)
     clear hset
     refine branch_one (i := 19) rfl (by kernel_rfl) (by rfl) (fun K hK => ?_)
     go_simp
     refine hK.out _ _ (⟨⟨hKF.cell b0 (by simp), hKF.cell b1 (by simp), hKF.cell b2 (by simp)⟩, hKF.cell w5 (by simp), hKF.cell ra (by simp)⟩) (fun hHeld => ?_)
     clear hK K
     try simp only [Act.put, List.setIfInBounds_toArray, List.set_cons_zero, List.set_cons_succ]
     refine wpAnyH_done (by kernel_rfl) ?_ _
     go_wp2
     go_meet
     exact ⟨C5, rfl, HSET.out, hKF⟩
   ·go_simp
    obtain ⟨C7, hC7⟩ : ∃ C, C = v1.heap.size := ⟨_, rfl⟩
    obtain ⟨v7, hv7⟩ : ∃ v, v = (v1.alloc (.cells #[.int .u64 0, .int .u64 0, .int .u64 0] 108)) := ⟨_, rfl⟩
    rw [← hC7, ← hv7]
    have hz7 : v7.heap[C7]? = some (.cells #[.int .u64 0, .int .u64 0, .int .u64 0] 108 (0, 0)) := by rw [hv7, hC7]; exact heap_alloc_new v1 _
    have hK7 : Keeps [] Y v7 := by rw [hv7]; exact hK1.trans (Keeps.a1 v1 _)
    have HG7 := Lib.hid (show Y.heap.size ≤ C7 by rw [hC7]; exact hK1.size)
    have HZ7 := Lib.hid hz7
    clear hz7 hC7 hv7
    refine hK.out _ _ (⟨⟨hK7.cell b0 (by simp), hK7.cell b1 (by simp), hK7.cell b2 (by simp)⟩, hK7.cell w5 (by simp), hK7.cell ra (by simp)⟩) (fun hHeld => ?_)
    clear hK K
    try simp only [Act.put, List.setIfInBounds_toArray, List.set_cons_zero, List.set_cons_succ]
    refine branch_one (i := 12) rfl (by kernel_rfl) (by rfl) (fun K hK => ?_)
    go_simp
    with_reducible refine Calls.mono (HLB.out _ hK7) ?_
    rintro e v8 ⟨rfl, rfl⟩
    refine hK.out _ _ (⟨⟨hK7.cell b0 (by simp), hK7.cell b1 (by simp), hK7.cell b2 (by simp)⟩, hK7.cell w5 (by simp), hK7.cell ra (by simp)⟩) (fun hHeld => ?_)
    clear hK K
    try simp only [Act.put, List.setIfInBounds_toArray, List.set_cons_zero, List.set_cons_succ]
    refine take_on (i := 13) (v := ?_) rfl (by kernel_rfl) (by kernel_rfl) (by kernel_rfl) (fun _ _ _ h => h) (by rfl) (by assumption) ?_ ?_
    rotate_left
    ·((intro w hSw; (try dsimp only at hSw); go_simp <;> with_reducible rfl); done)
    try simp only [Act.put, List.setIfInBounds_toArray, List.set_cons_zero, List.set_cons_succ]
    refine branch_one (i := 16) rfl (by kernel_rfl) (by rfl) (fun K hK => ?_)
    go_simp
    with_reducible refine Calls.mono (HPB.out _ hK7) ?_
    rintro e v9 ⟨rfl, hv9⟩
    have hK9 := hK7.trans hv9
    have HY9 := Lib.hid (hv9.heap HZ7.out (by simp))
    refine hK.out _ _ (⟨⟨hK9.cell b0 (by simp), hK9.cell b1 (by simp), hK9.cell b2 (by simp)⟩, hK9.cell w5 (by simp), hK9.cell ra (by simp)⟩) (fun hHeld => ?_)
    clear hK K
    try simp only [Act.put, List.setIfInBounds_toArray, List.set_cons_zero, List.set_cons_succ]
    refine take_on (i := 17) (v := ?_) rfl (by kernel_rfl) (by kernel_rfl) (by kernel_rfl) (fun _ _ _ h => h) (by rfl) (by assumption) ?_ ?_
    rotate_left
    ·((intro w hSw; (try dsimp only at hSw); go_simp <;> with_reducible rfl); done)
    try simp only [Act.put, List.setIfInBounds_toArray, List.set_cons_zero, List.set_cons_succ]
    obtain ⟨z0, z1, z2, zf0, zf1, zf2⟩ := row3_cells HY9.out
    have hset := set3_heap HY9.out (.int .u64 p0) (.int .u64 ((rr &&& ll : Nat) : Int)) (.int .u64 p2)
    have HSET := Lib.hid hset
    have hKF := ((hK9.setCell (p := ⟨C7, 0, none⟩) (.inr HG7.out) (.int .u64 p0)).setCell (p := ⟨C7, 1, none⟩) (.inr HG7.out) (.int .u64 ((rr &&& ll : Nat) : Int))).setCell (p := ⟨C7, 2, none⟩) (.inr HG7.out) (.int .u64 p2)
    clear hset
    refine branch_one (i := 19) rfl (by kernel_rfl) (by rfl) (fun K hK => ?_)
    go_simp
    refine hK.out _ _ (⟨⟨hKF.cell b0 (by simp), hKF.cell b1 (by simp), hKF.cell b2 (by simp)⟩, hKF.cell w5 (by simp), hKF.cell ra (by simp)⟩) (fun hHeld => ?_)
    clear hK K
    try simp only [Act.put, List.setIfInBounds_toArray, List.set_cons_zero, List.set_cons_succ]
    refine wpAnyH_done (by kernel_rfl) ?_ _
    go_wp2
    go_meet
    exact ⟨C7, rfl, HSET.out, hKF⟩
  ·go_simp
   obtain ⟨C10, hC10⟩ : ∃ C, C = Y.heap.size := ⟨_, rfl⟩
   obtain ⟨v10, hv10⟩ : ∃ v, v = (Y.alloc (.cells #[.int .u64 0, .int .u64 0, .int .u64 0] 108)).drew := ⟨_, rfl⟩
   rw [← hC10, ← hv10]
   have hz10 : v10.heap[C10]? = some (.cells #[.int .u64 0, .int .u64 0, .int .u64 0] 108 (0, 0)) := by rw [hv10, hC10]; exact heap_alloc_new Y _
   have hK10 : Keeps [] Y v10 := by rw [hv10]; exact (Keeps.a1 Y _).drew
   have HG10 := Lib.hid (show Y.heap.size ≤ C10 by rw [hC10]; exact Nat.le_refl _)
   have HZ10 := Lib.hid hz10
   clear hz10 hC10 hv10
   refine hK.out _ _ (⟨⟨hK10.cell b0 (by simp), hK10.cell b1 (by simp), hK10.cell b2 (by simp)⟩, hK10.cell w5 (by simp), hK10.cell ra (by simp)⟩) (fun hHeld => ?_)
   clear hK K
   try simp only [Act.put, List.setIfInBounds_toArray, List.set_cons_zero, List.set_cons_succ]
   refine branch_one (i := 2) rfl (by kernel_rfl) (by rfl) (fun K hK => ?_)
   go_simp
   with_reducible refine Calls.mono (HPA.out _ hK10) ?_
   rintro e v11 ⟨rfl, hv11⟩
   have hK11 := hK10.trans hv11
   have HY11 := Lib.hid (hv11.heap HZ10.out (by simp))
   refine hK.out _ _ (⟨⟨hK11.cell b0 (by simp), hK11.cell b1 (by simp), hK11.cell b2 (by simp)⟩, hK11.cell w5 (by simp), hK11.cell ra (by simp)⟩) (fun hHeld => ?_)
   clear hK K
   try simp only [Act.put, List.setIfInBounds_toArray, List.set_cons_zero, List.set_cons_succ]
   refine branch_one (i := 12) rfl (by kernel_rfl) (by rfl) (fun K hK => ?_)
   go_simp
   with_reducible refine Calls.mono (HLB.out _ hK11) ?_
   rintro e v12 ⟨rfl, rfl⟩
   refine hK.out _ _ (⟨⟨hK11.cell b0 (by simp), hK11.cell b1 (by simp), hK11.cell b2 (by simp)⟩, hK11.cell w5 (by simp), hK11.cell ra (by simp)⟩) (fun hHeld => ?_)
   clear hK K
   try simp only [Act.put, List.setIfInBounds_toArray, List.set_cons_zero, List.set_cons_succ]
   refine take_on (i := 13) (v := ?_) rfl (by kernel_rfl) (by kernel_rfl) (by kernel_rfl) (fun _ _ _ h => h) (by rfl) (by assumption) ?_ ?_
   rotate_left
   ·((intro w hSw; (try dsimp only at hSw); go_simp <;> with_reducible rfl); done)
   try simp only [Act.put, List.setIfInBounds_toArray, List.set_cons_zero, List.set_cons_succ]
   refine branch_one (i := 16) rfl (by kernel_rfl) (by rfl) (fun K hK => ?_)
   go_simp
   with_reducible refine Calls.mono (HPB.out _ hK11) ?_
   rintro e v13 ⟨rfl, hv13⟩
   have hK13 := hK11.trans hv13
   have HY13 := Lib.hid (hv13.heap HY11.out (by simp))
   refine hK.out _ _ (⟨⟨hK13.cell b0 (by simp), hK13.cell b1 (by simp), hK13.cell b2 (by simp)⟩, hK13.cell w5 (by simp), hK13.cell ra (by simp)⟩) (fun hHeld => ?_)
   clear hK K
   try simp only [Act.put, List.setIfInBounds_toArray, List.set_cons_zero, List.set_cons_succ]
   refine take_on (i := 17) (v := ?_) rfl (by kernel_rfl) (by kernel_rfl) (by kernel_rfl) (fun _ _ _ h => h) (by rfl) (by assumption) ?_ ?_
   rotate_left
   ·((intro w hSw; (try dsimp only at hSw); go_simp <;> with_reducible rfl); done)
   try simp only [Act.put, List.setIfInBounds_toArray, List.set_cons_zero, List.set_cons_succ]
   obtain ⟨z0, z1, z2, zf0, zf1, zf2⟩ := row3_cells HY13.out
   have hset := set3_heap HY13.out (.int .u64 p0) (.int .u64 ((rr &&& ll : Nat) : Int)) (.int .u64 p2)
   have HSET := Lib.hid hset
   have hKF := ((hK13.setCell (p := ⟨C10, 0, none⟩) (.inr HG10.out) (.int .u64 p0)).setCell (p := ⟨C10, 1, none⟩) (.inr HG10.out) (.int .u64 ((rr &&& ll : Nat) : Int))).setCell (p := ⟨C10, 2, none⟩) (.inr HG10.out) (.int .u64 p2)
   clear hset
   refine branch_one (i := 19) rfl (by kernel_rfl) (by rfl) (fun K hK => ?_)
   go_simp
   refine hK.out _ _ (⟨⟨hKF.cell b0 (by simp), hKF.cell b1 (by simp), hKF.cell b2 (by simp)⟩, hKF.cell w5 (by simp), hKF.cell ra (by simp)⟩) (fun hHeld => ?_)
   clear hK K
   try simp only [Act.put, List.setIfInBounds_toArray, List.set_cons_zero, List.set_cons_succ]
   refine wpAnyH_done (by kernel_rfl) ?_ _
   go_wp2
   go_meet
   exact ⟨C10, rfl, HSET.out, hKF⟩
 case rest =>
  obtain ⟨C, rfl, hZH, hkZ⟩ := hcut
  obtain ⟨Z, hZ⟩ : ∃ Z : World, Z = wc := ⟨_, rfl⟩
  subst hZ
  have d0 := hkZ.cell b0 (by simp)
  have d1 := hkZ.cell b1 (by simp)
  have d2 := hkZ.cell b2 (by simp)
  have e0 : Z.cell? ⟨C, 0, none⟩ = some (.int .u64 p0) := by simp [World.cell?, hZH]
  have e1 : Z.cell? ⟨C, 1, none⟩ = some (.int .u64 ((rr &&& ll : Nat) : Int)) := by simp [World.cell?, hZH]
  have e2 : Z.cell? ⟨C, 2, none⟩ = some (.int .u64 p2) := by simp [World.cell?, hZH]
  have hln := HOK.out.ln
  have haN := HAN.out
  have hbN := HBN.out
  have hMa : M64 (a : Int) := M64.small (by omega) (by omega)
  have hMb : M64 (b : Int) := M64.small (by omega) (by omega)
  have hBOK : BOK x.nodes.length ((a : Int), (a : Int), (b : Int)) := ⟨⟨by show (0 : Int) ≤ a; omega, by show (a : Int) < x.nodes.length; omega⟩, ⟨by show (0 : Int) ≤ a; omega, by show (a : Int) < x.nodes.length; omega⟩, ⟨by show (0 : Int) ≤ b; omega, by show (b : Int) < x.nodes.length; omega⟩⟩
  have HCALL := Lib.hid (search_ok Z (BOK x.nodes.length) (domB x.nodes.length) 53 #[.pointer (some ⟨B, 0, none⟩), .pointer (some ⟨C, 0, none⟩)] 54 #[.pointer (some ⟨B + 1, 0, none⟩), .pointer (some ⟨B + 1 + 1, 0, none⟩)] (BSucc x.edges p0 (rr &&& ll) p2) ((a : Int), (a : Int), (b : Int)) ((a : Int), (b : Int), (b : Int))
   {ok := fun t ht => domB_ok hln ht
    len := by
     rw [domB_len]
     exact Nat.le_trans (Nat.mul_le_mul hln (Nat.mul_le_mul hln hln)) (by decide)
    closed := fun s c t hs h => BSucc.ok (fun e he => (HOK.out.ed e he).2.1) h
    cls := fun s c t h => by
     obtain ⟨e, he, f, _, g, _, _, _, _, h3, _⟩ := h
     have := (HOK.out.ed e he).2.2.1
     have := HW.out.gr.lc
     rw [← h3]
     exact M64.small (by omega) (by omega)
    next := bridgeNext_ok x rows wb B C p0 (rr &&& ll) p2 Z (HW.out.keep hkZ) HOK.out d0 e0 e1 e2 HL0.out HL1.out HL2.out
    want := fun t W ht hk => wantB_any (B + 1) (B + 1 + 1) (a : Int) (b : Int) t W (hk.cell d1 (by simp)) (hk.cell d2 (by simp)) (domB_ok hln ht).1 hMa hMb
    start := hBOK
    ne := by
     have := HAB.out
     simp
     omega
    enN := entersA_of Tryd.func53 (by kernel_rfl) rfl
    enW := entersA_of Tryd.func54 (by kernel_rfl) rfl })
  have HPOST := Lib.hid (show Keeps [] w Z from HKY.out.trans hkZ)
  clear e0 e1 e2 hZH hkZ hBOK hMa hMb b0 b1 b2 w5 ra hand
  simp only [triv] at HCALL
  go_wp2_with fail
  refine HCALL.out.mono ?_
  intro e w3 h3
  have h4 := h3.older HPOST.out
  rw [← HQ.out] at h4
  have H4 := Lib.hid h4
  obtain ⟨_, h5⟩ := h3
  rcases h5 with ⟨a, c, word, rfl, _⟩ | ⟨rfl, _⟩
  ·clear h4
   go_wp2
   exact H4.out
  ·clear h4
   go_wp2
   exact H4.out
theorem sum_app : ∀ l m : List Int, (l ++ m).sum = l.sum + m.sum
 | [], m => by simp
 | x :: l, m => by
  rw [List.cons_append, List.sum_cons, List.sum_cons, sum_app l m]; omega
theorem sum_take_succ {l : List Int} {k : Nat} (h : k < l.length) : (l.take (k + 1)).sum = (l.take k).sum + l[k] := by
 rw [List.take_succ_eq_append_getElem h, sum_app, List.sum_cons, List.sum_nil]; omega
theorem sum_bd : ∀ {l : List Int} {M : Int}, 0 ≤ M → (∀ x ∈ l, 0 ≤ x ∧ x ≤ M) → 0 ≤ l.sum ∧ l.sum ≤ l.length * M
 | [], M, _, _ => by simp
 | x :: l, M, hM, h => by
  have h1 := h x (by simp)
  have h2 := sum_bd (l := l) hM fun y hy => h y (by simp [hy])
  simp only [List.sum_cons, List.length_cons]
  have e : ((l.length + 1 : Nat) : Int) * M = l.length * M + M := by rw [Int.natCast_add, Int.add_mul]; simp
  rw [e]
  omega
theorem sum_any (ao : Option Addr) (c : Nat) (l : List Int) (w : World) (hi : IntsIn w ao l) (hl : l.length ≤ 64) (hb : ∀ x ∈ l, 0 ≤ x ∧ x ≤ 1099511627777) :
  Calls Tryd.prog 29 #[.slice ao l.length c] w fun e w' => e = .returned (.int .i64 l.sum) ∧ w = w' := by
 have HI := Lib.hid hi
 have HB := Lib.hid hb
 obtain ⟨R, hR⟩ : ∃ R, R = l.sum := ⟨_, rfl⟩
 rw [← hR]
 have HR := Lib.hid hR
 clear hi hb hR
 go_enter Tryd.func29, Tryd.ntmps29
 go_wp2
 go_loopw [8, 3] (fun i s wr => ∃ k : Nat, k ≤ l.length ∧ i = .int .i64 k ∧ s = .int .i64 (l.take k).sum ∧ w = wr) (fun i _ _ => l.length - (intOf i).toNat)
 case atStart => exact ⟨0, Nat.zero_le _, rfl, rfl, rfl⟩
 case round =>
  obtain ⟨k, hk, rfl, rfl, rfl⟩ := hrel
  by_cases hlt : k < l.length
  ·obtain ⟨b, off, rfl, hc⟩ := HI.out (by omega)
   have x0 := hc k hlt
   have hgd : l.getD k 0 = l[k] := by simp [List.getD, hlt]
   have hx := HB.out l[k] (List.getElem_mem hlt)
   have hs := sum_take_succ hlt
   have hbd := sum_bd (l := l.take k) (M := 1099511627777) (by omega) (fun x hx => HB.out x (List.mem_of_mem_take hx))
   rw [List.length_take, Nat.min_eq_left (by omega)] at hbd
   rw [hgd] at x0
   obtain ⟨x, hxe⟩ : ∃ x, x = l[k] := ⟨_, rfl⟩
   obtain ⟨q, hq⟩ : ∃ q, q = (l.take k).sum := ⟨_, rfl⟩
   rw [← hxe] at x0 hx hs
   rw [← hq] at hbd hs ⊢
   have HS := Lib.hid hs
   have hw : IntKind.i64.wrap (q + x) = q + x := IntWalk.i64_in _ (by omega)
   clear hc hgd hs hxe hq
   go_wp2
   go_roundw
   case rel => exact ⟨k + 1, by omega, by go_num, by rw [HS.out], (by first | rfl | trivial)⟩
   case measure => simp [intOf]; omega
  ·obtain rfl : k = l.length := by omega
   rw [List.take_length, ← HR.out]
   go_wp2
   go_ret
   exact ⟨rfl, rfl⟩
end Go.Proofs.YtphnbmdcgcchaaaDoor
