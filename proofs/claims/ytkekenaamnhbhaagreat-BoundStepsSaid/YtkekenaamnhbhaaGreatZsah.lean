/- Part 8 of the proof. No condition: every lemma says its own. -/
import Derived.Test.YtkekenaamnhbhaaGreatZsag
namespace Go.Proofs.YtkekenaamnhbhaaGreat
open Go.RowKit Go.Sort Go.BigFrame
set_option maxRecDepth 100000
set_option maxHeartbeats 16000000
def WaysPost (w : World) (x : Gr) (e : Ending) (w' : World) : Prop :=
 ∃ wb rows, e = .returned (.pointer (some ⟨wb, 0, none⟩)) ∧ WaysAt w' wb x rows ∧ WRows (Ere x.edges) x.nodes.length rows ∧ (∀ n, n < x.nodes.length → rows.getD n 0 < 2 ^ 64) ∧ Keeps [] w w'
set_option linter.unusedSimpArgs false in
theorem newWays_any (x : Gr) (w : World) (hx : GrIn w x) (ok : GrOK x) :
  Calls Tryz.prog 67 #[x.val] w (WaysPost w x) := by
 obtain ⟨ip, hip, hpz, hps, hpb⟩ := infoParts infoMp
 obtain ⟨iu, hiu, huz, hus, hub⟩ := infoParts infoNs
 obtain ⟨ie, hie, hez, hes, heb⟩ := infoParts infoEd
 obtain ⟨B, hB⟩ : ∃ B, B = w.heap.size := ⟨_, rfl⟩
 obtain ⟨Y, hY⟩ : ∃ Y, Y = w.alloc (.cells x.row.toArray 89) := ⟨_, rfl⟩
 have hkY : Keeps [] w Y := by rw [hY]; exact Keeps.a1 _ _
 have hb : Y.heap[B]? = some (.cells x.row.toArray 89 (0, 0)) := by rw [hY, hB]; exact heap_alloc_new w _
 have hBY : B < Y.heap.size := lt_of_block hb
 obtain ⟨b0, b1, b2, b3⟩ := row_cells4 hb
 have hcl : x.cls.length ≤ 1000000000000 := hx.lc
 have HX := gI (hx.keep hkY)
 have HCL := gI hcl
 have HY := gI (show w.alloc (.cells #[.slice x.ca x.cls.length x.cc, .slice x.na x.nodes.length x.nc, .slice x.fa x.first.length x.fc, .slice x.ea x.edges.length x.ec] 89) = Y by rw [hY]; rfl)
 have HB := gI hB
 have HKY := gI hkY
 have HBY := gI hBY
 have OK := gI ok
 have ln := ok.ln
 have le := ok.le
 have HIE := gI hie
 have HEZ := gI hez
 have HES := gI hes
 have HEB := gI heb
 obtain ⟨P, hP⟩ : ∃ P, P = WaysPost w x := ⟨_, rfl⟩
 rw [← hP]
 have HP := gI hP
 have HM1 : ∀ W : World, (Instr.makeSlice 168 (.int .i64 x.nodes.length) (.int .i64 x.nodes.length)).run Tryz.prog W = .ok (.slice (some ⟨W.heap.size, 0, none⟩) x.nodes.length x.nodes.length) (W.alloc (.cells (List.replicate x.nodes.length (.map none)).toArray 172)) :=
  fun W => run_make_one Tryz.underlying168 hip hpz hps hpb rfl W x.nodes.length (by omega)
 have HM2 : ∀ W : World, (Instr.makeSlice 169 (.int .i64 x.nodes.length) (.int .i64 x.nodes.length)).run Tryz.prog W = .ok (.slice (some ⟨W.heap.size, 0, none⟩) x.nodes.length x.nodes.length) (W.alloc (.cells (List.replicate x.nodes.length (.int .u64 0)).toArray 173)) :=
  fun W => run_make_one Tryz.underlying169 hiu huz hus hub rfl W x.nodes.length (by omega)
 simp only [Gr.val]
 obtain ⟨x0, hx0⟩ : ∃ x0, x0 = x := ⟨_, rfl⟩
 rw [← hx0] at HX OK HP
 have HX0 := gI hx0
 obtain ⟨ca, cc, cls, na, nc, nodes, fa, fc, first, ea, ec, edges⟩ := x
 simp only at *
 obtain ⟨N, hN⟩ : ∃ N, N = nodes.length := ⟨_, rfl⟩
 rw [← hN] at HM1 HM2 HY b1 ln ⊢
 have HN := gI hN
 clear hx ok hY hB hkY hb hBY hip hpz hps hpb hiu huz hus hub hie hez hes heb hP hx0 hN
 go_enter Tryz.func67, Tryz.ntmps67
 go_upto_region 1 with fail
 rw [HY.out, ← HB.out]
 go_cut [3] (fun s3 wx => ∃ ob rb wb : Nat, s3 = .pointer (some ⟨wb, 0, none⟩) ∧ MapRow wx ob N [] ∧ U64s wx rb (List.replicate N 0) ∧ wx.heap[wb]? = some (.cells (wayRow x0 ob rb).toArray 171 (0, 0)) ∧ Keeps [] Y wx ∧ (Y.heap.size ≤ ob ∧ Y.heap.size ≤ rb ∧ Y.heap.size ≤ wb) ∧ ob ≠ rb ∧ ob ≠ wb ∧ rb ≠ wb)
 case first => as_aux_lemma =>
  refine wp_region_held_drew (S := fun w' => w'.cell? ⟨B, 0, none⟩ = some (.slice ca cls.length cc) ∧ w'.cell? ⟨B, 1, none⟩ = some (.slice na N nc) ∧ w'.cell? ⟨B, 2, none⟩ = some (.slice fa first.length fc) ∧ w'.cell? ⟨B, 3, none⟩ = some (.slice ea edges.length ec)) (by kernel_rfl) ⟨b0, b1, b2, b3⟩ (fun hHeld => ?_)
  refine take_on (i := 0) (v := ?_) rfl (by kernel_rfl) (by kernel_rfl) (by kernel_rfl) (fun _ _ _ h => h) (by rfl) (by assumption) ?_ ?_
  rotate_left
  ·((intro w hSw; (try dsimp only at hSw); go_simp <;> with_reducible rfl); done)
  try simp only [Act.put, List.setIfInBounds_toArray, List.set_cons_zero, List.set_cons_succ]
  refine take_on (i := 1) (v := ?_) rfl (by kernel_rfl) (by kernel_rfl) (by kernel_rfl) (fun _ _ _ h => h) (by rfl) (by assumption) ?_ ?_
  rotate_left
  ·((intro w hSw; (try dsimp only at hSw); go_simp <;> with_reducible rfl); done)
  try simp only [Act.put, List.setIfInBounds_toArray, List.set_cons_zero, List.set_cons_succ]
  refine take_on (i := 2) (v := ?_) rfl (by kernel_rfl) (by kernel_rfl) (by kernel_rfl) (fun _ _ _ h => h) (by rfl) (by assumption) ?_ ?_
  rotate_left
  ·((intro w hSw; (try dsimp only at hSw); go_simp <;> with_reducible rfl); done)
  try simp only [Act.put, List.setIfInBounds_toArray, List.set_cons_zero, List.set_cons_succ]
  refine take_on (i := 3) (v := ?_) rfl (by kernel_rfl) (by kernel_rfl) (by kernel_rfl) (fun _ _ _ h => h) (by rfl) (by assumption) ?_ ?_
  rotate_left
  ·((intro w hSw; (try dsimp only at hSw); go_simp <;> with_reducible rfl); done)
  try simp only [Act.put, List.setIfInBounds_toArray, List.set_cons_zero, List.set_cons_succ]
  refine take_on (i := 5) (v := ?_) rfl (by kernel_rfl) (by kernel_rfl) (by kernel_rfl) (fun _ _ _ h => h) (by rfl) (by assumption) ?_ ?_
  rotate_left
  ·((intro w hSw; (try dsimp only at hSw); go_simp <;> with_reducible rfl); done)
  try simp only [Act.put, List.setIfInBounds_toArray, List.set_cons_zero, List.set_cons_succ]
  refine take_on (i := 6) (v := ?_) rfl (by kernel_rfl) (by kernel_rfl) (by kernel_rfl) (fun _ _ _ h => h) (by rfl) (by assumption) ?_ ?_
  rotate_left
  ·((intro w hSw; (try dsimp only at hSw); go_simp <;> with_reducible rfl); done)
  try simp only [Act.put, List.setIfInBounds_toArray, List.set_cons_zero, List.set_cons_succ]
  refine take_on (i := 7) (v := ?_) rfl (by kernel_rfl) (by kernel_rfl) (by kernel_rfl) (fun _ _ _ h => h) (by rfl) (by assumption) ?_ ?_
  rotate_left
  ·((intro w hSw; (try dsimp only at hSw); go_simp <;> with_reducible rfl); done)
  try simp only [Act.put, List.setIfInBounds_toArray, List.set_cons_zero, List.set_cons_succ]
  refine branch_two (i := 4) (j := 8) rfl rfl (by kernel_rfl) (by rfl) (by rfl) (fun K hK => ?_) (fun K hK => ?_)
  ·go_simp
   have K1 : Keeps [] Y (Y.alloc (.cells (Array.replicate N (.map none)) 172)).drew := ((Keeps.refl [] Y).alloc _).drew
   have K2 : Keeps [] Y ((Y.alloc (.cells (Array.replicate N (.map none)) 172)).alloc (.cells (Array.replicate N (.int .u64 0)) 173)).drew := (((Keeps.refl [] Y).alloc _).alloc _).drew
   have K3 : Keeps [] Y (((Y.alloc (.cells (Array.replicate N (.map none)) 172)).alloc (.cells (Array.replicate N (.int .u64 0)) 173)).alloc (.cells (wayRow x0 Y.heap.size (Y.heap.size + 1)).toArray 171)).drew := ((((Keeps.refl [] Y).alloc _).alloc _).alloc _).drew
   refine hK.out _ _ (⟨K1.cell b0 (by simp), K1.cell b1 (by simp), K1.cell b2 (by simp), K1.cell b3 (by simp)⟩) (fun hHeld => ?_)
   clear hK K
   try simp only [Act.put, List.setIfInBounds_toArray, List.set_cons_zero, List.set_cons_succ]
   refine branch_one (i := 8) rfl (by kernel_rfl) (by rfl) (fun K hK => ?_)
   go_simp
   refine hK.out _ _ (⟨K2.cell b0 (by simp), K2.cell b1 (by simp), K2.cell b2 (by simp), K2.cell b3 (by simp)⟩) (fun hHeld => ?_)
   clear hK K
   try simp only [Act.put, List.setIfInBounds_toArray, List.set_cons_zero, List.set_cons_succ]
   refine take_on (i := 9) (v := .agg #[.slice ca cls.length cc, .slice na N nc, .slice fa first.length fc, .slice ea edges.length ec, .slice (some ⟨Y.heap.size, 0, none⟩) N N, .slice (some ⟨Y.heap.size + 1, 0, none⟩) N N]) rfl (by kernel_rfl) (by kernel_rfl) (by kernel_rfl) (fun _ _ _ h => h) (by rfl) (by assumption) ?_ ?_
   ·(intro w hSw; exact exec_build (parts := [(0, .tmp 9), (1, .tmp 13), (2, .tmp 17)]) rfl (built_ways _ _ _ _ _ _ _ _ _ _ _ _ _ _ _ _ _ _))
   try simp only [Act.put, List.setIfInBounds_toArray, List.set_cons_zero, List.set_cons_succ]
   refine branch_one (i := 10) rfl (by kernel_rfl) (by rfl) (fun K hK => ?_)
   go_simp
   have hrow : wayRow x0 Y.heap.size (Y.heap.size + 1) = [.slice ca cls.length cc, .slice na N nc, .slice fa first.length fc, .slice ea edges.length ec, .slice (some ⟨Y.heap.size, 0, none⟩) N N, .slice (some ⟨(Y.heap.size + 1), 0, none⟩) N N] := by rw [HX0.out, HN.out]; rfl
   rw [hrow] at K3
   refine hK.out _ _ (⟨K3.cell b0 (by simp), K3.cell b1 (by simp), K3.cell b2 (by simp), K3.cell b3 (by simp)⟩) (fun hHeld => ?_)
   clear hK K
   try simp only [Act.put, List.setIfInBounds_toArray, List.set_cons_zero, List.set_cons_succ]
   refine take_on (i := 11) (v := ?_) rfl (by kernel_rfl) (by kernel_rfl) (by kernel_rfl) (fun _ _ _ h => h) (by rfl) (by assumption) ?_ ?_
   rotate_left
   ·((intro w hSw; (try dsimp only at hSw); go_simp <;> with_reducible rfl); done)
   try simp only [Act.put, List.setIfInBounds_toArray, List.set_cons_zero, List.set_cons_succ]
   refine wpAnyH_done (by kernel_rfl) ?_ _
   go_wp2
   go_meet
   refine ⟨Y.heap.size, (Y.heap.size + 1), Y.heap.size + 2, rfl, ?_, ?_, ?_, K3, by omega, by omega, by omega, by omega⟩
   ·have k : Keeps [] (Y.alloc (.cells (Array.replicate N (.map none)) 172)) (((Y.alloc (.cells (Array.replicate N (.map none)) 172)).alloc (.cells (Array.replicate N (.int .u64 0)) 173)).alloc (.cells #[.slice ca cls.length cc, .slice na N nc, .slice fa first.length fc, .slice ea edges.length ec, .slice (some ⟨Y.heap.size, 0, none⟩) N N, .slice (some ⟨Y.heap.size + 1, 0, none⟩) N N] 171)).drew := (((Keeps.refl [] (Y.alloc (.cells (Array.replicate N (.map none)) 172))).alloc (.cells (Array.replicate N (.int .u64 0)) 173)).alloc (.cells #[.slice ca cls.length cc, .slice na N nc, .slice fa first.length fc, .slice ea edges.length ec, .slice (some ⟨Y.heap.size, 0, none⟩) N N, .slice (some ⟨Y.heap.size + 1, 0, none⟩) N N] 171)).drew
    have h := k.heap (heap_alloc_new Y (.cells (Array.replicate N (.map none)) 172)) (by simp)
    unfold MapRow
    rw [h]
    simp
   ·have k : Keeps [] ((Y.alloc (.cells (Array.replicate N (.map none)) 172)).alloc (.cells (Array.replicate N (.int .u64 0)) 173)) (((Y.alloc (.cells (Array.replicate N (.map none)) 172)).alloc (.cells (Array.replicate N (.int .u64 0)) 173)).alloc (.cells #[.slice ca cls.length cc, .slice na N nc, .slice fa first.length fc, .slice ea edges.length ec, .slice (some ⟨Y.heap.size, 0, none⟩) N N, .slice (some ⟨Y.heap.size + 1, 0, none⟩) N N] 171)).drew := ((Keeps.refl [] ((Y.alloc (.cells (Array.replicate N (.map none)) 172)).alloc (.cells (Array.replicate N (.int .u64 0)) 173))).alloc (.cells #[.slice ca cls.length cc, .slice na N nc, .slice fa first.length fc, .slice ea edges.length ec, .slice (some ⟨Y.heap.size, 0, none⟩) N N, .slice (some ⟨Y.heap.size + 1, 0, none⟩) N N] 171)).drew
    have h := k.heap (heap_alloc2_new Y (.cells (Array.replicate N (.map none)) 172) (.cells (Array.replicate N (.int .u64 0)) 173)) (by simp)
    unfold U64s
    rw [h]
    simp
   ·rw [hrow]
    have hs : ((Y.alloc (.cells (Array.replicate N (.map none)) 172)).alloc (.cells (Array.replicate N (.int .u64 0)) 173)).heap.size = Y.heap.size + 2 := by simp
    have h := heap_alloc_new ((Y.alloc (.cells (Array.replicate N (.map none)) 172)).alloc (.cells (Array.replicate N (.int .u64 0)) 173)) (.cells #[.slice ca cls.length cc, .slice na N nc, .slice fa first.length fc, .slice ea edges.length ec, .slice (some ⟨Y.heap.size, 0, none⟩) N N, .slice (some ⟨Y.heap.size + 1, 0, none⟩) N N] 171)
    rw [hs] at h
    exact h
  ·go_simp
   have K1 : Keeps [] Y (Y.alloc (.cells (Array.replicate N (.int .u64 0)) 173)).drew := ((Keeps.refl [] Y).alloc _).drew
   have K2 : Keeps [] Y ((Y.alloc (.cells (Array.replicate N (.int .u64 0)) 173)).alloc (.cells (Array.replicate N (.map none)) 172)).drew := (((Keeps.refl [] Y).alloc _).alloc _).drew
   have K3 : Keeps [] Y (((Y.alloc (.cells (Array.replicate N (.int .u64 0)) 173)).alloc (.cells (Array.replicate N (.map none)) 172)).alloc (.cells (wayRow x0 (Y.heap.size + 1) Y.heap.size).toArray 171)).drew := ((((Keeps.refl [] Y).alloc _).alloc _).alloc _).drew
   refine hK.out _ _ (⟨K1.cell b0 (by simp), K1.cell b1 (by simp), K1.cell b2 (by simp), K1.cell b3 (by simp)⟩) (fun hHeld => ?_)
   clear hK K
   try simp only [Act.put, List.setIfInBounds_toArray, List.set_cons_zero, List.set_cons_succ]
   refine branch_one (i := 4) rfl (by kernel_rfl) (by rfl) (fun K hK => ?_)
   go_simp
   refine hK.out _ _ (⟨K2.cell b0 (by simp), K2.cell b1 (by simp), K2.cell b2 (by simp), K2.cell b3 (by simp)⟩) (fun hHeld => ?_)
   clear hK K
   try simp only [Act.put, List.setIfInBounds_toArray, List.set_cons_zero, List.set_cons_succ]
   refine take_on (i := 9) (v := .agg #[.slice ca cls.length cc, .slice na N nc, .slice fa first.length fc, .slice ea edges.length ec, .slice (some ⟨Y.heap.size + 1, 0, none⟩) N N, .slice (some ⟨Y.heap.size, 0, none⟩) N N]) rfl (by kernel_rfl) (by kernel_rfl) (by kernel_rfl) (fun _ _ _ h => h) (by rfl) (by assumption) ?_ ?_
   ·(intro w hSw; exact exec_build (parts := [(0, .tmp 9), (1, .tmp 13), (2, .tmp 17)]) rfl (built_ways _ _ _ _ _ _ _ _ _ _ _ _ _ _ _ _ _ _))
   try simp only [Act.put, List.setIfInBounds_toArray, List.set_cons_zero, List.set_cons_succ]
   refine branch_one (i := 10) rfl (by kernel_rfl) (by rfl) (fun K hK => ?_)
   go_simp
   have hrow : wayRow x0 (Y.heap.size + 1) Y.heap.size = [.slice ca cls.length cc, .slice na N nc, .slice fa first.length fc, .slice ea edges.length ec, .slice (some ⟨(Y.heap.size + 1), 0, none⟩) N N, .slice (some ⟨Y.heap.size, 0, none⟩) N N] := by rw [HX0.out, HN.out]; rfl
   rw [hrow] at K3
   refine hK.out _ _ (⟨K3.cell b0 (by simp), K3.cell b1 (by simp), K3.cell b2 (by simp), K3.cell b3 (by simp)⟩) (fun hHeld => ?_)
   clear hK K
   try simp only [Act.put, List.setIfInBounds_toArray, List.set_cons_zero, List.set_cons_succ]
   refine take_on (i := 11) (v := ?_) rfl (by kernel_rfl) (by kernel_rfl) (by kernel_rfl) (fun _ _ _ h => h) (by rfl) (by assumption) ?_ ?_
   rotate_left
   ·((intro w hSw; (try dsimp only at hSw); go_simp <;> with_reducible rfl); done)
   try simp only [Act.put, List.setIfInBounds_toArray, List.set_cons_zero, List.set_cons_succ]
   refine wpAnyH_done (by kernel_rfl) ?_ _
   go_wp2
   go_meet
   refine ⟨(Y.heap.size + 1), Y.heap.size, Y.heap.size + 2, rfl, ?_, ?_, ?_, K3, by omega, by omega, by omega, by omega⟩
   ·have k : Keeps [] ((Y.alloc (.cells (Array.replicate N (.int .u64 0)) 173)).alloc (.cells (Array.replicate N (.map none)) 172)) (((Y.alloc (.cells (Array.replicate N (.int .u64 0)) 173)).alloc (.cells (Array.replicate N (.map none)) 172)).alloc (.cells #[.slice ca cls.length cc, .slice na N nc, .slice fa first.length fc, .slice ea edges.length ec, .slice (some ⟨Y.heap.size + 1, 0, none⟩) N N, .slice (some ⟨Y.heap.size, 0, none⟩) N N] 171)).drew := ((Keeps.refl [] ((Y.alloc (.cells (Array.replicate N (.int .u64 0)) 173)).alloc (.cells (Array.replicate N (.map none)) 172))).alloc (.cells #[.slice ca cls.length cc, .slice na N nc, .slice fa first.length fc, .slice ea edges.length ec, .slice (some ⟨Y.heap.size + 1, 0, none⟩) N N, .slice (some ⟨Y.heap.size, 0, none⟩) N N] 171)).drew
    have h := k.heap (heap_alloc2_new Y (.cells (Array.replicate N (.int .u64 0)) 173) (.cells (Array.replicate N (.map none)) 172)) (by simp)
    unfold MapRow
    rw [h]
    simp
   ·have k : Keeps [] (Y.alloc (.cells (Array.replicate N (.int .u64 0)) 173)) (((Y.alloc (.cells (Array.replicate N (.int .u64 0)) 173)).alloc (.cells (Array.replicate N (.map none)) 172)).alloc (.cells #[.slice ca cls.length cc, .slice na N nc, .slice fa first.length fc, .slice ea edges.length ec, .slice (some ⟨Y.heap.size + 1, 0, none⟩) N N, .slice (some ⟨Y.heap.size, 0, none⟩) N N] 171)).drew := (((Keeps.refl [] (Y.alloc (.cells (Array.replicate N (.int .u64 0)) 173))).alloc (.cells (Array.replicate N (.map none)) 172)).alloc (.cells #[.slice ca cls.length cc, .slice na N nc, .slice fa first.length fc, .slice ea edges.length ec, .slice (some ⟨Y.heap.size + 1, 0, none⟩) N N, .slice (some ⟨Y.heap.size, 0, none⟩) N N] 171)).drew
    have h := k.heap (heap_alloc_new Y (.cells (Array.replicate N (.int .u64 0)) 173)) (by simp)
    unfold U64s
    rw [h]
    simp
   ·rw [hrow]
    have hs : ((Y.alloc (.cells (Array.replicate N (.int .u64 0)) 173)).alloc (.cells (Array.replicate N (.map none)) 172)).heap.size = Y.heap.size + 2 := by simp
    have h := heap_alloc_new ((Y.alloc (.cells (Array.replicate N (.int .u64 0)) 173)).alloc (.cells (Array.replicate N (.map none)) 172)) (.cells #[.slice ca cls.length cc, .slice na N nc, .slice fa first.length fc, .slice ea edges.length ec, .slice (some ⟨Y.heap.size + 1, 0, none⟩) N N, .slice (some ⟨Y.heap.size, 0, none⟩) N N] 171)
    rw [hs] at h
    exact h
 case rest =>
  obtain ⟨ob, rb, wb, rfl, hmr, hus, hbx, hkx, ⟨hob, hrb, hwb⟩, hn1, hn2, hn3⟩ := hcut
  have hB := HBY.out
  have HO := gI (show ∀ x ∈ [ob, rb, wb, B], x = ob ∨ x = rb ∨ x = wb ∨ x = B by intro x hx; simpa using hx)
  obtain ⟨v0, v1, v2, v3⟩ := (⟨hkx.cell b0 (by simp), hkx.cell b1 (by simp), hkx.cell b2 (by simp), hkx.cell b3 (by simp)⟩ : wc.cell? ⟨B, 0, none⟩ = some (.slice ca cls.length cc) ∧ wc.cell? ⟨B, 1, none⟩ = some (.slice na N nc) ∧ wc.cell? ⟨B, 2, none⟩ = some (.slice fa first.length fc) ∧ wc.cell? ⟨B, 3, none⟩ = some (.slice ea edges.length ec))
  have HBOX := gI (show ∀ W : World, Keeps [] Y W → W.cell? ⟨B, 0, none⟩ = some (.slice ca cls.length cc) ∧ W.cell? ⟨B, 1, none⟩ = some (.slice na N nc) ∧ W.cell? ⟨B, 2, none⟩ = some (.slice fa first.length fc) ∧ W.cell? ⟨B, 3, none⟩ = some (.slice ea edges.length ec) from
   fun W k => ⟨k.cell b0 (by simp), k.cell b1 (by simp), k.cell b2 (by simp), k.cell b3 (by simp)⟩)
  have HWAY := gI (show ∀ W : World, W.heap[wb]? = some (.cells (wayRow x0 ob rb).toArray 171 (0, 0)) → W.cell? ⟨wb, 4, none⟩ = some (.slice (some ⟨ob, 0, none⟩) N N) ∧ W.cell? ⟨wb, 5, none⟩ = some (.slice (some ⟨rb, 0, none⟩) N N) from fun W h => by
   have h2 := way_cells h
   rw [HX0.out] at h2
   simp only at h2
   rw [← HN.out] at h2
   exact ⟨h2.2.2.2.2.1, h2.2.2.2.2.2⟩)
  have HST := gI (show ∃ rows : List Nat, MapRow wc ob N [] ∧ U64s wc rb rows ∧ rows.length = N ∧ (∀ n, n < 0 → rows.getD n 0 = 2 ^ n) ∧ Out wc 0 (fun n => ([] : List Nat).getD n 0) (fun _ _ => (none, 0)) [] ∧ Apt Y.heap.size [ob, rb, wb, B] 0 (fun n => ([] : List Nat).getD n 0) (fun _ _ => (none, 0)) ∧ wc.heap[wb]? = some (.cells (wayRow x0 ob rb).toArray 171 (0, 0)) ∧ Keeps [] Y wc from
   ⟨_, hmr, hus, by simp, fun n hn => by omega, ⟨fun n hn => by omega, fun n hn => by omega, fun n hn => by omega⟩, ⟨fun n m hn => by omega, fun n hn => by omega, fun n hn => by omega, fun n m hn => by omega⟩, hbx, hkx⟩)
  clear b0 b1 b2 b3 hmr hus hbx hkx HM1 HM2
  go_wp2
  go_loopw [23] (fun i wr => ∃ (k : Nat) (mbs rows : List Nat), k ≤ N ∧ i = .int .i64 k ∧ mbs.length = k ∧ MapRow wr ob N mbs ∧ U64s wr rb rows ∧ rows.length = N ∧ (∀ n, n < k → rows.getD n 0 = 2 ^ n) ∧ Out wr k (fun n => mbs.getD n 0) (fun _ _ => (none, 0)) [] ∧ Apt Y.heap.size [ob, rb, wb, B] k (fun n => mbs.getD n 0) (fun _ _ => (none, 0)) ∧
   wr.heap[wb]? = some (.cells (wayRow x0 ob rb).toArray 171 (0, 0)) ∧ Keeps [] Y wr) (fun i _ => N - (intOf i).toNat)
  case atStart =>
   obtain ⟨rows, h1, h2, h3, h4, h5, h6, h7, h8⟩ := HST.out
   exact ⟨0, [], rows, Nat.zero_le _, rfl, rfl, h1, h2, h3, h4, h5, h6, h7, h8⟩
  case round =>
   obtain ⟨k, mbs, rows, hk, rfl, hml, hmr, hus, hrl, hrw, hout, hapt, hbx, hkp⟩ := hrel
   by_cases hlt : k < N
   ·obtain ⟨w4, w5⟩ := HWAY.out _ hbx
    have m0 := hmr.cell0 k (by omega) hlt
    have mf := hmr.fz k
    have HMM : ∀ W : World, (Instr.makeMap 172 none).run Tryz.prog W = .ok (.map (some W.heap.size)) (W.alloc (.map #[] 0)) := fun W => run_makeMap _ W
    have hk1 : Keeps [] wr (wr.alloc (.map #[] 0)) := Keeps.a1 wr _
    have hmrX := hmr.keep hk1 (by simp)
    have n0 := hmrX.cell0 k (by omega) hlt
    have nf := hmrX.fz k
    have hk2 : Keeps [ob] wr ((wr.setCell ⟨ob, k, none⟩ (.map (some wr.heap.size))).alloc (.map #[] 0)) := ((Keeps.refl [ob] wr).setCell (by simp) _).alloc _
    obtain ⟨Z, hZ⟩ : ∃ Z, Z = (wr.setCell ⟨ob, k, none⟩ (.map (some wr.heap.size))).alloc (.map #[] 0) := ⟨_, rfl⟩
    rw [← hZ] at hk2
    have hobr : ob < wr.heap.size := lt_of_block hmr
    have hrbr : rb < wr.heap.size := lt_of_block hus
    have hwbr : wb < wr.heap.size := lt_of_block hbx
    have hBr : B < wr.heap.size := by have := hkp.size; omega
    have HMR := gI (show MapRow Z ob N (mbs ++ [wr.heap.size]) by
     have h := hmr.push wr.heap.size (by omega)
     rw [hml] at h
     rw [hZ]; exact h.keep (Keeps.a1 _ _) (by simp))
    have hma : MapAt Z Tryz.prog 3 wr.heap.size 0 (fun _ => none) := by
     rw [hZ]
     have h := MapAt.made (wr.setCell ⟨ob, k, none⟩ (.map (some wr.heap.size))) Tryz.prog 3
     rw [show (wr.setCell ⟨ob, k, none⟩ (.map (some wr.heap.size))).heap.size = wr.heap.size by simp [World.setCell]] at h
     exact h
    have hus2 := hus.keep hk2 (by simp; exact Ne.symm hn1)
    have hbx2 := hk2.heap hbx (by simp; exact Ne.symm hn2)
    have HMO := gI (hout.more hapt hml hk2 (by intro x hx; simp at hx; subst hx; exact .inl (by simp)) hma (by intro hx; rcases HO.out _ hx with e | e | e | e <;> omega) (by have := hkp.size; omega) (Nat.le_refl _))
    have HKZ := gI (hkp.after hk2 (by intro x hx; simp at hx; subst hx; exact .inr hob))
    have u0 := hus2.cell k (by omega)
    have uf := hus2.fz k
    have hset := hus2.set k (2 ^ k)
    obtain ⟨w4z, w5z⟩ := HWAY.out _ hbx2
    have HUS := gI hset
    have HBX2 := gI hbx2
    have HRW := gI hrw
    have HRL := gI hrl
    have HML := gI hml
    have hone := gI (fun W => one_any k W (by omega))
    clear hk1 hmrX hk2 hma hus2 hbx2 hset hout hapt hmr hus hbx hrw
    go_upto_region 6 with fail
    rw [← hZ]
    clear n0 nf m0 mf w4 w5 hZ
    refine wp_region_held_drew (S := fun w' => w'.cell? ⟨wb, 5, none⟩ = some (.slice (some ⟨rb, 0, none⟩) N N)) (by kernel_rfl) w5z (fun hHeld => ?_)
    refine take_on (i := 0) (v := ?_) rfl (by kernel_rfl) (by kernel_rfl) (by kernel_rfl) (fun _ _ _ h => h) (by rfl) (by assumption) ?_ ?_
    rotate_left
    ·((intro w hSw; (try dsimp only at hSw); go_simp <;> with_reducible rfl); done)
    try simp only [Act.put, List.setIfInBounds_toArray, List.set_cons_zero, List.set_cons_succ]
    refine take_on (i := 1) (v := ?_) rfl (by kernel_rfl) (by kernel_rfl) (by kernel_rfl) (fun _ _ _ h => h) (by rfl) (by assumption) ?_ ?_
    rotate_left
    ·((intro w hSw; (try dsimp only at hSw); go_simp <;> with_reducible rfl); done)
    try simp only [Act.put, List.setIfInBounds_toArray, List.set_cons_zero, List.set_cons_succ]
    refine take_on (i := 2) (v := ?_) rfl (by kernel_rfl) (by kernel_rfl) (by kernel_rfl) (fun _ _ _ h => h) (by rfl) (by assumption) ?_ ?_
    rotate_left
    ·((intro w hSw; (try dsimp only at hSw); go_simp <;> with_reducible rfl); done)
    try simp only [Act.put, List.setIfInBounds_toArray, List.set_cons_zero, List.set_cons_succ]
    refine take_on (i := 3) (v := ?_) rfl (by kernel_rfl) (by kernel_rfl) (by kernel_rfl) (fun _ _ _ h => h) (by rfl) (by assumption) ?_ ?_
    rotate_left
    ·((intro w hSw; (try dsimp only at hSw); go_simp <;> with_reducible rfl); done)
    try simp only [Act.put, List.setIfInBounds_toArray, List.set_cons_zero, List.set_cons_succ]
    refine take_on (i := 4) (v := ?_) rfl (by kernel_rfl) (by kernel_rfl) (by kernel_rfl) (fun _ _ _ h => h) (by rfl) (by assumption) ?_ ?_
    rotate_left
    ·((intro w hSw; (try dsimp only at hSw); go_simp <;> with_reducible rfl); done)
    try simp only [Act.put, List.setIfInBounds_toArray, List.set_cons_zero, List.set_cons_succ]
    refine take_on (i := 5) (v := ?_) rfl (by kernel_rfl) (by kernel_rfl) (by kernel_rfl) (fun _ _ _ h => h) (by rfl) (by assumption) ?_ ?_
    rotate_left
    ·((intro w hSw; (try dsimp only at hSw); go_simp <;> with_reducible rfl); done)
    try simp only [Act.put, List.setIfInBounds_toArray, List.set_cons_zero, List.set_cons_succ]
    refine branch_one (i := 6) rfl (by kernel_rfl) (by rfl) (fun K hK => ?_)
    go_simp
    go_at_call 98
    refine (hone.out _).mono ?_
    rintro e w' ⟨rfl, rfl⟩
    refine hK.out _ _ (w5z) (fun hHeld => ?_)
    clear hK K
    try simp only [Act.put, List.setIfInBounds_toArray, List.set_cons_zero, List.set_cons_succ]
    refine take_on (i := 7) (v := ?_) rfl (by kernel_rfl) (by kernel_rfl) (by kernel_rfl) (fun _ _ _ h => h) (by rfl) (by assumption) ?_ ?_
    rotate_left
    ·((intro w hSw; (try dsimp only at hSw); go_simp <;> with_reducible rfl); done)
    try simp only [Act.put, List.setIfInBounds_toArray, List.set_cons_zero, List.set_cons_succ]
    refine branch_one (i := 8) rfl (by kernel_rfl) (by rfl) (fun K hK => ?_)
    go_simp
    have kS : Keeps [rb] Z (Z.setCell ⟨rb, k, none⟩ (.int .u64 ((2 ^ k : Nat) : Int))).drew := ((Keeps.refl [rb] Z).setCell (by simp) _).drew
    refine hK.out _ _ (kS.cell w5z (by simp; omega)) (fun hHeld => ?_)
    clear hK K
    try simp only [Act.put, List.setIfInBounds_toArray, List.set_cons_zero, List.set_cons_succ]
    refine wpAnyH_done (by kernel_rfl) ?_ _
    go_wp2
    go_roundw
    case rel =>
     refine ⟨k + 1, mbs ++ [wr.heap.size], rows.set k (2 ^ k), hlt, by go_num, by simp [HML.out], HMR.out.keep kS (by simp; exact hn1), HUS.out, by rw [List.length_set]; exact HRL.out, fun n hn => ?_, HMO.out.1.keep HMO.out.2 kS (by intro x hx; simp at hx; subst hx; exact .inl (by simp)), HMO.out.2, kS.heap HBX2.out (by simp; exact Ne.symm hn3), HKZ.out.after kS (by intro x hx; simp at hx; subst hx; exact .inr hrb)⟩
     rw [getD_set]
     split
     ·rename_i h; rw [h.1]
     ·exact HRW.out n (by have := HRL.out; omega)
    case measure => simp [intOf]; omega
   ·obtain rfl : k = N := by omega
    have HST2 := gI (show ∃ (mb : Nat → Nat) (sl : Nat → Int → Option Nat × Nat) (rows : List Nat), MapRow wr ob k mbs ∧ (∀ n, n < k → mbs.getD n 0 = mb n) ∧ U64s wr rb rows ∧ Row1 k (edges.take 0) rows ∧ Out wr k mb sl (edges.take 0) ∧ Apt Y.heap.size [ob, rb, wb, B] k mb sl ∧ wr.heap[wb]? = some (.cells (wayRow x0 ob rb).toArray 171 (0, 0)) ∧ Keeps [] Y wr from
     ⟨_, _, rows, hmr, fun n _ => rfl, hus, ⟨hrl, fun n hn => by rw [hrw n hn]; exact two_pow_lt (by omega), fun n hn j => by
      rw [hrw n hn, testBit_two]
      constructor
      ·exact .inl
      ·rintro (e | ⟨x, hx, _⟩)
       ·exact e
       ·simp at hx⟩, by rw [List.take_zero]; exact hout, hapt, hbx, hkp⟩)
    obtain ⟨v0, v1, v2, v3⟩ := HBOX.out _ hkp
    obtain ⟨wq, hwq⟩ : ∃ wq, wq = wr := ⟨_, rfl⟩
    have HML := gI hml
    clear hmr hus hout hapt hbx hkp hrw hrl hml
    go_wp2
    go_loopw [45] (fun i wr => ∃ (q : Nat) (mb : Nat → Nat) (sl : Nat → Int → Option Nat × Nat) (rows : List Nat), q ≤ edges.length ∧ i = .int .i64 q ∧ MapRow wr ob k mbs ∧ (∀ n, n < k → mbs.getD n 0 = mb n) ∧ U64s wr rb rows ∧ Row1 k (edges.take q) rows ∧ Out wr k mb sl (edges.take q) ∧ Apt Y.heap.size [ob, rb, wb, B] k mb sl ∧
     wr.heap[wb]? = some (.cells (wayRow x0 ob rb).toArray 171 (0, 0)) ∧ Keeps [] Y wr) (fun i _ => edges.length - (intOf i).toNat)
    case atStart =>
     obtain ⟨mb, sl, rows, h⟩ := HST2.out
     exact ⟨0, mb, sl, rows, Nat.zero_le _, rfl, h⟩
    case round =>
     obtain ⟨q, mb, sl, rows, hq, rfl, hmr, hmb, hus, hrow, hout, hapt, hbx, hkp⟩ := hrel
     by_cases hlt : q < edges.length
     ·obtain ⟨b, off, hea, hc⟩ := (show EdIn wr ea edges by have h := (HX.out.keep hkp).edges; rw [HX0.out] at h; exact h) (by omega)
      have hoe := OK.out.ed
      rw [HX0.out] at hoe
      simp only at hoe
      rw [← HN.out] at hoe
      have hbe := hoe edges[q] (List.getElem_mem hlt)
      obtain ⟨x0', x1', x2', x3'⟩ := hc q hlt
      have htk : edges.take (q + 1) = edges.take q ++ [edges[q]] := List.take_succ_eq_append_getElem hlt
      obtain ⟨e, he⟩ : ∃ e, e = edges[q] := ⟨_, rfl⟩
      rw [← he] at x0' x1' x2' x3' hbe htk
      obtain ⟨ef, et, ek, ew⟩ := e
      simp only at x0' x1' x2' x3' hbe
      obtain ⟨⟨hf0, hf1⟩, ⟨ht0, ht1⟩, ⟨hc0, hc1⟩, hw0, hw1⟩ := hbe
      obtain ⟨f, rfl⟩ := Int.eq_ofNat_of_zero_le hf0
      obtain ⟨t, rfl⟩ := Int.eq_ofNat_of_zero_le ht0
      have hf : f < k := by omega
      have ht : t < k := by omega
      subst hea
      obtain ⟨v0, v1, v2, v3⟩ := HBOX.out _ hkp
      obtain ⟨w4, w5⟩ := HWAY.out _ hbx
      have m0 := hmr.cell f (by have := HML.out; omega)
      rw [hmb f hf] at m0
      obtain ⟨gm, hmap, hgm⟩ := hout.map f hf
      have hval : (gm (.int .i64 ek)).getD (.slice none 0 0) = sv (sl f ek).1 (sel (edges.take q) f ek).length (sl f ek).2 := by
       rw [hgm ek]
       split
       ·rename_i hnil
        rw [hout.nil f hf ek hnil, hnil]; rfl
       ·rfl
      obtain ⟨C, hC⟩ : ∃ C, C = wr.heap.size := ⟨_, rfl⟩
      obtain ⟨Z, hZ⟩ : ∃ Z, Z = wr.alloc (.cells #[.int .i64 f, .int .i64 t, .int .i64 ek, .int .i64 ew] 125) := ⟨_, rfl⟩
      have hkZ : Keeps [] wr Z := by rw [hZ]; exact Keeps.a1 _ _
      have hZH : Z.heap[C]? = some (.cells #[.int .i64 f, .int .i64 t, .int .i64 ek, .int .i64 ew] 125 (0, 0)) := by rw [hZ, hC]; exact heap_alloc_new wr _
      have z0 : Z.cell? ⟨C, 0, none⟩ = some (.int .i64 f) := by simp [World.cell?, hZH]
      have z1 : Z.cell? ⟨C, 1, none⟩ = some (.int .i64 t) := by simp [World.cell?, hZH]
      have z2 : Z.cell? ⟨C, 2, none⟩ = some (.int .i64 ek) := by simp [World.cell?, hZH]
      have z3 : Z.cell? ⟨C, 3, none⟩ = some (.int .i64 ew) := by simp [World.cell?, hZH]
      have q4 := hkZ.cell w4 (by simp)
      have q5 := hkZ.cell w5 (by simp)
      have m4 := hkZ.cell m0 (by simp)
      have hek : -9223372036854775808 ≤ ek ∧ ek ≤ 9223372036854775807 := by
       have := HCL.out
       omega
      have hlook : ∀ W, Keeps [] Z W → (Instr.lookup 172 (.map (some (mb f))) (.int .i64 ek) false).run Tryz.prog W = .ok (.slice ((sl f ek).1.map fun g => ⟨g, 0, none⟩) (sel (edges.take q) f ek).length (sl f ek).2) W := fun W hk => by
       have h := ((hmap.keep hkZ (by simp)).keep hk (by simp)).look false intKeyed Tryz.underlying172 (z := .slice none 0 0) (by kernel_rfl) (keyI hek)
       rw [hval] at h
       exact h
      have L1 := hlook Z.drew ((Keeps.refl [] Z).drew)
      have K2 : Keeps [] Z (Z.alloc (.cells #[.int .i64 f, .int .i64 t, .int .i64 ek, .int .i64 ew] 125)).drew := ((Keeps.refl [] Z).alloc _).drew
      have L2 := hlook _ K2
      have HOUT2 := gI (show ∀ W, Keeps [] Z W → Out W k mb sl (edges.take q) from fun W hk => hout.keep hapt (hkZ.trans hk) (by simp))
      have HSL := gI (Nat.le_trans (sel_le (edges.take q) f ek) (List.length_take_le q edges))
      have HMAP := gI (hmap.keep hkZ (by simp))
      have HGM := gI hgm
      have HEK := gI hek
      have HAP := gI hapt
      have HOB := gI (show ∀ W, Keeps [] Z W → ∀ x ∈ [ob, rb, wb, B], x < W.heap.size from fun W hk x hx => by
       have h1 := (hkZ.trans hk).size
       have h2 := lt_of_block hmr
       have h3 := lt_of_block hus
       have h4 := lt_of_block hbx
       have h5 := hkp.size
       rcases HO.out x hx with e | e | e | e <;> omega)
      have HBS := gI (show ∀ W, Keeps [] Z W → Y.heap.size ≤ W.heap.size from fun W hk => by
       have h1 := (hkZ.trans hk).size
       have h5 := hkp.size
       omega)
      have HMB := gI (show mb f ∉ (sl f ek).1.toList from fun hm => (hapt.slo f hf ek (mb f) (by simpa using hm)).2.2 f hf rfl)
      have HNB := gI (show ∀ x, x ∈ [C, wb, ob] → x ∉ (sl f ek).1.toList from fun x hx hm => by
       have h1 : (sl f ek).1 = some x := by simpa using hm
       have h2 := hapt.slo f hf ek x h1
       simp at hx
       rcases hx with rfl | rfl | rfl
       ·have := hout.slt hf h1; omega
       ·exact h2.1 (by simp)
       ·exact h2.1 (by simp))
      have HNM := gI (show ∀ x, x ∈ [C, wb, ob] → x ≠ mb f from fun x hx he2 => by
       have h2 := hapt.mbo f hf
       simp at hx
       rcases hx with rfl | rfl | rfl
       ·have := hout.lt hf; omega
       ·exact h2.1 (by rw [← he2]; simp)
       ·exact h2.1 (by rw [← he2]; simp))
      have HNEWS := gI (show ∀ (j : Nat) (u : Value), (E4.cells ⟨f, t, ek, ew⟩)[j]? = some u → (Z.alloc (.cells #[.int .i64 f, .int .i64 t, .int .i64 ek, .int .i64 ew] 125)).drew.cell? ((⟨Z.heap.size, 0, none⟩ : Addr).add j) = some u from news_row Z (E4.cells ⟨f, t, ek, ew⟩) 125)
      have HONE := gI (show ∀ u ∈ E4.cells ⟨f, t, ek, ew⟩, u.oneCell' = true from fun u hu => by
       simp [E4.cells] at hu
       rcases hu with rfl | rfl | rfl | rfl <;> rfl)
      have HZ := gI hZ
      have HC := gI hC
      have HTK := gI htk
      have HMR := gI hmr
      have HUS := gI hus
      have HROW := gI hrow
      have HBX := gI hbx
      have HKP := gI hkp
      have HKZ := gI hkZ
      have HMBE := gI hmb
      clear hc hoe he htk hmap hgm hval hlook hek hmr hus hrow hout hapt hbx hkp hkZ hZ hC hZH hmb
      go_upto_region 11 with fail
      rw [← HZ.out, ← HC.out]
      clear x0' x1' x2' x3' v0 v1 v2 v3 w4 w5 m0
      go_cut [45] from 45 to 86 (fun s45 wx => s45 = .int .i64 q ∧ ∃ w4 : World, w4 = wx ∧ ∃ sl2 : Nat → Int → Option Nat × Nat, Out w4 k mb sl2 (edges.take q ++ [⟨f, t, ek, ew⟩]) ∧ Apt Y.heap.size [ob, rb, wb, B] k mb sl2 ∧ Keeps (mb f :: (sl f ek).1.toList) Z w4)
      case first => as_aux_lemma =>
        refine wp_region_held_drew (S := fun w' => (w'.cell? ⟨C, 0, none⟩ = some (.int .i64 f) ∧ w'.cell? ⟨C, 1, none⟩ = some (.int .i64 t) ∧ w'.cell? ⟨C, 2, none⟩ = some (.int .i64 ek) ∧ w'.cell? ⟨C, 3, none⟩ = some (.int .i64 ew)) ∧ (w'.cell? ⟨wb, 4, none⟩ = some (.slice (some ⟨ob, 0, none⟩) k k) ∧ w'.cell? ⟨wb, 5, none⟩ = some (.slice (some ⟨rb, 0, none⟩) k k)) ∧ w'.cell? ⟨ob, f, none⟩ = some (.map (some (mb f)))) (by kernel_rfl) ⟨⟨z0, z1, z2, z3⟩, ⟨q4, q5⟩, m4⟩ (fun hHeld => ?_)
        refine take_on (i := 0) (v := ?_) rfl (by kernel_rfl) (by kernel_rfl) (by kernel_rfl) (fun _ _ _ h => h) (by rfl) (by assumption) ?_ ?_
        rotate_left
        ·((intro w hSw; (try dsimp only at hSw); go_simp <;> with_reducible rfl); done)
        try simp only [Act.put, List.setIfInBounds_toArray, List.set_cons_zero, List.set_cons_succ]
        refine take_on (i := 1) (v := ?_) rfl (by kernel_rfl) (by kernel_rfl) (by kernel_rfl) (fun _ _ _ h => h) (by rfl) (by assumption) ?_ ?_
        rotate_left
        ·((intro w hSw; (try dsimp only at hSw); go_simp <;> with_reducible rfl); done)
        try simp only [Act.put, List.setIfInBounds_toArray, List.set_cons_zero, List.set_cons_succ]
        refine take_on (i := 2) (v := ?_) rfl (by kernel_rfl) (by kernel_rfl) (by kernel_rfl) (fun _ _ _ h => h) (by rfl) (by assumption) ?_ ?_
        rotate_left
        ·((intro w hSw; (try dsimp only at hSw); go_simp <;> with_reducible rfl); done)
        try simp only [Act.put, List.setIfInBounds_toArray, List.set_cons_zero, List.set_cons_succ]
        refine take_on (i := 3) (v := ?_) rfl (by kernel_rfl) (by kernel_rfl) (by kernel_rfl) (fun _ _ _ h => h) (by rfl) (by assumption) ?_ ?_
        rotate_left
        ·((intro w hSw; (try dsimp only at hSw); go_simp <;> with_reducible rfl); done)
        try simp only [Act.put, List.setIfInBounds_toArray, List.set_cons_zero, List.set_cons_succ]
        refine take_on (i := 4) (v := ?_) rfl (by kernel_rfl) (by kernel_rfl) (by kernel_rfl) (fun _ _ _ h => h) (by rfl) (by assumption) ?_ ?_
        rotate_left
        ·((intro w hSw; (try dsimp only at hSw); go_simp <;> with_reducible rfl); done)
        try simp only [Act.put, List.setIfInBounds_toArray, List.set_cons_zero, List.set_cons_succ]
        refine take_on (i := 5) (v := ?_) rfl (by kernel_rfl) (by kernel_rfl) (by kernel_rfl) (fun _ _ _ h => h) (by rfl) (by assumption) ?_ ?_
        rotate_left
        ·((intro w hSw; (try dsimp only at hSw); go_simp <;> with_reducible rfl); done)
        try simp only [Act.put, List.setIfInBounds_toArray, List.set_cons_zero, List.set_cons_succ]
        refine take_on (i := 6) (v := ?_) rfl (by kernel_rfl) (by kernel_rfl) (by kernel_rfl) (fun _ _ _ h => h) (by rfl) (by assumption) ?_ ?_
        rotate_left
        ·((intro w hSw; (try dsimp only at hSw); go_simp <;> with_reducible rfl); done)
        try simp only [Act.put, List.setIfInBounds_toArray, List.set_cons_zero, List.set_cons_succ]
        refine take_on (i := 7) (v := ?_) rfl (by kernel_rfl) (by kernel_rfl) (by kernel_rfl) (fun _ _ _ h => h) (by rfl) (by assumption) ?_ ?_
        rotate_left
        ·((intro w hSw; (try dsimp only at hSw); go_simp <;> with_reducible rfl); done)
        try simp only [Act.put, List.setIfInBounds_toArray, List.set_cons_zero, List.set_cons_succ]
        refine take_on (i := 8) (v := ?_) rfl (by kernel_rfl) (by kernel_rfl) (by kernel_rfl) (fun _ _ _ h => h) (by rfl) (by assumption) ?_ ?_
        rotate_left
        ·((intro w hSw; (try dsimp only at hSw); go_simp <;> with_reducible rfl); done)
        try simp only [Act.put, List.setIfInBounds_toArray, List.set_cons_zero, List.set_cons_succ]
        refine take_on (i := 9) (v := ?_) rfl (by kernel_rfl) (by kernel_rfl) (by kernel_rfl) (fun _ _ _ h => h) (by rfl) (by assumption) ?_ ?_
        rotate_left
        ·((intro w hSw; (try dsimp only at hSw); go_simp <;> with_reducible rfl); done)
        try simp only [Act.put, List.setIfInBounds_toArray, List.set_cons_zero, List.set_cons_succ]
        refine take_on (i := 10) (v := ?_) rfl (by kernel_rfl) (by kernel_rfl) (by kernel_rfl) (fun _ _ _ h => h) (by rfl) (by assumption) ?_ ?_
        rotate_left
        ·((intro w hSw; (try dsimp only at hSw); go_simp <;> with_reducible rfl); done)
        try simp only [Act.put, List.setIfInBounds_toArray, List.set_cons_zero, List.set_cons_succ]
        refine take_on (i := 11) (v := ?_) rfl (by kernel_rfl) (by kernel_rfl) (by kernel_rfl) (fun _ _ _ h => h) (by rfl) (by assumption) ?_ ?_
        rotate_left
        ·((intro w hSw; (try dsimp only at hSw); go_simp <;> with_reducible rfl); done)
        try simp only [Act.put, List.setIfInBounds_toArray, List.set_cons_zero, List.set_cons_succ]
        refine take_on (i := 12) (v := ?_) rfl (by kernel_rfl) (by kernel_rfl) (by kernel_rfl) (fun _ _ _ h => h) (by rfl) (by assumption) ?_ ?_
        rotate_left
        ·((intro w hSw; (try dsimp only at hSw); go_simp <;> with_reducible rfl); done)
        try simp only [Act.put, List.setIfInBounds_toArray, List.set_cons_zero, List.set_cons_succ]
        refine take_on (i := 13) (v := ?_) rfl (by kernel_rfl) (by kernel_rfl) (by kernel_rfl) (fun _ _ _ h => h) (by rfl) (by assumption) ?_ ?_
        rotate_left
        ·((intro w hSw; (try dsimp only at hSw); go_simp <;> with_reducible rfl); done)
        try simp only [Act.put, List.setIfInBounds_toArray, List.set_cons_zero, List.set_cons_succ]
        refine take_on (i := 14) (v := ?_) rfl (by kernel_rfl) (by kernel_rfl) (by kernel_rfl) (fun _ _ _ h => h) (by rfl) (by assumption) ?_ ?_
        rotate_left
        ·((intro w hSw; (try dsimp only at hSw); go_simp <;> with_reducible rfl); done)
        try simp only [Act.put, List.setIfInBounds_toArray, List.set_cons_zero, List.set_cons_succ]
        refine take_on (i := 15) (v := ?_) rfl (by kernel_rfl) (by kernel_rfl) (by kernel_rfl) (fun _ _ _ h => h) (by rfl) (by assumption) ?_ ?_
        rotate_left
        ·((intro w hSw; (try dsimp only at hSw); go_simp <;> with_reducible rfl); done)
        try simp only [Act.put, List.setIfInBounds_toArray, List.set_cons_zero, List.set_cons_succ]
        refine take_on (i := 16) (v := ?_) rfl (by kernel_rfl) (by kernel_rfl) (by kernel_rfl) (fun _ _ _ h => h) (by rfl) (by assumption) ?_ ?_
        rotate_left
        ·((intro w hSw; (try dsimp only at hSw); go_simp <;> with_reducible rfl); done)
        try simp only [Act.put, List.setIfInBounds_toArray, List.set_cons_zero, List.set_cons_succ]
        refine take_on (i := 17) (v := ?_) rfl (by kernel_rfl) (by kernel_rfl) (by kernel_rfl) (fun _ _ _ h => h) (by rfl) (by assumption) ?_ ?_
        rotate_left
        ·((intro w hSw; (try dsimp only at hSw); go_simp <;> with_reducible rfl); done)
        try simp only [Act.put, List.setIfInBounds_toArray, List.set_cons_zero, List.set_cons_succ]
        refine take_on (i := 18) (v := ?_) rfl (by kernel_rfl) (by kernel_rfl) (by kernel_rfl) (fun _ _ _ h => h) (by rfl) (by assumption) ?_ ?_
        rotate_left
        ·((intro w hSw; (try dsimp only at hSw); go_simp <;> with_reducible rfl); done)
        try simp only [Act.put, List.setIfInBounds_toArray, List.set_cons_zero, List.set_cons_succ]
        refine take_on (i := 19) (v := ?_) rfl (by kernel_rfl) (by kernel_rfl) (by kernel_rfl) (fun _ _ _ h => h) (by rfl) (by assumption) ?_ ?_
        rotate_left
        ·((intro w hSw; (try dsimp only at hSw); go_simp <;> with_reducible rfl); done)
        try simp only [Act.put, List.setIfInBounds_toArray, List.set_cons_zero, List.set_cons_succ]
        refine take_on (i := 21) (v := ?_) rfl (by kernel_rfl) (by kernel_rfl) (by kernel_rfl) (fun _ _ _ h => h) (by rfl) (by assumption) ?_ ?_
        rotate_left
        ·((intro w hSw; (try dsimp only at hSw); go_simp <;> with_reducible rfl); done)
        try simp only [Act.put, List.setIfInBounds_toArray, List.set_cons_zero, List.set_cons_succ]
        refine branch_two (i := 20) (j := 22) rfl rfl (by kernel_rfl) (by rfl) (by rfl) (fun K hK => ?_) (fun K hK => ?_)
        ·go_simp
         refine hK.out _ _ (⟨⟨z0, z1, z2, z3⟩, ⟨q4, q5⟩, m4⟩) (fun hHeld => ?_)
         clear hK K
         try simp only [Act.put, List.setIfInBounds_toArray, List.set_cons_zero, List.set_cons_succ]
         refine branch_one (i := 22) rfl (by kernel_rfl) (by rfl) (fun K hK => ?_)
         go_simp
         refine hK.out _ _ (⟨⟨K2.cell z0 (by simp), K2.cell z1 (by simp), K2.cell z2 (by simp), K2.cell z3 (by simp)⟩, ⟨K2.cell q4 (by simp), K2.cell q5 (by simp)⟩, K2.cell m4 (by simp)⟩) (fun hHeld => ?_)
         clear hK K
         try simp only [Act.put, List.setIfInBounds_toArray, List.set_cons_zero, List.set_cons_succ]
         refine branch_one (i := 23) rfl (by kernel_rfl) (by rfl) (fun K hK => ?_)
         refine wp_append_sl (.tmp 69) (.tmp 71) 87 rfl 125 ie _ 4 32 Tryz.underlying87 HIE.out HEZ.out HES.out HEB.out rfl (by decide) (sl f ek).1 (sel (edges.take q) f ek).length (sl f ek).2 (flatE (sel (edges.take q) f ek)) rfl ((HOUT2.out _ K2).sls f hf ek) ⟨Z.heap.size, 0, none⟩ 1 1 (E4.cells ⟨f, t, ek, ew⟩) rfl rfl HNEWS.out HONE.out (by decide) (by have := HSL.out; omega) (by have := HSL.out; omega) ?_
         intro g c2 w3 hsl3 hk3 hg3
         have K3 : ∀ (a : Addr) (v : Value), Z.cell? a = some v → a.block ∈ [C, wb, ob] → w3.cell? a = some v := fun a v h hm => hk3.cell (K2.cell h (by simp)) (HNB.out a.block hm)
         refine hK.out _ _ (⟨⟨K3 _ _ z0 (by simp), K3 _ _ z1 (by simp), K3 _ _ z2 (by simp), K3 _ _ z3 (by simp)⟩, ⟨K3 _ _ q4 (by simp), K3 _ _ q5 (by simp)⟩, K3 _ _ m4 (by simp)⟩) (fun hHeld => ?_)
         clear hK K
         try simp only [Act.put, List.setIfInBounds_toArray, List.set_cons_zero, List.set_cons_succ]
         refine branch_one (i := 24) rfl (by kernel_rfl) (by rfl) (fun K hK => ?_)
         refine wp_mapPut (.tmp 56) (.tmp 58) (.tmp 72) 172 rfl 3 87 intKeyed Tryz.underlying172 (mb f) (edges.take q).length gm rfl ((HMAP.out.keep K2 (by simp)).keep hk3 HMB.out) (by unfold maxLen; simp; omega) (.int .i64 ek) (sv (some g) ((sel (edges.take q) f ek).length + 1) c2) rfl rfl (keyI HEK.out) ?_
         intro w4 hm4 hk4
         have K4 : ∀ (a : Addr) (v : Value), Z.cell? a = some v → a.block ∈ [C, wb, ob] → w4.cell? a = some v := fun a v h hm => hk4.cell (K3 a v h hm) (by simp; exact HNM.out a.block hm)
         refine hK.out _ _ (⟨⟨K4 _ _ z0 (by simp), K4 _ _ z1 (by simp), K4 _ _ z2 (by simp), K4 _ _ z3 (by simp)⟩, ⟨K4 _ _ q4 (by simp), K4 _ _ q5 (by simp)⟩, K4 _ _ m4 (by simp)⟩) (fun hHeld => ?_)
         clear hK K
         try simp only [Act.put, List.setIfInBounds_toArray, List.set_cons_zero, List.set_cons_succ]
         refine wpAnyH_done (by kernel_rfl) ?_ _
         go_wp2
         go_meet
         have HSTEP := (HOUT2.out _ K2).step (e := ⟨f, t, ek, ew⟩) (g := g) (c2 := c2) HAP.out hf rfl hsl3 hk3 hg3 hk4 gm HGM.out hm4 (HOB.out _ K2) (HBS.out _ K2)
         refine ⟨rfl, w4, rfl, updS sl f ek (some g, c2), HSTEP.1, HSTEP.2, ?_⟩
         exact (K2.mono (by simp)).trans ((hk3.mono (by intro x hx; exact .inl (by simp [hx]))).trans (hk4.mono (by intro x hx; simp at hx; exact .inl (by simp [hx]))))
        ·go_simp
         refine hK.out _ _ (⟨⟨K2.cell z0 (by simp), K2.cell z1 (by simp), K2.cell z2 (by simp), K2.cell z3 (by simp)⟩, ⟨K2.cell q4 (by simp), K2.cell q5 (by simp)⟩, K2.cell m4 (by simp)⟩) (fun hHeld => ?_)
         clear hK K
         try simp only [Act.put, List.setIfInBounds_toArray, List.set_cons_zero, List.set_cons_succ]
         refine branch_one (i := 20) rfl (by kernel_rfl) (by rfl) (fun K hK => ?_)
         go_simp
         refine hK.out _ _ (⟨⟨K2.cell z0 (by simp), K2.cell z1 (by simp), K2.cell z2 (by simp), K2.cell z3 (by simp)⟩, ⟨K2.cell q4 (by simp), K2.cell q5 (by simp)⟩, K2.cell m4 (by simp)⟩) (fun hHeld => ?_)
         clear hK K
         try simp only [Act.put, List.setIfInBounds_toArray, List.set_cons_zero, List.set_cons_succ]
         refine branch_one (i := 23) rfl (by kernel_rfl) (by rfl) (fun K hK => ?_)
         refine wp_append_sl (.tmp 69) (.tmp 71) 87 rfl 125 ie _ 4 32 Tryz.underlying87 HIE.out HEZ.out HES.out HEB.out rfl (by decide) (sl f ek).1 (sel (edges.take q) f ek).length (sl f ek).2 (flatE (sel (edges.take q) f ek)) rfl ((HOUT2.out _ K2).sls f hf ek) ⟨Z.heap.size, 0, none⟩ 1 1 (E4.cells ⟨f, t, ek, ew⟩) rfl rfl HNEWS.out HONE.out (by decide) (by have := HSL.out; omega) (by have := HSL.out; omega) ?_
         intro g c2 w3 hsl3 hk3 hg3
         have K3 : ∀ (a : Addr) (v : Value), Z.cell? a = some v → a.block ∈ [C, wb, ob] → w3.cell? a = some v := fun a v h hm => hk3.cell (K2.cell h (by simp)) (HNB.out a.block hm)
         refine hK.out _ _ (⟨⟨K3 _ _ z0 (by simp), K3 _ _ z1 (by simp), K3 _ _ z2 (by simp), K3 _ _ z3 (by simp)⟩, ⟨K3 _ _ q4 (by simp), K3 _ _ q5 (by simp)⟩, K3 _ _ m4 (by simp)⟩) (fun hHeld => ?_)
         clear hK K
         try simp only [Act.put, List.setIfInBounds_toArray, List.set_cons_zero, List.set_cons_succ]
         refine branch_one (i := 24) rfl (by kernel_rfl) (by rfl) (fun K hK => ?_)
         refine wp_mapPut (.tmp 56) (.tmp 58) (.tmp 72) 172 rfl 3 87 intKeyed Tryz.underlying172 (mb f) (edges.take q).length gm rfl ((HMAP.out.keep K2 (by simp)).keep hk3 HMB.out) (by unfold maxLen; simp; omega) (.int .i64 ek) (sv (some g) ((sel (edges.take q) f ek).length + 1) c2) rfl rfl (keyI HEK.out) ?_
         intro w4 hm4 hk4
         have K4 : ∀ (a : Addr) (v : Value), Z.cell? a = some v → a.block ∈ [C, wb, ob] → w4.cell? a = some v := fun a v h hm => hk4.cell (K3 a v h hm) (by simp; exact HNM.out a.block hm)
         refine hK.out _ _ (⟨⟨K4 _ _ z0 (by simp), K4 _ _ z1 (by simp), K4 _ _ z2 (by simp), K4 _ _ z3 (by simp)⟩, ⟨K4 _ _ q4 (by simp), K4 _ _ q5 (by simp)⟩, K4 _ _ m4 (by simp)⟩) (fun hHeld => ?_)
         clear hK K
         try simp only [Act.put, List.setIfInBounds_toArray, List.set_cons_zero, List.set_cons_succ]
         refine wpAnyH_done (by kernel_rfl) ?_ _
         go_wp2
         go_meet
         have HSTEP := (HOUT2.out _ K2).step (e := ⟨f, t, ek, ew⟩) (g := g) (c2 := c2) HAP.out hf rfl hsl3 hk3 hg3 hk4 gm HGM.out hm4 (HOB.out _ K2) (HBS.out _ K2)
         refine ⟨rfl, w4, rfl, updS sl f ek (some g, c2), HSTEP.1, HSTEP.2, ?_⟩
         exact (K2.mono (by simp)).trans ((hk3.mono (by intro x hx; exact .inl (by simp [hx]))).trans (hk4.mono (by intro x hx; simp at hx; exact .inl (by simp [hx]))))
      case rest =>
       obtain ⟨rfl, w4, rfl, sl2, hout2, hapt2, hk4⟩ := hcut
       have hn4 : ∀ x, x ∈ [C, wb, ob] → x ∉ mb f :: (sl f ek).1.toList := fun x hx hm => by
        rcases List.mem_cons.1 hm with e | e
        ·exact HNM.out x hx e
        ·exact HNB.out x hx e
       have hno : ∀ x, x ∈ [ob, rb, wb, B] → x ∉ mb f :: (sl f ek).1.toList := fun x hx hm => by
        rcases List.mem_cons.1 hm with e | e
        ·exact (HAP.out.mbo f hf).1 (e ▸ hx)
        ·exact (HAP.out.slo f hf ek x (by simpa using e)).1 hx
       have z0 := hk4.cell z0 (hn4 _ (by simp))
       have z1 := hk4.cell z1 (hn4 _ (by simp))
       have q5 := hk4.cell q5 (hn4 _ (by simp))
       have hus4 := (HUS.out.keep HKZ.out (by simp)).keep hk4 (hno rb (by simp))
       have hmr4 := (HMR.out.keep HKZ.out (by simp)).keep hk4 (hno ob (by simp))
       have hbx4 := hk4.heap (HKZ.out.heap HBX.out (by simp)) (hno wb (by simp))
       have hkp4 : Keeps [] Y w4 := (HKP.out.trans HKZ.out).after hk4 (by
        intro x hx
        rcases List.mem_cons.1 hx with e | e
        ·exact .inr (e ▸ (HAP.out.mbo f hf).2)
        ·exact .inr (HAP.out.slo f hf ek x (by simpa using e)).2.1)
       have hrow := HROW.out
       have hrl := hrow.len
       have u0 := hus4.cell f (by omega)
       have uf := hus4.fz f
       have hlt1 := hrow.lt f hf
       have hlt2 := two_pow_lt (show t < 64 by omega)
       have hor := or_u64 (rows.getD f 0) (2 ^ t) hlt1 hlt2
       have hset := hus4.set f (rows.getD f 0 ||| 2 ^ t)
       have hstep := hrow.step (e := ⟨f, t, ek, ew⟩) (f := f) (t := t) rfl rfl hf (by omega)
       rw [← HTK.out] at hstep hout2
       obtain ⟨r, hr⟩ : ∃ r, r = rows.getD f 0 := ⟨_, rfl⟩
       rw [← hr] at u0 hor hset hstep
       obtain ⟨r2, hr2⟩ : ∃ r2, r2 = r ||| 2 ^ t := ⟨_, rfl⟩
       rw [← hr2] at hor hset hstep
       obtain ⟨t2, ht2⟩ : ∃ t2, t2 = 2 ^ t := ⟨_, rfl⟩
       have hone := gI (fun W => one_any t W (by omega))
       rw [← ht2] at hor
       simp only [← ht2] at hone
       have kS : Keeps [rb] w4 (w4.setCell ⟨rb, f, none⟩ (.int .u64 (r2 : Int))).drew := ((Keeps.refl [rb] w4).setCell (by simp) _).drew
       have HS1 := gI hset
       have HS2 := gI hstep
       have HMR4 := gI (hmr4.keep kS (by simp; exact hn1))
       have HBX4 := gI (kS.heap hbx4 (by simp; exact Ne.symm hn3))
       have HKP4 := gI (hkp4.after kS (by intro x hx; simp at hx; subst hx; exact .inr hrb))
       have HOUT4 := gI (hout2.keep hapt2 kS (by intro x hx; simp at hx; subst hx; exact .inl (by simp)))
       have HAPT4 := gI hapt2
       have HCR := gI (show ¬ C = rb by have := lt_of_block HUS.out; have := HC.out; omega)
       clear hn4 hno hus4 hmr4 hbx4 hkp4 hrow hrl hlt1 hlt2 hset hstep hout2 hapt2 hk4 hr hr2 ht2 L1 L2 K2 z2 z3 q4 m4
       go_upto_region 12 with fail
       refine wp_region_held_drew (S := fun w' => (w'.cell? ⟨C, 0, none⟩ = some (.int .i64 f) ∧ w'.cell? ⟨C, 1, none⟩ = some (.int .i64 t)) ∧ w'.cell? ⟨wb, 5, none⟩ = some (.slice (some ⟨rb, 0, none⟩) k k)) (by kernel_rfl) ⟨⟨z0, z1⟩, q5⟩ (fun hHeld => ?_)
       refine take_on (i := 0) (v := ?_) rfl (by kernel_rfl) (by kernel_rfl) (by kernel_rfl) (fun _ _ _ h => h) (by rfl) (by assumption) ?_ ?_
       rotate_left
       ·((intro w hSw; (try dsimp only at hSw); go_simp <;> with_reducible rfl); done)
       try simp only [Act.put, List.setIfInBounds_toArray, List.set_cons_zero, List.set_cons_succ]
       refine take_on (i := 1) (v := ?_) rfl (by kernel_rfl) (by kernel_rfl) (by kernel_rfl) (fun _ _ _ h => h) (by rfl) (by assumption) ?_ ?_
       rotate_left
       ·((intro w hSw; (try dsimp only at hSw); go_simp <;> with_reducible rfl); done)
       try simp only [Act.put, List.setIfInBounds_toArray, List.set_cons_zero, List.set_cons_succ]
       refine take_on (i := 2) (v := ?_) rfl (by kernel_rfl) (by kernel_rfl) (by kernel_rfl) (fun _ _ _ h => h) (by rfl) (by assumption) ?_ ?_
       rotate_left
       ·((intro w hSw; (try dsimp only at hSw); go_simp <;> with_reducible rfl); done)
       try simp only [Act.put, List.setIfInBounds_toArray, List.set_cons_zero, List.set_cons_succ]
       refine take_on (i := 3) (v := ?_) rfl (by kernel_rfl) (by kernel_rfl) (by kernel_rfl) (fun _ _ _ h => h) (by rfl) (by assumption) ?_ ?_
       rotate_left
       ·((intro w hSw; (try dsimp only at hSw); go_simp <;> with_reducible rfl); done)
       try simp only [Act.put, List.setIfInBounds_toArray, List.set_cons_zero, List.set_cons_succ]
       refine take_on (i := 4) (v := ?_) rfl (by kernel_rfl) (by kernel_rfl) (by kernel_rfl) (fun _ _ _ h => h) (by rfl) (by assumption) ?_ ?_
       rotate_left
       ·((intro w hSw; (try dsimp only at hSw); go_simp <;> with_reducible rfl); done)
       try simp only [Act.put, List.setIfInBounds_toArray, List.set_cons_zero, List.set_cons_succ]
       refine take_on (i := 5) (v := ?_) rfl (by kernel_rfl) (by kernel_rfl) (by kernel_rfl) (fun _ _ _ h => h) (by rfl) (by assumption) ?_ ?_
       rotate_left
       ·((intro w hSw; (try dsimp only at hSw); go_simp <;> with_reducible rfl); done)
       try simp only [Act.put, List.setIfInBounds_toArray, List.set_cons_zero, List.set_cons_succ]
       refine take_on (i := 6) (v := ?_) rfl (by kernel_rfl) (by kernel_rfl) (by kernel_rfl) (fun _ _ _ h => h) (by rfl) (by assumption) ?_ ?_
       rotate_left
       ·((intro w hSw; (try dsimp only at hSw); go_simp <;> with_reducible rfl); done)
       try simp only [Act.put, List.setIfInBounds_toArray, List.set_cons_zero, List.set_cons_succ]
       refine take_on (i := 8) (v := ?_) rfl (by kernel_rfl) (by kernel_rfl) (by kernel_rfl) (fun _ _ _ h => h) (by rfl) (by assumption) ?_ ?_
       rotate_left
       ·((intro w hSw; (try dsimp only at hSw); go_simp <;> with_reducible rfl); done)
       try simp only [Act.put, List.setIfInBounds_toArray, List.set_cons_zero, List.set_cons_succ]
       refine take_on (i := 9) (v := ?_) rfl (by kernel_rfl) (by kernel_rfl) (by kernel_rfl) (fun _ _ _ h => h) (by rfl) (by assumption) ?_ ?_
       rotate_left
       ·((intro w hSw; (try dsimp only at hSw); go_simp <;> with_reducible rfl); done)
       try simp only [Act.put, List.setIfInBounds_toArray, List.set_cons_zero, List.set_cons_succ]
       refine branch_two (i := 7) (j := 10) rfl rfl (by kernel_rfl) (by rfl) (by rfl) (fun K hK => ?_) (fun K hK => ?_)
       ·go_simp
        refine hK.out _ _ (⟨⟨z0, z1⟩, q5⟩) (fun hHeld => ?_)
        clear hK K
        try simp only [Act.put, List.setIfInBounds_toArray, List.set_cons_zero, List.set_cons_succ]
        refine branch_one (i := 10) rfl (by kernel_rfl) (by rfl) (fun K hK => ?_)
        go_simp
        go_at_call 98
        refine (hone.out _).mono ?_
        rintro e w' ⟨rfl, rfl⟩
        refine hK.out _ _ (⟨⟨z0, z1⟩, q5⟩) (fun hHeld => ?_)
        clear hK K
        try simp only [Act.put, List.setIfInBounds_toArray, List.set_cons_zero, List.set_cons_succ]
        refine take_on (i := 11) (v := ?_) rfl (by kernel_rfl) (by kernel_rfl) (by kernel_rfl) (fun _ _ _ h => h) (by rfl) (by assumption) ?_ ?_
        rotate_left
        ·((intro w hSw; (try dsimp only at hSw); go_simp <;> with_reducible rfl); done)
        try simp only [Act.put, List.setIfInBounds_toArray, List.set_cons_zero, List.set_cons_succ]
        refine take_on (i := 12) (v := ?_) rfl (by kernel_rfl) (by kernel_rfl) (by kernel_rfl) (fun _ _ _ h => h) (by rfl) (by assumption) ?_ ?_
        rotate_left
        ·((intro w hSw; (try dsimp only at hSw); go_simp <;> with_reducible rfl); done)
        try simp only [Act.put, List.setIfInBounds_toArray, List.set_cons_zero, List.set_cons_succ]
        refine branch_one (i := 13) rfl (by kernel_rfl) (by rfl) (fun K hK => ?_)
        go_simp
        refine hK.out _ _ (⟨⟨kS.cell z0 (by simp; exact HCR.out), kS.cell z1 (by simp; exact HCR.out)⟩, kS.cell q5 (by simp; exact Ne.symm hn3)⟩) (fun hHeld => ?_)
        clear hK K
        try simp only [Act.put, List.setIfInBounds_toArray, List.set_cons_zero, List.set_cons_succ]
        refine wpAnyH_done (by kernel_rfl) ?_ _
        go_wp2
        go_roundw
        case rel => exact ⟨q + 1, mb, sl2, rows.set f r2, hlt, by go_num, HMR4.out, HMBE.out, HS1.out.drew, HS2.out, HOUT4.out, HAPT4.out, HBX4.out, HKP4.out⟩
        case measure => simp [intOf]; omega
       ·go_simp
        go_at_call 98
        refine (hone.out _).mono ?_
        rintro e w' ⟨rfl, rfl⟩
        refine hK.out _ _ (⟨⟨z0, z1⟩, q5⟩) (fun hHeld => ?_)
        clear hK K
        try simp only [Act.put, List.setIfInBounds_toArray, List.set_cons_zero, List.set_cons_succ]
        refine branch_one (i := 7) rfl (by kernel_rfl) (by rfl) (fun K hK => ?_)
        go_simp
        refine hK.out _ _ (⟨⟨z0, z1⟩, q5⟩) (fun hHeld => ?_)
        clear hK K
        try simp only [Act.put, List.setIfInBounds_toArray, List.set_cons_zero, List.set_cons_succ]
        refine take_on (i := 11) (v := ?_) rfl (by kernel_rfl) (by kernel_rfl) (by kernel_rfl) (fun _ _ _ h => h) (by rfl) (by assumption) ?_ ?_
        rotate_left
        ·((intro w hSw; (try dsimp only at hSw); go_simp <;> with_reducible rfl); done)
        try simp only [Act.put, List.setIfInBounds_toArray, List.set_cons_zero, List.set_cons_succ]
        refine take_on (i := 12) (v := ?_) rfl (by kernel_rfl) (by kernel_rfl) (by kernel_rfl) (fun _ _ _ h => h) (by rfl) (by assumption) ?_ ?_
        rotate_left
        ·((intro w hSw; (try dsimp only at hSw); go_simp <;> with_reducible rfl); done)
        try simp only [Act.put, List.setIfInBounds_toArray, List.set_cons_zero, List.set_cons_succ]
        refine branch_one (i := 13) rfl (by kernel_rfl) (by rfl) (fun K hK => ?_)
        go_simp
        refine hK.out _ _ (⟨⟨kS.cell z0 (by simp; exact HCR.out), kS.cell z1 (by simp; exact HCR.out)⟩, kS.cell q5 (by simp; exact Ne.symm hn3)⟩) (fun hHeld => ?_)
        clear hK K
        try simp only [Act.put, List.setIfInBounds_toArray, List.set_cons_zero, List.set_cons_succ]
        refine wpAnyH_done (by kernel_rfl) ?_ _
        go_wp2
        go_roundw
        case rel => exact ⟨q + 1, mb, sl2, rows.set f r2, hlt, by go_num, HMR4.out, HMBE.out, HS1.out.drew, HS2.out, HOUT4.out, HAPT4.out, HBX4.out, HKP4.out⟩
        case measure => simp [intOf]; omega
     ·obtain rfl : q = edges.length := by omega
      rw [List.take_length] at hrow hout
      obtain ⟨ST, hST⟩ : ∃ ST : World → Prop, ST = fun W => MapRow W ob k mbs ∧ Out W k mb sl edges ∧ W.heap[wb]? = some (.cells (wayRow x0 ob rb).toArray 171 (0, 0)) ∧ Keeps [] Y W := ⟨_, rfl⟩
      have HSTE := gI hST
      have HSTK := gI (show ∀ W W' : World, ST W → Keeps [rb] W W' → ST W' from fun W W' h hk => by
       rw [hST] at h ⊢
       obtain ⟨h1, h2, h3, h4⟩ := h
       exact ⟨h1.keep hk (by simp; exact hn1), h2.keep hapt hk (by intro x hx; simp at hx; subst hx; exact .inl (by simp)), hk.heap h3 (by simp; exact Ne.symm hn3), h4.after hk (by intro x hx; simp at hx; subst hx; exact .inr hrb)⟩)
      have HSTC := gI (show ∀ W : World, ST W → (W.cell? ⟨wb, 4, none⟩ = some (.slice (some ⟨ob, 0, none⟩) k k) ∧ W.cell? ⟨wb, 5, none⟩ = some (.slice (some ⟨rb, 0, none⟩) k k)) ∧ (W.cell? ⟨B, 0, none⟩ = some (.slice ca cls.length cc) ∧ W.cell? ⟨B, 1, none⟩ = some (.slice na k nc) ∧ W.cell? ⟨B, 2, none⟩ = some (.slice fa first.length fc) ∧ W.cell? ⟨B, 3, none⟩ = some (.slice ea edges.length ec)) from fun W h => by
       rw [hST] at h
       exact ⟨HWAY.out W h.2.2.1, HBOX.out W h.2.2.2⟩)
      have HS0 := gI (show ST wr by rw [hST]; exact ⟨hmr, hout, hbx, hkp⟩)
      have hED : ∀ e ∈ edges, (0 ≤ e.fr ∧ e.fr < k) ∧ (0 ≤ e.tt ∧ e.tt < k) := fun e he => by
       have h := OK.out.ed
       rw [HX0.out] at h
       simp only at h
       rw [← HN.out] at h
       exact ⟨(h e he).1, (h e he).2.1⟩
      have HRA := gI (show ∀ a b, Ere edges a b → a < k from fun a b ⟨e, he, h1, h2⟩ => by have := (hED e he).1; omega)
      have HRB := gI (show ∀ a b, Ere edges a b → b < k from fun a b ⟨e, he, h1, h2⟩ => by have := (hED e he).2; omega)
      have HU0 := gI hus
      have HH0 := gI hrow.half
      have HAPT := gI hapt
      have HMBE := gI hmb
      obtain ⟨v0, v1, v2, v3⟩ := HBOX.out _ hkp
      obtain ⟨wz, hwz⟩ : ∃ wz, wz = wr := ⟨_, rfl⟩
      clear hmr hmb hus hrow hout hapt hbx hkp hED hST
      go_wp2
      go_loopw [90] (fun i wr => ∃ (m : Nat) (rows : List Nat), m ≤ k ∧ i = .int .i64 m ∧ U64s wr rb rows ∧ Half (Ere edges) k m 0 rows ∧ ST wr) (fun i _ => k - (intOf i).toNat)
      case atStart => exact ⟨0, _, Nat.zero_le _, rfl, HU0.out, HH0.out, HS0.out⟩
      case round =>
       obtain ⟨m, rows, hm, rfl, hus, hhalf, hst⟩ := hrel
       by_cases hmk : m < k
       ·obtain ⟨⟨w4, w5⟩, v0, v1, v2, v3⟩ := HSTC.out _ hst
        have HU1 := gI hus
        have HH1 := gI hhalf
        have HS1 := gI hst
        obtain ⟨wy, hwy⟩ : ∃ wy, wy = wr := ⟨_, rfl⟩
        clear hus hhalf hst
        go_wp2
        go_loopw [96] (fun i wr => ∃ (n : Nat) (rows : List Nat), n ≤ k ∧ i = .int .i64 n ∧ U64s wr rb rows ∧ Half (Ere edges) k m n rows ∧ ST wr) (fun i _ => k - (intOf i).toNat)
        case atStart => exact ⟨0, _, Nat.zero_le _, rfl, HU1.out, HH1.out, HS1.out⟩
        case round =>
         obtain ⟨n, rows, hn, rfl, hus, hhalf, hst⟩ := hrel
         by_cases hnk : n < k
         ·obtain ⟨⟨w4, w5⟩, v0, v1, v2, v3⟩ := HSTC.out _ hst
          have hrl := hhalf.len
          have hltr := hhalf.lt (by omega) HRB.out
          have un := hus.cell n (by omega)
          have um := hus.cell m (by omega)
          have unf := hus.fz n
          have hlt1 := hltr n hnk
          have hlt2 := hltr m hmk
          have hhas := gI (fun W => hasN_any (rows.getD n 0) m W (by omega) hlt1)
          have hor := or_u64 (rows.getD n 0) (rows.getD m 0) hlt1 hlt2
          have HSTEP := gI (show Half (Ere edges) k m (n + 1) (orRow rows m n) from hhalf.step hmk hnk)
          have HSTA := gI hst
          have hset := hus.set n (rows.getD n 0 ||| rows.getD m 0)
          have HOR := gI (show orRow rows m n = if (rows.getD n 0).testBit m then rows.set n (rows.getD n 0 ||| rows.getD m 0) else rows from rfl)
          have HUA := gI hus
          obtain ⟨r1, hr1⟩ : ∃ r1, r1 = rows.getD n 0 := ⟨_, rfl⟩
          obtain ⟨r2, hr2⟩ : ∃ r2, r2 = rows.getD m 0 := ⟨_, rfl⟩
          simp only [← hr1, ← hr2] at un um hor hset HOR hhas
          obtain ⟨r3, hr3⟩ : ∃ r3, r3 = r1 ||| r2 := ⟨_, rfl⟩
          simp only [← hr3] at hor hset HOR
          obtain ⟨tb, htb⟩ : ∃ tb, tb = r1.testBit m := ⟨_, rfl⟩
          simp only [← htb] at hhas HOR
          have HSET := gI hset
          clear hus hhalf hst hltr hset hr1 hr2 hr3 htb hlt1 hlt2
          cases tb with
          | false =>
           have HST4 := gI (show Half (Ere edges) k m (n + 1) rows by have h := HSTEP.out; rw [HOR.out] at h; simpa using h)
           go_wp2_with (go_at_call 99; refine (hhas.out _).mono ?_; rintro e w' ⟨rfl, rfl⟩)
           go_roundw
           case rel => exact ⟨n + 1, rows, hnk, by go_num, HUA.out, HST4.out, HSTA.out⟩
           case measure => simp [intOf]; omega
          | true =>
           have HST4 := gI (show Half (Ere edges) k m (n + 1) (rows.set n r3) by have h := HSTEP.out; rw [HOR.out] at h; simpa using h)
           go_upto_region 21 with (go_at_call 99; refine (hhas.out _).mono ?_; rintro e w' ⟨rfl, rfl⟩)
           refine wp_region_held_drew (S := fun w' => w'.cell? ⟨wb, 5, none⟩ = some (.slice (some ⟨rb, 0, none⟩) k k)) (by kernel_rfl) w5 (fun hHeld => ?_)
           refine take_on (i := 0) (v := ?_) rfl (by kernel_rfl) (by kernel_rfl) (by kernel_rfl) (fun _ _ _ h => h) (by rfl) (by assumption) ?_ ?_
           rotate_left
           ·((intro w hSw; (try dsimp only at hSw); go_simp <;> with_reducible rfl); done)
           try simp only [Act.put, List.setIfInBounds_toArray, List.set_cons_zero, List.set_cons_succ]
           refine take_on (i := 1) (v := ?_) rfl (by kernel_rfl) (by kernel_rfl) (by kernel_rfl) (fun _ _ _ h => h) (by rfl) (by assumption) ?_ ?_
           rotate_left
           ·((intro w hSw; (try dsimp only at hSw); go_simp <;> with_reducible rfl); done)
           try simp only [Act.put, List.setIfInBounds_toArray, List.set_cons_zero, List.set_cons_succ]
           refine take_on (i := 2) (v := ?_) rfl (by kernel_rfl) (by kernel_rfl) (by kernel_rfl) (fun _ _ _ h => h) (by rfl) (by assumption) ?_ ?_
           rotate_left
           ·((intro w hSw; (try dsimp only at hSw); go_simp <;> with_reducible rfl); done)
           try simp only [Act.put, List.setIfInBounds_toArray, List.set_cons_zero, List.set_cons_succ]
           refine take_on (i := 3) (v := ?_) rfl (by kernel_rfl) (by kernel_rfl) (by kernel_rfl) (fun _ _ _ h => h) (by rfl) (by assumption) ?_ ?_
           rotate_left
           ·((intro w hSw; (try dsimp only at hSw); go_simp <;> with_reducible rfl); done)
           try simp only [Act.put, List.setIfInBounds_toArray, List.set_cons_zero, List.set_cons_succ]
           refine take_on (i := 4) (v := ?_) rfl (by kernel_rfl) (by kernel_rfl) (by kernel_rfl) (fun _ _ _ h => h) (by rfl) (by assumption) ?_ ?_
           rotate_left
           ·((intro w hSw; (try dsimp only at hSw); go_simp <;> with_reducible rfl); done)
           try simp only [Act.put, List.setIfInBounds_toArray, List.set_cons_zero, List.set_cons_succ]
           refine take_on (i := 5) (v := ?_) rfl (by kernel_rfl) (by kernel_rfl) (by kernel_rfl) (fun _ _ _ h => h) (by rfl) (by assumption) ?_ ?_
           rotate_left
           ·((intro w hSw; (try dsimp only at hSw); go_simp <;> with_reducible rfl); done)
           try simp only [Act.put, List.setIfInBounds_toArray, List.set_cons_zero, List.set_cons_succ]
           refine take_on (i := 7) (v := ?_) rfl (by kernel_rfl) (by kernel_rfl) (by kernel_rfl) (fun _ _ _ h => h) (by rfl) (by assumption) ?_ ?_
           rotate_left
           ·((intro w hSw; (try dsimp only at hSw); go_simp <;> with_reducible rfl); done)
           try simp only [Act.put, List.setIfInBounds_toArray, List.set_cons_zero, List.set_cons_succ]
           refine take_on (i := 8) (v := ?_) rfl (by kernel_rfl) (by kernel_rfl) (by kernel_rfl) (fun _ _ _ h => h) (by rfl) (by assumption) ?_ ?_
           rotate_left
           ·((intro w hSw; (try dsimp only at hSw); go_simp <;> with_reducible rfl); done)
           try simp only [Act.put, List.setIfInBounds_toArray, List.set_cons_zero, List.set_cons_succ]
           refine take_on (i := 9) (v := ?_) rfl (by kernel_rfl) (by kernel_rfl) (by kernel_rfl) (fun _ _ _ h => h) (by rfl) (by assumption) ?_ ?_
           rotate_left
           ·((intro w hSw; (try dsimp only at hSw); go_simp <;> with_reducible rfl); done)
           try simp only [Act.put, List.setIfInBounds_toArray, List.set_cons_zero, List.set_cons_succ]
           refine take_on (i := 10) (v := ?_) rfl (by kernel_rfl) (by kernel_rfl) (by kernel_rfl) (fun _ _ _ h => h) (by rfl) (by assumption) ?_ ?_
           rotate_left
           ·((intro w hSw; (try dsimp only at hSw); go_simp <;> with_reducible rfl); done)
           try simp only [Act.put, List.setIfInBounds_toArray, List.set_cons_zero, List.set_cons_succ]
           refine take_on (i := 11) (v := ?_) rfl (by kernel_rfl) (by kernel_rfl) (by kernel_rfl) (fun _ _ _ h => h) (by rfl) (by assumption) ?_ ?_
           rotate_left
           ·((intro w hSw; (try dsimp only at hSw); go_simp <;> with_reducible rfl); done)
           try simp only [Act.put, List.setIfInBounds_toArray, List.set_cons_zero, List.set_cons_succ]
           refine take_on (i := 12) (v := ?_) rfl (by kernel_rfl) (by kernel_rfl) (by kernel_rfl) (fun _ _ _ h => h) (by rfl) (by assumption) ?_ ?_
           rotate_left
           ·((intro w hSw; (try dsimp only at hSw); go_simp <;> with_reducible rfl); done)
           try simp only [Act.put, List.setIfInBounds_toArray, List.set_cons_zero, List.set_cons_succ]
           refine branch_two (i := 6) (j := 13) rfl rfl (by kernel_rfl) (by rfl) (by rfl) (fun K hK => ?_) (fun K hK => ?_)
           ·go_simp
            refine hK.out _ _ (w5) (fun hHeld => ?_)
            clear hK K
            try simp only [Act.put, List.setIfInBounds_toArray, List.set_cons_zero, List.set_cons_succ]
            refine branch_one (i := 13) rfl (by kernel_rfl) (by rfl) (fun K hK => ?_)
            go_simp
            refine hK.out _ _ (w5) (fun hHeld => ?_)
            clear hK K
            try simp only [Act.put, List.setIfInBounds_toArray, List.set_cons_zero, List.set_cons_succ]
            refine take_on (i := 14) (v := ?_) rfl (by kernel_rfl) (by kernel_rfl) (by kernel_rfl) (fun _ _ _ h => h) (by rfl) (by assumption) ?_ ?_
            rotate_left
            ·((intro w hSw; (try dsimp only at hSw); go_simp <;> with_reducible rfl); done)
            try simp only [Act.put, List.setIfInBounds_toArray, List.set_cons_zero, List.set_cons_succ]
            refine take_on (i := 15) (v := ?_) rfl (by kernel_rfl) (by kernel_rfl) (by kernel_rfl) (fun _ _ _ h => h) (by rfl) (by assumption) ?_ ?_
            rotate_left
            ·((intro w hSw; (try dsimp only at hSw); go_simp <;> with_reducible rfl); done)
            try simp only [Act.put, List.setIfInBounds_toArray, List.set_cons_zero, List.set_cons_succ]
            refine branch_one (i := 16) rfl (by kernel_rfl) (by rfl) (fun K hK => ?_)
            go_simp
            have kS : Keeps [rb] wr (wr.setCell ⟨rb, n, none⟩ (.int .u64 (r3 : Int))).drew := ((Keeps.refl [rb] wr).setCell (by simp) _).drew
            refine hK.out _ _ (kS.cell w5 (by simp; exact Ne.symm hn3)) (fun hHeld => ?_)
            clear hK K
            try simp only [Act.put, List.setIfInBounds_toArray, List.set_cons_zero, List.set_cons_succ]
            refine wpAnyH_done (by kernel_rfl) ?_ _
            go_wp2
            go_roundw
            case rel => exact ⟨n + 1, rows.set n r3, hnk, by go_num, HSET.out.drew, HST4.out, HSTK.out _ _ HSTA.out kS⟩
            case measure => simp [intOf]; omega
           ·go_simp
            refine hK.out _ _ (w5) (fun hHeld => ?_)
            clear hK K
            try simp only [Act.put, List.setIfInBounds_toArray, List.set_cons_zero, List.set_cons_succ]
            refine branch_one (i := 6) rfl (by kernel_rfl) (by rfl) (fun K hK => ?_)
            go_simp
            refine hK.out _ _ (w5) (fun hHeld => ?_)
            clear hK K
            try simp only [Act.put, List.setIfInBounds_toArray, List.set_cons_zero, List.set_cons_succ]
            refine take_on (i := 14) (v := ?_) rfl (by kernel_rfl) (by kernel_rfl) (by kernel_rfl) (fun _ _ _ h => h) (by rfl) (by assumption) ?_ ?_
            rotate_left
            ·((intro w hSw; (try dsimp only at hSw); go_simp <;> with_reducible rfl); done)
            try simp only [Act.put, List.setIfInBounds_toArray, List.set_cons_zero, List.set_cons_succ]
            refine take_on (i := 15) (v := ?_) rfl (by kernel_rfl) (by kernel_rfl) (by kernel_rfl) (fun _ _ _ h => h) (by rfl) (by assumption) ?_ ?_
            rotate_left
            ·((intro w hSw; (try dsimp only at hSw); go_simp <;> with_reducible rfl); done)
            try simp only [Act.put, List.setIfInBounds_toArray, List.set_cons_zero, List.set_cons_succ]
            refine branch_one (i := 16) rfl (by kernel_rfl) (by rfl) (fun K hK => ?_)
            go_simp
            have kS : Keeps [rb] wr (wr.setCell ⟨rb, n, none⟩ (.int .u64 (r3 : Int))).drew := ((Keeps.refl [rb] wr).setCell (by simp) _).drew
            refine hK.out _ _ (kS.cell w5 (by simp; exact Ne.symm hn3)) (fun hHeld => ?_)
            clear hK K
            try simp only [Act.put, List.setIfInBounds_toArray, List.set_cons_zero, List.set_cons_succ]
            refine wpAnyH_done (by kernel_rfl) ?_ _
            go_wp2
            go_roundw
            case rel => exact ⟨n + 1, rows.set n r3, hnk, by go_num, HSET.out.drew, HST4.out, HSTK.out _ _ HSTA.out kS⟩
            case measure => simp [intOf]; omega
         ·obtain rfl : n = k := by omega
          have HH2 := gI hhalf.turn
          have HU2 := gI hus
          have HS2 := gI hst
          clear hus hhalf hst
          go_wp2
          go_roundw
          case rel => exact ⟨m + 1, rows, hmk, by go_num, HU2.out, HH2.out, HS2.out⟩
          case measure => simp [intOf]; omega
       ·obtain rfl : m = k := by omega
        have HH2 := gI hhalf
        have HU2 := gI hus
        have HS2 := gI hst
        clear hus hhalf hst
        go_wp2
        rw [HP.out]
        have hS := HS2.out
        rw [HSTE.out] at hS
        obtain ⟨h1, h2, h3, h4⟩ := hS
        have hn0 : x0.nodes.length = m := by rw [HX0.out]; exact HN.out.symm
        have he0 : x0.edges = edges := by rw [HX0.out]
        refine ⟨wb, rows, rfl, ⟨HX.out.keep h4, ob, rb, h3, HU2.out, fun n hn => ?_⟩, ?_, ?_, HKY.out.trans h4⟩
        ·rw [hn0] at hn
         obtain ⟨g, h5, h6⟩ := h2.map n hn
         refine ⟨mb n, g, edges.length, ?_, h5, by omega, fun c => ?_⟩
         ·have h := h1.cell n (by have := HML.out; omega)
          rw [HMBE.out n hn] at h
          exact h
         ·rw [he0]
          refine ⟨fun h => by rw [h6 c, if_pos h], fun h => ⟨_, (sl n c).2, by rw [h6 c, if_neg h]; rfl, (h2.sls n hn c).edIn rfl⟩⟩
        ·rw [hn0, he0]
         exact HH2.out.rows HRA.out
        ·rw [hn0]
         exact HH2.out.lt (by omega) HRB.out
end Go.Proofs.YtkekenaamnhbhaaGreat
