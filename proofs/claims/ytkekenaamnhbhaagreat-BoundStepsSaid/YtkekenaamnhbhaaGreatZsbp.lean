/- Part 42 of the proof. No condition: every lemma says its own. -/
import Derived.Test.YtkekenaamnhbhaaGreatZsbo
namespace Go.Proofs.YtkekenaamnhbhaaGreat
open Go.RowKit Go.BigFrame
set_option maxRecDepth 100000
set_option maxHeartbeats 16000000
def BofOut (w : World) (F s : Nat) (GP : Gr → Prop) (e : Ending) (w' : World) : Prop :=
 ∃ (x : Gr) (ps : List Pt) (cb : Nat), GP x ∧ Raw ps (ngPas x (F + 1)).L ∧
  e = .returned (.tuple #[.agg #[.slice (some ⟨cb, 0, none⟩) x.nodes.length x.nodes.length, .int .i64 (facP s x (ngPas x (F + 1)).of (qsP x F ps)), .int .i64 (degreeP (ngPas x (F + 1)).of (rkP x F ps) (qsP x F ps))], .int .i64 0]) ∧
  SliceAt w' 3 1 (some cb) x.nodes.length x.nodes.length (bi (rkP x F ps)) ∧ Keeps [] w w'
set_option linter.unusedSimpArgs false in
theorem bof_any (w : World) (m : MRe) (F s : Nat) (GP : Gr → Prop) (hp : ∀ W, Keeps [] w W → Calls Tryz.prog 32 #[patP m] W (PrpOut W F s GP)) :
  Calls Tryz.prog 23 #[patP m] w (BofOut w F s GP) := by
 obtain ⟨Q, hQ⟩ : ∃ Q, Q = BofOut w F s GP := ⟨_, rfl⟩
 rw [← hQ]
 have HQ := gI hQ
 have HP := gI hp
 have hpv : patP m = .agg (m.row ++ [Value.int .i64 0, Value.bool false]).toArray := rfl
 rw [hpv] at HP ⊢
 obtain ⟨op, sa, sc, set, ka, kc, kids, mn, mx, mode, n, neg⟩ := m
 have HP := gI (show ∀ W, Keeps [] w W → Calls Tryz.prog 32 #[.agg #[.int .i64 op, .slice sa set.length sc, .slice ka kids.length kc, .int .i64 mn, .int .i64 mx, .int .i64 mode, .int .i64 n, .bool neg, .int .i64 0, .bool false]] W (PrpOut W F s GP) from HP.out)
 show Calls Tryz.prog 23 #[.agg #[.int .i64 op, .slice sa set.length sc, .slice ka kids.length kc, .int .i64 mn, .int .i64 mx, .int .i64 mode, .int .i64 n, .bool neg, .int .i64 0, .bool false]] w _
 obtain ⟨B, hB⟩ : ∃ B, B = w.heap.size := ⟨_, rfl⟩
 obtain ⟨Y1, hY1⟩ : ∃ Y, Y = w.alloc (.cells #[.int .i64 op, .slice sa set.length sc, .slice ka kids.length kc, .int .i64 mn, .int .i64 mx, .int .i64 mode, .int .i64 n, .bool neg, .int .i64 0, .bool false] 58) := ⟨_, rfl⟩
 have k1 : Keeps [] w Y1 := by rw [hY1]; exact Keeps.a1 _ _
 have s1 : Y1.heap.size = B + 1 := by rw [hY1, hB]; simp
 obtain ⟨Y, hY⟩ : ∃ Y, Y = Y1.alloc (.cells #[.slice none 0 0, .int .i64 0, .int .i64 0] 30) := ⟨_, rfl⟩
 have k2 : Keeps [] Y1 Y := by rw [hY]; exact Keeps.a1 _ _
 have hb1 : Y1.heap[B]? = some (.cells #[.int .i64 op, .slice sa set.length sc, .slice ka kids.length kc, .int .i64 mn, .int .i64 mx, .int .i64 mode, .int .i64 n, .bool neg, .int .i64 0, .bool false] 58 (0, 0)) := by rw [hY1, hB]; exact heap_alloc_new _ _
 have HB1 := gI (k2.heap hb1 (by simp))
 have HB2 := gI (show Y.heap[B + 1]? = some (.cells #[.slice none 0 0, .int .i64 0, .int .i64 0] 30 (0, 0)) by rw [hY, ← s1]; exact heap_alloc_new _ _)
 have HKY := gI (k1.trans k2)
 have HPT := gI (show ∀ W, Keeps [] Y W → W.cell? ⟨B, 0, none⟩ = some (.int .i64 op) ∧ W.cell? ⟨B, 1, none⟩ = some (.slice sa set.length sc) ∧ W.cell? ⟨B, 2, none⟩ = some (.slice ka kids.length kc) ∧ W.cell? ⟨B, 3, none⟩ = some (.int .i64 mn) ∧ W.cell? ⟨B, 4, none⟩ = some (.int .i64 mx) ∧ W.cell? ⟨B, 5, none⟩ = some (.int .i64 mode) ∧ W.cell? ⟨B, 6, none⟩ = some (.int .i64 n) ∧ W.cell? ⟨B, 7, none⟩ = some (.bool neg) ∧ W.cell? ⟨B, 8, none⟩ = some (.int .i64 0) ∧ W.cell? ⟨B, 9, none⟩ = some (.bool false) from fun W k => by
  have h := k.heap HB1.out (by simp)
  simp [World.cell?, h])
 have HY1 := gI hY1
 have HY := gI hY
 have HB := gI hB
 obtain ⟨q0, q1, q2, q3, q4, q5, q6, q7, q8, q9⟩ := HPT.out Y (Keeps.refl _ _)
 clear hQ hp hpv hB hY1 k1 s1 hY k2 hb1
 go_enter Tryz.func23, Tryz.ntmps23
 go_upto_region 1 with fail
 rw [← HY1.out, ← HY.out, ← HB.out]
 go_wp2_with fail
 with_reducible refine Calls.mono (HP.out Y HKY.out) ?_
 rintro e w3 ⟨x, ps, gb, cb, hgx, hraw, rfl, hs, hk3⟩
 have HGX := gI hgx
 have HRAW := gI hraw
 obtain ⟨N, hN⟩ : ∃ N, N = x.nodes.length := ⟨_, rfl⟩
 obtain ⟨fac, hfac⟩ : ∃ v, v = facP s x (ngPas x (F + 1)).of (qsP x F ps) := ⟨_, rfl⟩
 obtain ⟨dg, hdg⟩ : ∃ v, v = degreeP (ngPas x (F + 1)).of (rkP x F ps) (qsP x F ps) := ⟨_, rfl⟩
 rw [← hN] at hs
 rw [← hN, ← hfac, ← hdg]
 have HS := gI hs
 have HK3 := gI (HKY.out.trans hk3)
 obtain ⟨C, hC⟩ : ∃ C, C = w3.heap.size := ⟨_, rfl⟩
 obtain ⟨Z, hZ⟩ : ∃ Z, Z = w3.alloc (.cells #[.slice (some ⟨cb, 0, none⟩) N N, .int .i64 fac, .int .i64 dg] 30) := ⟨_, rfl⟩
 have hkZ : Keeps [] w3 Z := by rw [hZ]; exact Keeps.a1 _ _
 have hZH : Z.heap[C]? = some (.cells #[.slice (some ⟨cb, 0, none⟩) N N, .int .i64 fac, .int .i64 dg] 30 (0, 0)) := by rw [hZ, hC]; exact heap_alloc_new _ _
 have hB2 := (hk3.trans hkZ).heap HB2.out (by simp)
 have e0 : Z.cell? ⟨C, 0, none⟩ = some (.slice (some ⟨cb, 0, none⟩) N N) := by simp [World.cell?, hZH]
 have e1 : Z.cell? ⟨C, 1, none⟩ = some (.int .i64 fac) := by simp [World.cell?, hZH]
 have e2 : Z.cell? ⟨C, 2, none⟩ = some (.int .i64 dg) := by simp [World.cell?, hZH]
 have g0 : Z.cell? ⟨B + 1, 0, none⟩ = some (.slice none 0 0) := by simp [World.cell?, hB2]
 have g1 : Z.cell? ⟨B + 1, 1, none⟩ = some (.int .i64 0) := by simp [World.cell?, hB2]
 have g2 : Z.cell? ⟨B + 1, 2, none⟩ = some (.int .i64 0) := by simp [World.cell?, hB2]
 have gf : ∀ j, Z.frozen? ⟨B + 1, j, none⟩ = false := fun j => by simp [World.frozen?, hB2]
 have gf0 := gf 0
 have gf1 := gf 1
 have gf2 := gf 2
 have hBlt : B + 1 < Y.heap.size := lt_of_block HB2.out
 have hcb : Y.heap.size ≤ cb ∨ cb ≠ B + 1 := by
  by_cases h : cb = B + 1
  ·subst h
   exfalso
   obtain ⟨_, cur, hh, _⟩ := hs
   rw [hk3.heap HB2.out (by simp)] at hh
   simp at hh
  ·exact .inr h
 have hcbn : cb ≠ B + 1 := by
  rcases hcb with h | h
  ·omega
  ·exact h
 obtain ⟨X1, hX1⟩ : ∃ X1, X1 = Z.setCell ⟨B + 1, 0, none⟩ (.slice (some ⟨cb, 0, none⟩) N N) := ⟨_, rfl⟩
 obtain ⟨X2, hX2⟩ : ∃ X2, X2 = X1.setCell ⟨B + 1, 1, none⟩ (.int .i64 fac) := ⟨_, rfl⟩
 obtain ⟨X3, hX3⟩ : ∃ X3, X3 = X2.setCell ⟨B + 1, 2, none⟩ (.int .i64 dg) := ⟨_, rfl⟩
 have h1 : X1.heap[B + 1]? = some (.cells #[.slice (some ⟨cb, 0, none⟩) N N, .int .i64 0, .int .i64 0] 30 (0, 0)) := by
  rw [hX1, heap_setCell_same Z (B + 1) 0 _ _ _ hB2]; simp
 have h2 : X2.heap[B + 1]? = some (.cells #[.slice (some ⟨cb, 0, none⟩) N N, .int .i64 fac, .int .i64 0] 30 (0, 0)) := by
  rw [hX2, heap_setCell_same X1 (B + 1) 1 _ _ _ h1]; simp
 have h3 : X3.heap[B + 1]? = some (.cells #[.slice (some ⟨cb, 0, none⟩) N N, .int .i64 fac, .int .i64 dg] 30 (0, 0)) := by
  rw [hX3, heap_setCell_same X2 (B + 1) 2 _ _ _ h2]; simp
 have kk : Keeps [B + 1] Z X3 := by
  rw [hX3, hX2, hX1]
  exact (((Keeps.refl [B + 1] Z).setCell (by simp) _).setCell (by simp) _).setCell (by simp) _
 have HV := gI h3
 have HFIN := gI (show SliceAt X3 3 1 (some cb) N N (bi (rkP x F ps)) from (hs.keep hkZ (by simp)).keep kk (fun g e => by cases e; simpa using hcbn))
 have HKF := gI (show Keeps [] w X3 from (HK3.out.trans hkZ).after kk (fun b hb => .inr (by have := HB.out; simp at hb; omega)))
 have HX1 := gI hX1
 have HX2 := gI hX2
 have HX3 := gI hX3
 have HZ := gI hZ
 have HC := gI hC
 have HN := gI hN
 have HFAC := gI hfac
 have HDG := gI hdg
 clear hgx hraw hN hfac hdg hs hk3 hC hZ hkZ hZH hB2 gf hBlt hcb hcbn hX1 hX2 hX3 h1 h2 h3 kk q0 q1 q2 q3 q4 q5 q6 q7 q8 q9
 go_upto_region 2 with fail
 rw [← HZ.out, ← HC.out]
 go_wp2
 rw [← HX1.out, ← HX2.out, ← HX3.out]
 refine bodyPost_ret (res_row_tmp rfl _ _ (B + 1) 30 #[.slice (some ⟨cb, 0, none⟩) N N, .int .i64 fac, .int .i64 dg] (0, 0) _ rfl HV.out Tryz.underlying30 rfl sizeCe) rfl ?_
 rw [HQ.out]
 refine ⟨x, ps, cb, HGX.out, HRAW.out, ?_, ?_, HKF.out⟩
 ·rw [← HN.out, ← HFAC.out, ← HDG.out]
  rfl
 ·rw [← HN.out]
  exact HFIN.out
end Go.Proofs.YtkekenaamnhbhaaGreat
