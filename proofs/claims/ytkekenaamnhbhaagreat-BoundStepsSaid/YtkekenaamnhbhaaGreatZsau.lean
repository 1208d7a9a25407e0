/- Part 21 of the proof. No condition: every lemma says its own. -/
import Derived.Test.YtkekenaamnhbhaaGreatZsao
import Derived.Test.YtkekenaamnhbhaaGreatZsar
import Derived.Test.YtkekenaamnhbhaaGreatZsat
namespace Go.Proofs.YtkekenaamnhbhaaGreat
open Go.RowKit Go.BigFrame
set_option maxRecDepth 100000
set_option maxHeartbeats 16000000
def NoDbl (x : Gr) (n : Int) : Prop := (0 ≤ n ∧ n < x.nodes.length) ∧ ∀ rows, WRows (Ere x.edges) x.nodes.length rows → ∀ v, ¬ Lead (DSucc x.edges (partN rows n.toNat)) (n, n, 0) v (n, n, 1)
theorem nodbl {x : Gr} {n : Int} {w w' : World} {e : Ending} (hv : gvalE x = 0) (h : NoDbl x n) (hd : DoublePost w x n e w') : (∃ (a : Option Addr) (l c : Nat), e = .returned (.tuple #[.slice a l c, .bool false, .int .i64 0])) ∧ Keeps [] w w' := by
 unfold DoublePost at hd
 rw [if_neg (by simp [hv]), if_neg (by have := h.1; omega)] at hd
 obtain ⟨rows, hr, hk, word, a, c, ok, he, _, _, h2⟩ := hd
 rcases h2 with ⟨_, h3, _⟩ | ⟨rfl, _, _⟩
 ·exact absurd h3.1 (h.2 rows hr word)
 ·exact ⟨⟨_, _, _, he⟩, hk⟩
set_option linter.unusedSimpArgs false in
theorem prc_any (w : World) (x : Gr) (XB : Nat) (hx : GrIn w x) (hb : w.heap[XB]? = some (.cells x.row.toArray 89 (0, 0))) (hv : gvalE x = 0) (p : Pt) (hs : SliceAt w 3 1 p.na p.nodes.length p.nc (bi p.nodes)) (h0 : 0 < p.nodes.length) (hnd : NoDbl x (p.nodes.getD 0 0)) :
  Calls Tryz.prog 41 #[.agg p.row.toArray, .pointer (some ⟨XB, 0, none⟩)] w fun e w' => e = .returned (.bool false) ∧ Keeps [] w w' := by
 obtain ⟨Q, hQ⟩ : ∃ Q : Ending → World → Prop, Q = fun e w' => e = .returned (.bool false) ∧ Keeps [] w w' := ⟨_, rfl⟩
 rw [← hQ]
 have HQ := gI hQ
 obtain ⟨na, nc, nodes, f1, f2, f3⟩ := p
 simp only at hs h0 hnd
 obtain ⟨nb, rfl⟩ : ∃ nb, na = some nb := by
  cases na with
  | none => exfalso; have := hs.2.1; omega
  | some nb => exact ⟨nb, rfl⟩
 have n0 := bi_cell hs 0 h0
 obtain ⟨n, hn⟩ : ∃ n, n = nodes.getD 0 0 := ⟨_, rfl⟩
 rw [← hn] at n0 hnd
 obtain ⟨nl, hnl⟩ : ∃ n, n = nodes.length := ⟨_, rfl⟩
 rw [← hnl] at h0
 obtain ⟨b0, b1, b2, b3⟩ := row_cells4 hb
 obtain ⟨PB, hPB⟩ : ∃ P, P = w.heap.size := ⟨_, rfl⟩
 obtain ⟨Y, hY⟩ : ∃ Y, Y = w.alloc (.cells #[.slice (some ⟨nb, 0, none⟩) nl nc, .bool f1, .bool f2, .bool f3] 96) := ⟨_, rfl⟩
 have hkY : Keeps [] w Y := by rw [hY]; exact Keeps.a1 _ _
 have hY0 : Y.heap[PB]? = some (.cells #[.slice (some ⟨nb, 0, none⟩) nl nc, .bool f1, .bool f2, .bool f3] 96 (0, 0)) := by rw [hY, hPB]; exact heap_alloc_new _ _
 have y0 : Y.drew.cell? ⟨PB, 0, none⟩ = some (.slice (some ⟨nb, 0, none⟩) nl nc) := (show Y.cell? ⟨PB, 0, none⟩ = some (.slice (some ⟨nb, 0, none⟩) nl nc) by simp [World.cell?, hY0])
 have kd : Keeps [] w Y.drew := hkY.drew
 have c0 := kd.cell b0 (by simp)
 have c1 := kd.cell b1 (by simp)
 have c2 := kd.cell b2 (by simp)
 have c3 := kd.cell b3 (by simp)
 have m0 := kd.cell n0 (by simp)
 have HC := gI (Double_any search_ok x n Y.drew (hx.keep kd))
 have HKY := gI kd
 have HND := gI hnd
 have HV := gI hv
 have HY := gI hY
 have HPB := gI hPB
 have h0i : (0 : Int) < (nl : Int) := by omega
 simp only [Gr.val] at HC
 show Calls Tryz.prog 41 #[.agg #[sv (some nb) nodes.length nc, .bool f1, .bool f2, .bool f3], .pointer (some ⟨XB, 0, none⟩)] w _
 rw [← hnl]
 simp only [sv, Option.map_some]
 clear hQ hx hb hv hs hnd n0 hn hnl b0 b1 b2 b3 hPB hY hkY hY0 kd
 go_enter Tryz.func41, Tryz.ntmps41
 go_upto_region 1 with fail
 rw [← HY.out, ← HPB.out]
 refine wp_region_held_drew (S := fun W => W.cell? ⟨PB, 0, none⟩ = some (.slice (some ⟨nb, 0, none⟩) nl nc) ∧ W.cell? ⟨nb, 0, none⟩ = some (.int .i64 n) ∧ W.cell? ⟨XB, 0, none⟩ = some (.slice x.ca x.cls.length x.cc) ∧ W.cell? ⟨XB, 1, none⟩ = some (.slice x.na x.nodes.length x.nc) ∧ W.cell? ⟨XB, 2, none⟩ = some (.slice x.fa x.first.length x.fc) ∧ W.cell? ⟨XB, 3, none⟩ = some (.slice x.ea x.edges.length x.ec)) (by kernel_rfl) ⟨y0, m0, c0, c1, c2, c3⟩ (fun hHeld => ?_)
 refine take_on (i := 0) (v := ?_) rfl (by kernel_rfl) (by kernel_rfl) (by kernel_rfl) (fun _ _ _ h => h) (by rfl) (by assumption) ?_ ?_
 rotate_left
 ·((intro w hSw; (try dsimp only at hSw); go_simp <;> with_reducible rfl); done)
 try simp only [Act.put, List.setIfInBounds_toArray, List.set_cons_zero, List.set_cons_succ]
 refine take_on (i := 1) (v := ?_) rfl (by kernel_rfl) (by kernel_rfl) (by kernel_rfl) (fun _ _ _ h => h) (by rfl) (by assumption) ?_ ?_
 rotate_left
 ·((intro w hSw; (try dsimp only at hSw); go_simp <;> with_reducible rfl); done)
 try simp only [Act.put, List.setIfInBounds_toArray, List.set_cons_zero, List.set_cons_succ]
 refine take_on (i := 2) (v := ?_) rfl (by kernel_rfl) (by kernel_rfl) (by kernel_rfl) (fun _ _ _ h => h) (by rfl) (by assumption) ?_ ?_
 rotate_left
 ·((intro w hSw; (try dsimp only at hSw); go_simp <;> with_reducible rfl); done)
 try simp only [Act.put, List.setIfInBounds_toArray, List.set_cons_zero, List.set_cons_succ]
 refine take_on (i := 3) (v := ?_) rfl (by kernel_rfl) (by kernel_rfl) (by kernel_rfl) (fun _ _ _ h => h) (by rfl) (by assumption) ?_ ?_
 rotate_left
 ·((intro w hSw; (try dsimp only at hSw); go_simp <;> with_reducible rfl); done)
 try simp only [Act.put, List.setIfInBounds_toArray, List.set_cons_zero, List.set_cons_succ]
 refine take_on (i := 4) (v := ?_) rfl (by kernel_rfl) (by kernel_rfl) (by kernel_rfl) (fun _ _ _ h => h) (by rfl) (by assumption) ?_ ?_
 rotate_left
 ·((intro w hSw; (try dsimp only at hSw); go_simp <;> with_reducible rfl); done)
 try simp only [Act.put, List.setIfInBounds_toArray, List.set_cons_zero, List.set_cons_succ]
 refine branch_one (i := 5) rfl (by kernel_rfl) (by rfl) (fun K hK => ?_)
 go_simp
 with_reducible refine Calls.mono HC.out ?_
 intro e w8 hd
 obtain ⟨⟨a, l, c, rfl⟩, hk8⟩ := nodbl HV.out HND.out hd
 have HK8 := gI (HKY.out.trans hk8)
 have S8 := (⟨hk8.cell y0 (by simp), hk8.cell m0 (by simp), hk8.cell c0 (by simp), hk8.cell c1 (by simp), hk8.cell c2 (by simp), hk8.cell c3 (by simp)⟩ : w8.cell? ⟨PB, 0, none⟩ = some (.slice (some ⟨nb, 0, none⟩) nl nc) ∧ w8.cell? ⟨nb, 0, none⟩ = some (.int .i64 n) ∧ w8.cell? ⟨XB, 0, none⟩ = some (.slice x.ca x.cls.length x.cc) ∧ w8.cell? ⟨XB, 1, none⟩ = some (.slice x.na x.nodes.length x.nc) ∧ w8.cell? ⟨XB, 2, none⟩ = some (.slice x.fa x.first.length x.fc) ∧ w8.cell? ⟨XB, 3, none⟩ = some (.slice x.ea x.edges.length x.ec))
 clear hd hk8
 refine hK.out _ _ (S8) (fun hHeld => ?_)
 clear hK K
 try simp only [Act.put, List.setIfInBounds_toArray, List.set_cons_zero, List.set_cons_succ]
 refine take_on (i := 6) (v := ?_) rfl (by kernel_rfl) (by kernel_rfl) (by kernel_rfl) (fun _ _ _ h => h) (by rfl) (by assumption) ?_ ?_
 rotate_left
 ·((intro w hSw; (try dsimp only at hSw); go_simp <;> with_reducible rfl); done)
 try simp only [Act.put, List.setIfInBounds_toArray, List.set_cons_zero, List.set_cons_succ]
 refine take_on (i := 7) (v := ?_) rfl (by kernel_rfl) (by kernel_rfl) (by kernel_rfl) (fun _ _ _ h => h) (by rfl) (by assumption) ?_ ?_
 rotate_left
 ·((intro w hSw; (try dsimp only at hSw); go_simp <;> with_reducible rfl); done)
 try simp only [Act.put, List.setIfInBounds_toArray, List.set_cons_zero, List.set_cons_succ]
 refine take_on (i := 8) (v := ?_) rfl (by kernel_rfl) (by kernel_rfl) (by kernel_rfl) (fun _ _ _ h => h) (by rfl) (by assumption) ?_ ?_
 rotate_left
 ·((intro w hSw; (try dsimp only at hSw); go_simp <;> with_reducible rfl); done)
 try simp only [Act.put, List.setIfInBounds_toArray, List.set_cons_zero, List.set_cons_succ]
 refine take_on (i := 9) (v := ?_) rfl (by kernel_rfl) (by kernel_rfl) (by kernel_rfl) (fun _ _ _ h => h) (by rfl) (by assumption) ?_ ?_
 rotate_left
 ·((intro w hSw; (try dsimp only at hSw); go_simp <;> with_reducible rfl); done)
 try simp only [Act.put, List.setIfInBounds_toArray, List.set_cons_zero, List.set_cons_succ]
 refine take_on (i := 10) (v := ?_) rfl (by kernel_rfl) (by kernel_rfl) (by kernel_rfl) (fun _ _ _ h => h) (by rfl) (by assumption) ?_ ?_
 rotate_left
 ·((intro w hSw; (try dsimp only at hSw); go_simp <;> with_reducible rfl); done)
 try simp only [Act.put, List.setIfInBounds_toArray, List.set_cons_zero, List.set_cons_succ]
 refine take_on (i := 11) (v := ?_) rfl (by kernel_rfl) (by kernel_rfl) (by kernel_rfl) (fun _ _ _ h => h) (by rfl) (by assumption) ?_ ?_
 rotate_left
 ·((intro w hSw; (try dsimp only at hSw); go_simp <;> with_reducible rfl); done)
 try simp only [Act.put, List.setIfInBounds_toArray, List.set_cons_zero, List.set_cons_succ]
 refine take_on (i := 12) (v := ?_) rfl (by kernel_rfl) (by kernel_rfl) (by kernel_rfl) (fun _ _ _ h => h) (by rfl) (by assumption) ?_ ?_
 rotate_left
 ·((intro w hSw; (try dsimp only at hSw); go_simp <;> with_reducible rfl); done)
 try simp only [Act.put, List.setIfInBounds_toArray, List.set_cons_zero, List.set_cons_succ]
 refine wpAnyH_done (by kernel_rfl) ?_ _
 clear hHeld S8
 go_wp2
 rw [HQ.out]
 exact ⟨rfl, HK8.out⟩
set_option linter.unusedSimpArgs false in
theorem ptIndex_any (w : World) (pb pc XB : Nat) (ps : List Pt) (hs : SliceAt w 96 4 (some pb) ps.length pc (ptRow ps)) (hK : ps.length ≤ 1000000)
  (hc : ∀ W, Keeps [] w W → ∀ i, i < ps.length → Calls Tryz.prog 41 #[.agg (ps.getD i pt0).row.toArray, .pointer (some ⟨XB, 0, none⟩)] W fun e w' => e = .returned (.bool false) ∧ Keeps [] W w') :
  Calls Tryz.prog 65 #[.slice (some ⟨pb, 0, none⟩) ps.length pc, .func (Fn.func 41) #[] #[.pointer (some ⟨XB, 0, none⟩)]] w fun e w' => e = .returned (.int .i64 (-1)) ∧ Keeps [] w w' := by
 obtain ⟨Q, hQ⟩ : ∃ Q : Ending → World → Prop, Q = fun e w' => e = .returned (.int .i64 (-1)) ∧ Keeps [] w w' := ⟨_, rfl⟩
 rw [← hQ]
 have HQ := gI hQ
 have HPT := gI (show ∀ (W : World), Keeps [] w W → ∀ i, i < ps.length → W.cell? ⟨pb, i * 4, none⟩ = some (sv (ps.getD i pt0).na (ps.getD i pt0).nodes.length (ps.getD i pt0).nc) ∧ W.cell? ⟨pb, i * 4 + 1, none⟩ = some (.bool (ps.getD i pt0).loop) ∧ W.cell? ⟨pb, i * 4 + 2, none⟩ = some (.bool (ps.getD i pt0).leads) ∧ W.cell? ⟨pb, i * 4 + 3, none⟩ = some (.bool (ps.getD i pt0).opn) from fun W hb i hi => by
  obtain ⟨p2, e, h1, h2, h3, h4⟩ := pt_cells (hs.keep hb (by simp)) (i := i) hi
  cases e
  exact ⟨h1, h2, h3, h4⟩)
 have HC := gI hc
 obtain ⟨K, hKK⟩ : ∃ K, K = ps.length := ⟨_, rfl⟩
 rw [← hKK] at HPT HC hK ⊢
 clear hQ hs hc hKK
 go_enter Tryz.func65, Tryz.ntmps65
 go_upto_region 2 with fail
 go_loopw [8] (fun i wr => ∃ k : Nat, k ≤ K ∧ i = .int .i64 k ∧ Keeps [] w wr) (fun i _ => K - (intOf i).toNat)
 case atStart => exact ⟨0, Nat.zero_le _, rfl, Keeps.refl _ _⟩
 case round =>
  obtain ⟨k, hk, rfl, hkp⟩ := hrel
  have HKP := gI hkp
  clear hkp
  by_cases hkK : k < K
  ·have hki : (k : Int) < (K : Int) := by omega
   have hw1 : IntKind.i64.wrap ((k : Int) + 1) = (k : Int) + 1 := IntWalk.i64_in _ (by omega)
   obtain ⟨p0, p1, p2, p3⟩ := HPT.out wr HKP.out k hkK
   have HCK := gI (HC.out wr HKP.out k hkK)
   obtain ⟨pt, hpt⟩ : ∃ p, p = ps.getD k pt0 := ⟨_, rfl⟩
   rw [← hpt] at p0 p1 p2 p3 HCK
   obtain ⟨na, nc, nodes, f1, f2, f3⟩ := pt
   simp only at p0 p1 p2 p3
   have HCK2 := gI (show Calls Tryz.prog 41 #[.agg #[sv na nodes.length nc, .bool f1, .bool f2, .bool f3], .pointer (some ⟨XB, 0, none⟩)] wr fun e w' => e = .returned (.bool false) ∧ Keeps [] wr w' from HCK.out)
   simp only [sv] at p0 HCK2
   clear hpt HCK
   go_wp2_with fail
   with_reducible refine Calls.mono HCK2.out ?_
   rintro e w8 ⟨rfl, hk8⟩
   have HK8 := gI (HKP.out.trans hk8)
   clear hk8 p0 p1 p2 p3
   go_wp2
   go_roundw
   case rel => exact ⟨k + 1, by omega, by go_num, HK8.out⟩
   case measure => simp [intOf]; omega
  ·obtain rfl : k = K := by omega
   go_wp2
   rw [HQ.out]
   exact ⟨rfl, HKP.out⟩
theorem ptContains_any (w : World) (pb pc XB : Nat) (ps : List Pt) (hs : SliceAt w 96 4 (some pb) ps.length pc (ptRow ps)) (hK : ps.length ≤ 1000000)
  (hc : ∀ W, Keeps [] w W → ∀ i, i < ps.length → Calls Tryz.prog 41 #[.agg (ps.getD i pt0).row.toArray, .pointer (some ⟨XB, 0, none⟩)] W fun e w' => e = .returned (.bool false) ∧ Keeps [] W w') :
  Calls Tryz.prog 40 #[.slice (some ⟨pb, 0, none⟩) ps.length pc, .func (Fn.func 41) #[] #[.pointer (some ⟨XB, 0, none⟩)]] w fun e w' => e = .returned (.bool false) ∧ Keeps [] w w' := by
 obtain ⟨Q, hQ⟩ : ∃ Q : Ending → World → Prop, Q = fun e w' => e = .returned (.bool false) ∧ Keeps [] w w' := ⟨_, rfl⟩
 rw [← hQ]
 have HQ := gI hQ
 have HC := gI (ptIndex_any w pb pc XB ps hs hK hc)
 obtain ⟨K, hKK⟩ : ∃ K, K = ps.length := ⟨_, rfl⟩
 rw [← hKK] at HC ⊢
 clear hQ hs hc hK hKK
 go_enter Tryz.func40, Tryz.ntmps40
 go_wp2_with fail
 with_reducible refine Calls.mono HC.out ?_
 rintro e w8 ⟨rfl, hk8⟩
 have HK8 := gI hk8
 clear hk8
 go_wp2
 rw [HQ.out]
 exact ⟨rfl, HK8.out⟩
end Go.Proofs.YtkekenaamnhbhaaGreat
