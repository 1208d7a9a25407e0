/- Part 40 of the proof. No condition: every lemma says its own. -/
import Derived.Test.YtkekenaamnhbhaaGreatZsbf
import Derived.Test.YtkekenaamnhbhaaGreatZsbm
namespace Go.Proofs.YtkekenaamnhbhaaGreat
open Go.RowKit Go.Sort Go.BigFrame
set_option maxRecDepth 100000
set_option maxHeartbeats 16000000
theorem sizePP : (Tryz.prog.info? 83).map (·.size) = some 3 := by kernel_rfl
theorem flatI_get : ∀ (l : List Ins) (i : Nat) (hi : i < l.length) (j : Nat) (_ : j < 5), (flatI l)[i * 5 + j]? = (rowI l[i])[j]?
 | x :: l, 0, _, j, hj => by
  show (rowI x ++ flatI l)[0 * 5 + j]? = _
  rw [show 0 * 5 + j = j by omega, List.getElem?_append_left (by show j < 5; exact hj)]
  rfl
 | x :: l, i + 1, hi, j, hj => by
  show (rowI x ++ flatI l)[(i + 1) * 5 + j]? = _
  rw [List.getElem?_append_right (by show 5 ≤ _; omega)]
  have := flatI_get l i (by simpa using hi) j hj
  rw [show (i + 1) * 5 + j - (rowI x).length = i * 5 + j by show _ - 5 = _; omega, this]
  rfl
theorem insIn_slP {w : World} {a : Option Nat} {c : Nat} {l : List Ins} (h : SliceAt w 112 5 a l.length c (flatI l)) : InsIn w (a.map fun g => ⟨g, 0, none⟩) l := fun h0 => by
 cases a with
 | none => have := h.2.1; omega
 | some g =>
  refine ⟨g, 0, rfl, fun i hi => ?_⟩
  have hf := flatI_length l
  have e : ∀ j v, j < 5 → (rowI l[i])[j]? = some v → w.cell? ⟨g, 0 + i * 5 + j, none⟩ = some v := fun j v hj hv => by
   have h1 := flatI_get l i hi j hj
   rw [hv] at h1
   obtain ⟨h2, h3⟩ := List.getElem?_eq_some_iff.1 h1
   rw [Nat.zero_add, h.cell _ h2, h3]
  exact ⟨e 0 _ (by omega) rfl, e 1 _ (by omega) rfl, e 2 _ (by omega) rfl, e 3 _ (by omega) rfl, e 4 _ (by omega) rfl⟩
def CompP (w : World) (t : Tree) (e : Ending) (w' : World) : Prop := ∃ p : Pg, e = .returned (.tuple #[p.val, .int .i64 0]) ∧ PgIn w' p ∧ p.caps = 0 ∧ p.runes = false ∧ p.ins.map insS = codeP 0 t ++ [⟨0, 0, 0, 0, []⟩] ∧ Keeps [] w w'
mutual
theorem codeP_sp : ∀ (t : Tree) (p : Nat), ∀ s ∈ codeP p t, s.sp.length ≤ t.bulk
 | .node op set kids mn mx mode n neg, p, s, hs => by
  simp only [codeP] at hs
  simp only [Tree.bulk]
  split at hs
  ·simp at hs; subst hs; simp only; omega
  ·split at hs
   ·have := codesP_sp kids p s hs; omega
   ·split at hs
    ·simp only [List.mem_cons, List.mem_append, List.not_mem_nil, or_false] at hs
     rcases hs with rfl | hs | rfl
     ·simp
     ·have := codesP_sp kids _ s hs; omega
     ·simp
    ·cases hs
theorem codesP_sp : ∀ (l : List Tree) (p : Nat), ∀ s ∈ codesP p l, s.sp.length ≤ Tree.bulks l
 | [], p, s, hs => by cases hs
 | t :: r, p, s, hs => by
  simp only [codesP] at hs
  simp only [Tree.bulks]
  rcases List.mem_append.1 hs with h | h
  ·have := codeP_sp t p s h; omega
  ·have := codesP_sp r _ s h; omega
end
theorem pgIn_of {w w7 : World} {new : List Ins} {a : Option Nat} {g c' : Nat} (hsp : ∀ i ∈ new, SpIn w i.sa i.sp ∧ ∀ y, i.sa = some y → a ≠ some y.block) (k : Keeps a.toList w w7) (hs : SliceAt w7 112 5 (some g) (new.length + 1) c' (flatI new ++ rowI insZ)) (hl : ∀ i ∈ new, i.sp.length ≤ 1000000) (hn : new.length ≤ 8000) :
  PgIn w7 ⟨some ⟨g, 0, none⟩, c', new ++ [insZ], 0, false⟩ := by
 refine ⟨?_, fun i hi => ?_, ?_⟩
 ·have h : SliceAt w7 112 5 (some g) (new ++ [insZ]).length c' (flatI (new ++ [insZ])) := by
   rw [List.length_append, List.length_singleton, flatI_append]
   have e : flatI [insZ] = rowI insZ := by simp [flatI]
   rw [e]
   exact hs
  exact insIn_slP (a := some g) h
 ·rcases List.mem_append.1 hi with hi | hi
  ·exact ⟨(hsp i hi).1.keepP k (fun y hy hm => (hsp i hi).2 y hy (by simpa using hm)), Nat.le_trans (hl i hi) (by decide)⟩
  ·simp at hi; subst hi; exact ⟨spIn_nil _ _, by decide⟩
 ·simp; omega
theorem pgIn_keepB {S : List Nat} {w w' : World} {p : Pg} (h : PgIn w p) (k : Keeps S w w') (hb : ∀ y, p.ia = some y → y.block ∉ S) (hs : ∀ i ∈ p.ins, ∀ y, i.sa = some y → y.block ∉ S) : PgIn w' p :=
 ⟨fun h0 => by obtain ⟨b, off, e, hc⟩ := h.ins h0; exact ⟨b, off, e, fun i hi => (hc i hi).keep k (hb _ e)⟩, fun i hi => ⟨(h.sp i hi).1.keepP k (hs i hi), (h.sp i hi).2⟩, h.len⟩
set_option linter.unusedSimpArgs false in
theorem compileP_any (m : MRe) (w : World) (k1 : m.OK w) (hg : AllG m) (hok : okP m.tree = true) (hs : szN m.tree ≤ 256) (hd : dpN m.tree ≤ 24) (hbk : m.tree.bulk ≤ 1000000) (hl : lenP m.tree ≤ 8000) :
  Calls Tryz.prog 37 #[patP m] w (CompP w m.tree) := by
 obtain ⟨Q, hQ⟩ : ∃ Q, Q = CompP w m.tree := ⟨_, rfl⟩
 rw [← hQ]
 have HQ := gI hQ
 obtain ⟨ii, h0, h1, h2, h3⟩ := infoEP infoPI
 have HI := gI (And.intro h0 (And.intro h1 (And.intro h2 h3)))
 obtain ⟨B, hB⟩ : ∃ B, B = w.heap.size := ⟨_, rfl⟩
 obtain ⟨Y, hY⟩ : ∃ Y, Y = w.alloc (.cells (m.row ++ [Value.int .i64 0, Value.bool false]).toArray 58) := ⟨_, rfl⟩
 have hkY : Keeps [] w Y := by rw [hY]; exact (Keeps.refl [] w).alloc _
 have hbY : Y.heap[B]? = some (.cells (m.row ++ [Value.int .i64 0, Value.bool false]).toArray 58 (0, 0)) := by rw [hY, hB]; exact heap_alloc_new w _
 obtain ⟨Z, hZ⟩ : ∃ Z, Z = Y.alloc (.cells #[.slice none 0 0, .int .i64 0, .bool false] 83) := ⟨_, rfl⟩
 have hkZ : Keeps [] Y Z := by rw [hZ]; exact (Keeps.refl [] Y).alloc _
 have hYs : Y.heap.size = B + 1 := by rw [hY, hB]; simp
 have hrw : Z.heap[B + 1]? = some (.cells #[.slice none 0 0, .int .i64 0, .bool false] 83 (0, 0)) := heap_alloc_at_P hZ _ _ hYs
 have hbZ := hkZ.heap hbY (by simp)
 have hat : At8 Z B 0 m := fun j hj => by simp [World.cell?, hbZ, List.getElem?_append_left hj]
 have hkw : Keeps [] w Z := hkY.trans hkZ
 have HVA := gI (fun W (k : Keeps [] Z W) => validP_any m W (k1.keep (hkw.trans k)) hg hs hd)
 have HCM := gI (fun W (k : Keeps [] Z W) => compilable_any m B 0 W (hat.keep k) (k1.keep (hkw.trans k)) hok hbk)
 have HLE := gI (fun W (k : Keeps [] Z W) => lengthOf_any m B 0 W (hat.keep k) (k1.keep (hkw.trans k)) hok hbk hl)
 have HCO := gI (fun W (k : Keeps [] Z W) => codeOf_any m B 0 W (hat.keep k) (k1.keep (hkw.trans k)) hok hbk (by rw [codeP_length]; omega))
 have HKZ := gI hkw
 have HRW := gI hrw
 have HZZ := gI (show w.heap.size = B ∧ Z.heap.size = B + 2 from ⟨hB.symm, by rw [hZ]; simp [hYs]⟩)
 have HBK := gI hbk
 have HLL := gI hl
 obtain ⟨L, hL⟩ : ∃ L, L = lenP m.tree := ⟨_, rfl⟩
 obtain ⟨tr, htr⟩ : ∃ tr, tr = m.tree := ⟨_, rfl⟩
 rw [← hL] at HLE HLL
 rw [← htr] at HCO HBK HQ
 have HTR := gI (show (codeP 0 tr).length = L from by rw [hL, htr, codeP_length])
 have hLb : L ≤ 8000 := HLL.out
 have hw1 : IntKind.i64.wrap ((L : Int) + 1) = (L : Int) + 1 := IntWalk.i64_in _ (by omega)
 have hLi : ¬ (8192 : Int) < (L : Int) + 1 := by omega
 clear hL htr
 obtain ⟨op, sa, sc, set, ka, kc, kids, mn, mx, mode, n, neg⟩ := m
 have HY := gI (show Y = w.alloc (.cells #[.int .i64 op, .slice sa set.length sc, .slice ka kids.length kc, .int .i64 mn, .int .i64 mx, .int .i64 mode, .int .i64 n, .bool neg, .int .i64 0, .bool false] 58) from hY)
 have hb2 : Z.heap[B]? = some (.cells #[.int .i64 op, .slice sa set.length sc, .slice ka kids.length kc, .int .i64 mn, .int .i64 mx, .int .i64 mode, .int .i64 n, .bool neg, .int .i64 0, .bool false] 58 (0, 0)) := hbZ
 obtain ⟨c0, c1, c2, c3, c4, c5, c6, c7, c8, c9⟩ : Z.cell? ⟨B, 0, none⟩ = some (.int .i64 op) ∧ Z.cell? ⟨B, 1, none⟩ = some (.slice sa set.length sc) ∧ Z.cell? ⟨B, 2, none⟩ = some (.slice ka kids.length kc) ∧ Z.cell? ⟨B, 3, none⟩ = some (.int .i64 mn) ∧ Z.cell? ⟨B, 4, none⟩ = some (.int .i64 mx) ∧ Z.cell? ⟨B, 5, none⟩ = some (.int .i64 mode) ∧ Z.cell? ⟨B, 6, none⟩ = some (.int .i64 n) ∧ Z.cell? ⟨B, 7, none⟩ = some (.bool neg) ∧ Z.cell? ⟨B, 8, none⟩ = some (.int .i64 0) ∧ Z.cell? ⟨B, 9, none⟩ = some (.bool false) := by simp [World.cell?, hb2]
 have HC8 := gI (And.intro c8 c9)
 have HZ := gI hZ
 have HB := gI hB
 clear hQ h0 h1 h2 h3 hB hY hkY hbY hZ hkZ hYs hrw hbZ hat hkw k1 hg hok hs hd hbk hl hb2 c8 c9
 simp only [patP, MRe.row, List.cons_append, List.nil_append] at HVA ⊢
 show Calls Tryz.prog 37 #[.agg #[.int .i64 op, .slice sa set.length sc, .slice ka kids.length kc, .int .i64 mn, .int .i64 mx, .int .i64 mode, .int .i64 n, .bool neg, .int .i64 0, .bool false]] w _
 go_enter Tryz.func37, Tryz.ntmps37
 go_upto_region 1 with fail
 rw [← HY.out, ← HB.out]
 rw [← HZ.out]
 obtain ⟨c8, c9⟩ := HC8.out
 go_wp2_with fail
 with_reducible refine Calls.mono (HVA.out Z (Keeps.refl _ _)) ?_
 rintro e w1 ⟨rfl, hk1⟩
 have HK1 := gI hk1
 clear hk1 c0 c1 c2 c3 c4 c5 c6 c7 c8 c9
 go_wp2_with fail
 with_reducible refine Calls.mono (HCM.out w1 HK1.out) ?_
 rintro e w2 ⟨rfl, hk2⟩
 have HK2 := gI (HK1.out.trans hk2)
 clear hk2
 go_wp2_with fail
 with_reducible refine Calls.mono (HLE.out w2 HK2.out) ?_
 rintro e w3 ⟨rfl, hk3⟩
 have HK3 := gI (HK2.out.trans hk3)
 clear hk3
 have c8 := HK3.out.cell HC8.out.1 (by simp)
 have c9 := HK3.out.cell HC8.out.2 (by simp)
 go_upto_region 8 with fail
 refine wp_region_held_drew (S := fun W => W.cell? ⟨B, 8, none⟩ = some (.int .i64 0) ∧ W.cell? ⟨B, 9, none⟩ = some (.bool false)) (by kernel_rfl) ⟨c8, c9⟩ (fun hHeld => ?_)
 clear c8 c9
 refine take_on (i := 0) (v := ?_) rfl (by kernel_rfl) (by kernel_rfl) (by kernel_rfl) (fun _ _ _ h => h) (by rfl) (by assumption) ?_ ?_
 rotate_left
 ·((intro w hSw; (try dsimp only at hSw); go_simp <;> with_reducible rfl); done)
 try simp only [Act.put, List.setIfInBounds_toArray, List.set_cons_zero, List.set_cons_succ]
 refine take_on (i := 2) (v := ?_) rfl (by kernel_rfl) (by kernel_rfl) (by kernel_rfl) (fun _ _ _ h => h) (by rfl) (by assumption) ?_ ?_
 rotate_left
 ·((intro w hSw; (try dsimp only at hSw); go_simp <;> with_reducible rfl); done)
 try simp only [Act.put, List.setIfInBounds_toArray, List.set_cons_zero, List.set_cons_succ]
 refine take_on (i := 5) (v := ?_) rfl (by kernel_rfl) (by kernel_rfl) (by kernel_rfl) (fun _ _ _ h => h) (by rfl) (by assumption) ?_ ?_
 rotate_left
 ·((intro w hSw; (try dsimp only at hSw); go_simp <;> with_reducible rfl); done)
 try simp only [Act.put, List.setIfInBounds_toArray, List.set_cons_zero, List.set_cons_succ]
 refine take_on (i := 6) (v := ?_) rfl (by kernel_rfl) (by kernel_rfl) (by kernel_rfl) (fun _ _ _ h => h) (by rfl) (by assumption) ?_ ?_
 rotate_left
 ·((intro w hSw; (try dsimp only at hSw); go_simp <;> with_reducible rfl); done)
 try simp only [Act.put, List.setIfInBounds_toArray, List.set_cons_zero, List.set_cons_succ]
 refine take_on (i := 7) (v := ?_) rfl (by kernel_rfl) (by kernel_rfl) (by kernel_rfl) (fun _ _ _ h => h) (by rfl) (by assumption) ?_ ?_
 rotate_left
 ·((intro w hSw; (try dsimp only at hSw); go_simp <;> with_reducible rfl); done)
 try simp only [Act.put, List.setIfInBounds_toArray, List.set_cons_zero, List.set_cons_succ]
 refine take_on (i := 8) (v := ?_) rfl (by kernel_rfl) (by kernel_rfl) (by kernel_rfl) (fun _ _ _ h => h) (by rfl) (by assumption) ?_ ?_
 rotate_left
 ·((intro w hSw; (try dsimp only at hSw); go_simp <;> with_reducible rfl); done)
 try simp only [Act.put, List.setIfInBounds_toArray, List.set_cons_zero, List.set_cons_succ]
 refine branch_two (i := 1) (j := 3) rfl rfl (by kernel_rfl) (by rfl) (by rfl) (fun K hK => ?_) (fun K hK => ?_)
 ·go_simp
  with_reducible refine Calls.mono (HCO.out w3.drew (HK3.out.trans (Keeps.refl [] w3).drew)) ?_
  rintro e w4 hcp
  obtain ⟨new, a, c, rfl, hnew, hsl, hsp, hkc, hna⟩ := hcp
  have hnl : new.length = L := by
   rw [← HTR.out, ← hnew, List.length_map]
  rw [hnl]
  have HNEW := gI hnew
  have HNL := gI hnl
  have HLS := gI (show ∀ i ∈ new, i.sp.length ≤ 1000000 from fun i hi => by
   have h1 : insS i ∈ codeP 0 tr := by rw [← hnew]; exact List.mem_map_of_mem hi
   have h2 := codeP_sp tr 0 _ h1
   have h3 := HBK.out
   simp only [insS] at h2
   omega)
  have hK4 : Keeps [] Z w4 := (HK3.out.trans (Keeps.refl [] w3).drew).trans hkc
  have q8 := hK4.cell HC8.out.1 (by simp)
  have q9 := hK4.cell HC8.out.2 (by simp)
  refine hK.out _ _ (⟨q8, q9⟩) (fun hHeld => ?_)
  clear hK K
  try simp only [Act.put, List.setIfInBounds_toArray, List.set_cons_zero, List.set_cons_succ]
  refine branch_one (i := 3) rfl (by kernel_rfl) (by rfl) (fun K hK => ?_)
  go_simp
  obtain ⟨gi, hgi⟩ : ∃ g, g = w4.heap.size := ⟨_, rfl⟩
  obtain ⟨wq, hwq⟩ : ∃ v, v = w4.alloc (.cells #[.int .i64 0, .int .i64 0, .int .i64 0, .int .i64 0, .slice none 0 0] 112) := ⟨_, rfl⟩
  have kq : Keeps [] w4 wq := by rw [hwq]; exact (Keeps.refl [] w4).alloc _
  have HSRC := gI (show ∀ j u, (rowI insZ)[j]? = some u → wq.cell? ((⟨gi, 0, none⟩ : Addr).add j) = some u from by rw [hwq, hgi]; exact news_row w4 (rowI insZ) _)
  have HSL := gI (show SliceAt wq 112 5 a L c (flatI new) from by rw [← hnl]; exact hsl.keep kq (by simp))
  have HSP := gI (show ∀ i ∈ new, SpIn wq i.sa i.sp ∧ ∀ y, i.sa = some y → a ≠ some y.block from fun i hi => ⟨(hsp i hi).1.keep kq, fun y hy => ((hsp i hi).2 y hy).2.1⟩)
  have HKA := gI (hK4.trans kq)
  have hz3 := HK3.out.size
  have HNA := gI (show ∀ q, a = some q → Z.heap.size ≤ q from fun q hq => Nat.le_trans hz3 (hna q hq))
  have HSB := gI (show ∀ i ∈ new, ∀ y, i.sa = some y → y.block ≠ B + 1 from fun i hi y hy => by
   have h1 := ((hsp i hi).2 y hy).1
   have h2 : w3.drew.heap.size = w3.heap.size := rfl
   have h3 := HZZ.out
   omega)
  rw [← hwq, ← hgi]
  have r8 := kq.cell q8 (by simp)
  have r9 := kq.cell q9 (by simp)
  clear hnew hnl hsl hsp hkc hna hK4 hgi hwq kq hz3 q8 q9
  refine hK.out _ _ (⟨r8, r9⟩) (fun hHeld => ?_)
  clear hK K
  try simp only [Act.put, List.setIfInBounds_toArray, List.set_cons_zero, List.set_cons_succ]
  clear r8 r9
  refine branch_one (i := 4) rfl (by kernel_rfl) (by rfl) (fun K hK => ?_)
  refine wp_append_sl (.tmp 21) (.tmp 23) 81 rfl 112 ii _ 5 56 Tryz.underlying81 HI.out.1 HI.out.2.1 HI.out.2.2.1 HI.out.2.2.2 rfl (by decide) a L c (flatI new) rfl HSL.out ⟨gi, 0, none⟩ 1 1 (rowI insZ) rfl rfl HSRC.out (rowI_one insZ) (by decide) (by have := HNL.out; omega) (by have := HNL.out; omega) ?_
  intro g9 d9 w9 hs9 hk9 hg9
  have HS9 := gI hs9
  have HK9 := gI (show Keeps [] Z w9 from HKA.out.after hk9 (fun q hq => .inr (HNA.out q (by simpa using hq))))
  have hpg := pgIn_of HSP.out hk9 (by rw [HNL.out]; exact hs9) HLS.out (by have := HNL.out; omega)
  have hg9b : g9 ≠ B + 1 := by
   have h1 := HZZ.out
   rcases hg9 with h | h
   ·have := HNA.out g9 h; omega
   ·have := HKA.out.size; omega
  have HGB := gI hg9b
  have HPS := gI (show ∀ i ∈ new, ∀ y, i.sa = some y → y.block ≠ B + 1 from fun i hi y hy => HSB.out i hi y hy)
  have q8 := HK9.out.cell HC8.out.1 (by simp)
  have q9 := HK9.out.cell HC8.out.2 (by simp)
  have hrw := HK9.out.heap HRW.out (by simp)
  have z0 : w9.cell? ⟨B + 1, 0, none⟩ = some (.slice none 0 0) := by simp [World.cell?, hrw]
  have z1 : w9.cell? ⟨B + 1, 1, none⟩ = some (.int .i64 0) := by simp [World.cell?, hrw]
  have z2 : w9.cell? ⟨B + 1, 2, none⟩ = some (.bool false) := by simp [World.cell?, hrw]
  have zf : ∀ i, w9.frozen? ⟨B + 1, i, none⟩ = false := fun i => by simp [World.frozen?, hrw]
  have zf0 := zf 0
  have zf1 := zf 1
  have zf2 := zf 2
  obtain ⟨V, hV⟩ : ∃ V, V = ((w9.setCell ⟨B + 1, 0, none⟩ (.slice (some ⟨g9, 0, none⟩) (L + 1) d9)).setCell ⟨B + 1, 1, none⟩ (.int .i64 0)).setCell ⟨B + 1, 2, none⟩ (.bool false) := ⟨_, rfl⟩
  have k0 := heap_setCell_same w9 (B + 1) 0 _ _ (.slice (some ⟨g9, 0, none⟩) (L + 1) d9) hrw
  have k1 := heap_setCell_same _ (B + 1) 1 _ _ (.int .i64 0) k0
  have k2 := heap_setCell_same _ (B + 1) 2 _ _ (.bool false) k1
  rw [← hV] at k2
  have hkV : Keeps [B + 1] w9 V := by rw [hV]; exact (((Keeps.refl [B + 1] w9).setCell (by simp) _).setCell (by simp) _).setCell (by simp) _
  have HPV := gI (show PgIn V ⟨some ⟨g9, 0, none⟩, d9, new ++ [insZ], 0, false⟩ from pgIn_keepB hpg hkV (by simpa using hg9b) (fun i hi y hy => by
   rcases List.mem_append.1 hi with h | h
   ·simpa using HPS.out i h y hy
   ·simp at h; subst h; cases hy))
  have HRV := gI (show V.heap[B + 1]? = some (.cells #[.slice (some ⟨g9, 0, none⟩) (L + 1) d9, .int .i64 0, .bool false] 83 (0, 0)) from by rw [k2]; simp)
  have HV := gI hV
  have HKV := gI hkV
  have v8 := hkV.cell q8 (by simp)
  have v9 := hkV.cell q9 (by simp)
  clear hs9 hk9 hg9 hpg hg9b hrw zf k0 k1 k2 hV hkV
  refine hK.out _ _ (⟨q8, q9⟩) (fun hHeld => ?_)
  clear hK K
  try simp only [Act.put, List.setIfInBounds_toArray, List.set_cons_zero, List.set_cons_succ]
  refine take_on (i := 9) (v := ?_) rfl (by kernel_rfl) (by kernel_rfl) (by kernel_rfl) (fun _ _ _ h => h) (by rfl) (by assumption) ?_ ?_
  rotate_left
  ·((intro w hSw; (try dsimp only at hSw); go_simp <;> with_reducible rfl); done)
  try simp only [Act.put, List.setIfInBounds_toArray, List.set_cons_zero, List.set_cons_succ]
  refine branch_one (i := 10) rfl (by kernel_rfl) (by rfl) (fun K hK => ?_)
  go_simp
  rw [← HV.out]
  refine hK.out _ _ (⟨v8, v9⟩) (fun hHeld => ?_)
  clear hK K
  try simp only [Act.put, List.setIfInBounds_toArray, List.set_cons_zero, List.set_cons_succ]
  refine take_on (i := 11) (v := ?_) rfl (by kernel_rfl) (by kernel_rfl) (by kernel_rfl) (fun _ _ _ h => h) (by rfl) (by assumption) ?_ ?_
  rotate_left
  ·((intro w hSw; (try dsimp only at hSw); go_simp <;> with_reducible rfl); done)
  try simp only [Act.put, List.setIfInBounds_toArray, List.set_cons_zero, List.set_cons_succ]
  refine wpAnyH_done (by kernel_rfl) ?_ _
  clear hHeld z0 z1 z2 zf0 zf1 zf2 q8 q9 v8 v9
  go_wp2
  refine bodyPost_ret (res_row_tmp rfl _ _ (B + 1) 83 #[.slice (some ⟨g9, 0, none⟩) (L + 1) d9, .int .i64 0, .bool false] (0, 0) _ rfl HRV.out Tryz.underlying83 rfl sizePP) rfl ?_
  rw [HQ.out]
  have hz := HZZ.out
  refine ⟨⟨some ⟨g9, 0, none⟩, d9, new ++ [insZ], 0, false⟩, ?_, ?_, rfl, rfl, by rw [List.map_append, HNEW.out]; rfl, (HKZ.out.trans HK9.out).after HKV.out (fun q hq => .inr (by simp at hq; omega))⟩
  ·simp [Pg.val, HNL.out]
  ·exact HPV.out
 ·go_simp
  obtain ⟨gi, hgi⟩ : ∃ g, g = w3.heap.size := ⟨_, rfl⟩
  obtain ⟨wp, hwp⟩ : ∃ v, v = (w3.alloc (.cells #[.int .i64 0, .int .i64 0, .int .i64 0, .int .i64 0, .slice none 0 0] 112)).drew := ⟨_, rfl⟩
  have kp : Keeps [] w3 wp := by rw [hwp]; exact ((Keeps.refl [] w3).alloc _).drew
  have hsrc : ∀ j u, (rowI insZ)[j]? = some u → wp.cell? ((⟨gi, 0, none⟩ : Addr).add j) = some u := by rw [hwp, hgi]; exact news_row w3 (rowI insZ) _
  have HKP := gI (HK3.out.trans kp)
  have HSR0 := gI hsrc
  rw [← hwp, ← hgi]
  have q8 := HKP.out.cell HC8.out.1 (by simp)
  have q9 := HKP.out.cell HC8.out.2 (by simp)
  clear hgi hwp kp hsrc
  refine hK.out _ _ (⟨q8, q9⟩) (fun hHeld => ?_)
  clear hK K
  try simp only [Act.put, List.setIfInBounds_toArray, List.set_cons_zero, List.set_cons_succ]
  refine branch_one (i := 1) rfl (by kernel_rfl) (by rfl) (fun K hK => ?_)
  go_simp
  with_reducible refine Calls.mono (HCO.out wp HKP.out) ?_
  rintro e wq hcp
  obtain ⟨new, a, c, rfl, hnew, hsl, hsp, hkc, hna⟩ := hcp
  have hnl : new.length = L := by
   rw [← HTR.out, ← hnew, List.length_map]
  rw [hnl]
  have HNEW := gI hnew
  have HNL := gI hnl
  have HLS := gI (show ∀ i ∈ new, i.sp.length ≤ 1000000 from fun i hi => by
   have h1 : insS i ∈ codeP 0 tr := by rw [← hnew]; exact List.mem_map_of_mem hi
   have h2 := codeP_sp tr 0 _ h1
   have h3 := HBK.out
   simp only [insS] at h2
   omega)
  have HSRC := gI (show ∀ j u, (rowI insZ)[j]? = some u → wq.cell? ((⟨gi, 0, none⟩ : Addr).add j) = some u from fun j u hj => hkc.cell (HSR0.out j u hj) (by simp))
  have HSL := gI (show SliceAt wq 112 5 a L c (flatI new) from by rw [← hnl]; exact hsl)
  have HSP := gI (show ∀ i ∈ new, SpIn wq i.sa i.sp ∧ ∀ y, i.sa = some y → a ≠ some y.block from fun i hi => ⟨(hsp i hi).1, fun y hy => ((hsp i hi).2 y hy).2.1⟩)
  have HKA := gI (HKP.out.trans hkc)
  have hz3 := HKP.out.size
  have HNA := gI (show ∀ q, a = some q → Z.heap.size ≤ q from fun q hq => Nat.le_trans hz3 (hna q hq))
  have HSB := gI (show ∀ i ∈ new, ∀ y, i.sa = some y → y.block ≠ B + 1 from fun i hi y hy => by
   have h1 := ((hsp i hi).2 y hy).1
   have h3 := HZZ.out
   omega)
  have r8 := hkc.cell q8 (by simp)
  have r9 := hkc.cell q9 (by simp)
  clear hnew hnl hsl hsp hkc hna hz3 q8 q9
  refine hK.out _ _ (⟨r8, r9⟩) (fun hHeld => ?_)
  clear hK K
  try simp only [Act.put, List.setIfInBounds_toArray, List.set_cons_zero, List.set_cons_succ]
  clear r8 r9
  refine branch_one (i := 4) rfl (by kernel_rfl) (by rfl) (fun K hK => ?_)
  refine wp_append_sl (.tmp 21) (.tmp 23) 81 rfl 112 ii _ 5 56 Tryz.underlying81 HI.out.1 HI.out.2.1 HI.out.2.2.1 HI.out.2.2.2 rfl (by decide) a L c (flatI new) rfl HSL.out ⟨gi, 0, none⟩ 1 1 (rowI insZ) rfl rfl HSRC.out (rowI_one insZ) (by decide) (by have := HNL.out; omega) (by have := HNL.out; omega) ?_
  intro g9 d9 w9 hs9 hk9 hg9
  have HS9 := gI hs9
  have HK9 := gI (show Keeps [] Z w9 from HKA.out.after hk9 (fun q hq => .inr (HNA.out q (by simpa using hq))))
  have hpg := pgIn_of HSP.out hk9 (by rw [HNL.out]; exact hs9) HLS.out (by have := HNL.out; omega)
  have hg9b : g9 ≠ B + 1 := by
   have h1 := HZZ.out
   rcases hg9 with h | h
   ·have := HNA.out g9 h; omega
   ·have := HKA.out.size; omega
  have HGB := gI hg9b
  have HPS := gI (show ∀ i ∈ new, ∀ y, i.sa = some y → y.block ≠ B + 1 from fun i hi y hy => HSB.out i hi y hy)
  have q8 := HK9.out.cell HC8.out.1 (by simp)
  have q9 := HK9.out.cell HC8.out.2 (by simp)
  have hrw := HK9.out.heap HRW.out (by simp)
  have z0 : w9.cell? ⟨B + 1, 0, none⟩ = some (.slice none 0 0) := by simp [World.cell?, hrw]
  have z1 : w9.cell? ⟨B + 1, 1, none⟩ = some (.int .i64 0) := by simp [World.cell?, hrw]
  have z2 : w9.cell? ⟨B + 1, 2, none⟩ = some (.bool false) := by simp [World.cell?, hrw]
  have zf : ∀ i, w9.frozen? ⟨B + 1, i, none⟩ = false := fun i => by simp [World.frozen?, hrw]
  have zf0 := zf 0
  have zf1 := zf 1
  have zf2 := zf 2
  obtain ⟨V, hV⟩ : ∃ V, V = ((w9.setCell ⟨B + 1, 0, none⟩ (.slice (some ⟨g9, 0, none⟩) (L + 1) d9)).setCell ⟨B + 1, 1, none⟩ (.int .i64 0)).setCell ⟨B + 1, 2, none⟩ (.bool false) := ⟨_, rfl⟩
  have k0 := heap_setCell_same w9 (B + 1) 0 _ _ (.slice (some ⟨g9, 0, none⟩) (L + 1) d9) hrw
  have k1 := heap_setCell_same _ (B + 1) 1 _ _ (.int .i64 0) k0
  have k2 := heap_setCell_same _ (B + 1) 2 _ _ (.bool false) k1
  rw [← hV] at k2
  have hkV : Keeps [B + 1] w9 V := by rw [hV]; exact (((Keeps.refl [B + 1] w9).setCell (by simp) _).setCell (by simp) _).setCell (by simp) _
  have HPV := gI (show PgIn V ⟨some ⟨g9, 0, none⟩, d9, new ++ [insZ], 0, false⟩ from pgIn_keepB hpg hkV (by simpa using hg9b) (fun i hi y hy => by
   rcases List.mem_append.1 hi with h | h
   ·simpa using HPS.out i h y hy
   ·simp at h; subst h; cases hy))
  have HRV := gI (show V.heap[B + 1]? = some (.cells #[.slice (some ⟨g9, 0, none⟩) (L + 1) d9, .int .i64 0, .bool false] 83 (0, 0)) from by rw [k2]; simp)
  have HV := gI hV
  have HKV := gI hkV
  have v8 := hkV.cell q8 (by simp)
  have v9 := hkV.cell q9 (by simp)
  clear hs9 hk9 hg9 hpg hg9b hrw zf k0 k1 k2 hV hkV
  refine hK.out _ _ (⟨q8, q9⟩) (fun hHeld => ?_)
  clear hK K
  try simp only [Act.put, List.setIfInBounds_toArray, List.set_cons_zero, List.set_cons_succ]
  refine take_on (i := 9) (v := ?_) rfl (by kernel_rfl) (by kernel_rfl) (by kernel_rfl) (fun _ _ _ h => h) (by rfl) (by assumption) ?_ ?_
  rotate_left
  ·((intro w hSw; (try dsimp only at hSw); go_simp <;> with_reducible rfl); done)
  try simp only [Act.put, List.setIfInBounds_toArray, List.set_cons_zero, List.set_cons_succ]
  refine branch_one (i := 10) rfl (by kernel_rfl) (by rfl) (fun K hK => ?_)
  go_simp
  rw [← HV.out]
  refine hK.out _ _ (⟨v8, v9⟩) (fun hHeld => ?_)
  clear hK K
  try simp only [Act.put, List.setIfInBounds_toArray, List.set_cons_zero, List.set_cons_succ]
  refine take_on (i := 11) (v := ?_) rfl (by kernel_rfl) (by kernel_rfl) (by kernel_rfl) (fun _ _ _ h => h) (by rfl) (by assumption) ?_ ?_
  rotate_left
  ·((intro w hSw; (try dsimp only at hSw); go_simp <;> with_reducible rfl); done)
  try simp only [Act.put, List.setIfInBounds_toArray, List.set_cons_zero, List.set_cons_succ]
  refine wpAnyH_done (by kernel_rfl) ?_ _
  clear hHeld z0 z1 z2 zf0 zf1 zf2 q8 q9 v8 v9
  go_wp2
  refine bodyPost_ret (res_row_tmp rfl _ _ (B + 1) 83 #[.slice (some ⟨g9, 0, none⟩) (L + 1) d9, .int .i64 0, .bool false] (0, 0) _ rfl HRV.out Tryz.underlying83 rfl sizePP) rfl ?_
  rw [HQ.out]
  have hz := HZZ.out
  refine ⟨⟨some ⟨g9, 0, none⟩, d9, new ++ [insZ], 0, false⟩, ?_, ?_, rfl, rfl, by rw [List.map_append, HNEW.out]; rfl, (HKZ.out.trans HK9.out).after HKV.out (fun q hq => .inr (by simp at hq; omega))⟩
  ·simp [Pg.val, HNL.out]
  ·exact HPV.out
end Go.Proofs.YtkekenaamnhbhaaGreat
