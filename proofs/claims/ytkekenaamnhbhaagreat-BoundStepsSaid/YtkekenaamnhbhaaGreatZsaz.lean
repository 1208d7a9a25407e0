/- Part 26 of the proof. No condition: every lemma says its own. -/
import Derived.Test.YtkekenaamnhbhaaGreatZsad
import Derived.Test.YtkekenaamnhbhaaGreatZsag
namespace Go.Proofs.YtkekenaamnhbhaaGreat
open Go.RowKit Go.Sort Go.BigFrame
set_option maxRecDepth 100000
set_option maxHeartbeats 16000000
structure Ins where
 op : Int
 x : Int
 y : Int
 n : Int
 sa : Option Addr
 sc : Nat
 sp : List (Int × Int)
structure Pg where
 ia : Option Addr
 ic : Nat
 ins : List Ins
 caps : Int
 runes : Bool
def Pg.val (p : Pg) : Value := .agg #[.slice p.ia p.ins.length p.ic, .int .i64 p.caps, .bool p.runes]
def Pg.row (p : Pg) : List Value := [.slice p.ia p.ins.length p.ic, .int .i64 p.caps, .bool p.runes]
def InsAt (w : World) (b o : Nat) (i : Ins) : Prop := w.cell? ⟨b, o, none⟩ = some (.int .i64 i.op) ∧ w.cell? ⟨b, o + 1, none⟩ = some (.int .i64 i.x) ∧ w.cell? ⟨b, o + 2, none⟩ = some (.int .i64 i.y) ∧ w.cell? ⟨b, o + 3, none⟩ = some (.int .i64 i.n) ∧ w.cell? ⟨b, o + 4, none⟩ = some (.slice i.sa i.sp.length i.sc)
def InsIn (w : World) (a : Option Addr) (l : List Ins) : Prop := 0 < l.length → ∃ b off, a = some ⟨b, off, none⟩ ∧ ∀ i (h : i < l.length), InsAt w b (off + i * 5) l[i]
structure PgIn (w : World) (p : Pg) : Prop where
 ins : InsIn w p.ia p.ins
 sp : ∀ i ∈ p.ins, SpIn w i.sa i.sp ∧ i.sp.length ≤ 1000000000000
 len : p.ins.length ≤ 8192
theorem InsAt.keep {S : List Nat} {w w' : World} {b o : Nat} {i : Ins} (h : InsAt w b o i) (k : Keeps S w w') (hb : b ∉ S) : InsAt w' b o i := ⟨k.cell h.1 hb, k.cell h.2.1 hb, k.cell h.2.2.1 hb, k.cell h.2.2.2.1 hb, k.cell h.2.2.2.2 hb⟩
theorem PgIn.keep {w w' : World} {p : Pg} (h : PgIn w p) (k : Keeps [] w w') : PgIn w' p :=
 ⟨fun h0 => by obtain ⟨b, off, e, hc⟩ := h.ins h0; exact ⟨b, off, e, fun i hi => (hc i hi).keep k (by simp)⟩, fun i hi => ⟨(h.sp i hi).1.keep k, (h.sp i hi).2⟩, h.len⟩
def InOK (m : Nat) (caps : Int) (runes : Bool) (i : Ins) : Prop :=
 (i.op = 0 ∧ i.x = 0 ∧ i.y = 0 ∧ i.n = 0 ∧ i.sp = []) ∨ (i.op = 1 ∧ i.x = 0 ∧ i.y = 0 ∧ i.n = 0 ∧ setE i.sp = 0 ∧ (runes = true ∨ ∀ s ∈ i.sp, s.2 ≤ 255)) ∨
 (i.op = 2 ∧ (0 ≤ i.x ∧ i.x < m) ∧ (0 ≤ i.y ∧ i.y < m) ∧ i.n = 0 ∧ i.sp = []) ∨ (i.op = 3 ∧ (0 ≤ i.x ∧ i.x < m) ∧ i.y = 0 ∧ i.n = 0 ∧ i.sp = []) ∨
 (i.op = 4 ∧ i.x = 0 ∧ i.y = 0 ∧ (0 ≤ i.n ∧ i.n ≤ 2 * caps - 1) ∧ i.sp = []) ∨ (i.op = 5 ∧ i.x = 0 ∧ i.y = 0 ∧ (0 ≤ i.n ∧ i.n ≤ 5) ∧ i.sp = [])
set_option linter.unusedSimpArgs false in
theorem target_any (ia : Option Addr) (ic m pb : Nat) (v : Int) (w : World) (h : w.cell? ⟨pb, 0, none⟩ = some (.slice ia m ic)) (h0 : 0 ≤ v) (h1 : v < m) :
  Calls Tryz.prog 107 #[.int .i64 v, .pointer (some ⟨pb, 0, none⟩)] w fun e w' => e = .returned (.bool true) ∧ w = w' := by
 go_enter Tryz.func107, Tryz.ntmps107
 go_wp2
 go_ret
 exact ⟨by simp, rfl⟩
set_option linter.unusedSimpArgs false in
theorem pvalid0_any (ia : Option Addr) (ic m : Nat) (caps : Int) (runes : Bool) (b o : Nat) (w : World) (x y n : Int) (sa : Option Addr) (sc : Nat) (sp : List (Int × Int)) (hi : InsAt w b o ⟨0, x, y, n, sa, sc, sp⟩) (hx : x = 0) (hy : y = 0) (hn : n = 0) (hs : sp = []) :
  Calls Tryz.prog 84 #[.agg #[.slice ia m ic, .int .i64 caps, .bool runes], .pointer (some ⟨b, o, none⟩)] w fun e w' => e = .returned (.bool true) ∧ Keeps [] w w' := by
 obtain ⟨B, hB⟩ : ∃ B, B = w.heap.size := ⟨_, rfl⟩
 obtain ⟨Y, hY⟩ : ∃ Y, Y = (w.alloc (.cells #[.slice ia m ic, .int .i64 caps, .bool runes] 83)).alloc (.cells #[.int .i64 0, .int .i64 0, .int .i64 0] 182) := ⟨_, rfl⟩
 have hkY : Keeps [] w Y := by rw [hY]; exact (Keeps.a1 w _).alloc _
 have hP : Y.heap[B]? = some (.cells #[.slice ia m ic, .int .i64 caps, .bool runes] 83 (0, 0)) := by rw [hY, hB]; exact (Keeps.a1 _ _).heap (heap_alloc_new w _) (by simp)
 have hU : Y.heap[B + 1]? = some (.cells #[.int .i64 0, .int .i64 0, .int .i64 0] 182 (0, 0)) := by rw [hY, hB]; exact heap_alloc2_new w _ _
 have p0 : Y.cell? ⟨B, 0, none⟩ = some (.slice ia m ic) := by simp [World.cell?, hP]
 have p1 : Y.cell? ⟨B, 1, none⟩ = some (.int .i64 caps) := by simp [World.cell?, hP]
 have p2 : Y.cell? ⟨B, 2, none⟩ = some (.bool runes) := by simp [World.cell?, hP]
 have u0 : Y.cell? ⟨B + 1, 0, none⟩ = some (.int .i64 0) := by simp [World.cell?, hU]
 have u1 : Y.cell? ⟨B + 1, 1, none⟩ = some (.int .i64 0) := by simp [World.cell?, hU]
 have u2 : Y.cell? ⟨B + 1, 2, none⟩ = some (.int .i64 0) := by simp [World.cell?, hU]
 have f0 : Y.frozen? ⟨B + 1, 0, none⟩ = false := by simp [World.frozen?, hU]
 have f1 : Y.frozen? ⟨B + 1, 1, none⟩ = false := by simp [World.frozen?, hU]
 have f2 : Y.frozen? ⟨B + 1, 2, none⟩ = false := by simp [World.frozen?, hU]
 obtain ⟨c0, c1, c2, c3, c4⟩ := hi.keep hkY (by simp)
 have hbb : b < w.heap.size := World.block_lt_of_cell? _ _ hi.1
 have hbB : b ≠ B + 1 := by omega
 have hbB2 : ¬ b = B + 1 := hbB
 have hbB3 : ¬ B + 1 = b := fun e => hbB e.symm
 simp only at c0 c1 c2 c3 c4
 have HY := gI hY
 have HB := gI hB
 have HK := gI hkY
 have HTG := gI (fun (v : Int) (h0 : 0 ≤ v) (h1 : v < m) W (k : Keeps [] Y W) => target_any ia ic m B v W (k.cell p0 (by simp)) h0 h1)
 have HU := gI hU
 clear hU hP hB hi hbb
 subst hx hy hn hs
 simp only [List.length_nil] at c4
 clear hY hkY
 go_enter Tryz.func84, Tryz.ntmps84
 go_upto_region 4 with fail
 rw [← HY.out, ← HB.out]
 go_upto_region 24 with fail
 go_quiet (fail)
 go_wp2
 go_ret
 exact ⟨by simp, HK.out.drewN _⟩
set_option linter.unusedSimpArgs false in
theorem pvalid3_any (ia : Option Addr) (ic m : Nat) (caps : Int) (runes : Bool) (b o : Nat) (w : World) (x y n : Int) (sa : Option Addr) (sc : Nat) (sp : List (Int × Int)) (hi : InsAt w b o ⟨3, x, y, n, sa, sc, sp⟩) (hx : 0 ≤ x ∧ x < m) (hy : y = 0) (hn : n = 0) (hs : sp = []) :
  Calls Tryz.prog 84 #[.agg #[.slice ia m ic, .int .i64 caps, .bool runes], .pointer (some ⟨b, o, none⟩)] w fun e w' => e = .returned (.bool true) ∧ Keeps [] w w' := by
 obtain ⟨B, hB⟩ : ∃ B, B = w.heap.size := ⟨_, rfl⟩
 obtain ⟨Y, hY⟩ : ∃ Y, Y = (w.alloc (.cells #[.slice ia m ic, .int .i64 caps, .bool runes] 83)).alloc (.cells #[.int .i64 0, .int .i64 0, .int .i64 0] 182) := ⟨_, rfl⟩
 have hkY : Keeps [] w Y := by rw [hY]; exact (Keeps.a1 w _).alloc _
 have hP : Y.heap[B]? = some (.cells #[.slice ia m ic, .int .i64 caps, .bool runes] 83 (0, 0)) := by rw [hY, hB]; exact (Keeps.a1 _ _).heap (heap_alloc_new w _) (by simp)
 have hU : Y.heap[B + 1]? = some (.cells #[.int .i64 0, .int .i64 0, .int .i64 0] 182 (0, 0)) := by rw [hY, hB]; exact heap_alloc2_new w _ _
 have p0 : Y.cell? ⟨B, 0, none⟩ = some (.slice ia m ic) := by simp [World.cell?, hP]
 have p1 : Y.cell? ⟨B, 1, none⟩ = some (.int .i64 caps) := by simp [World.cell?, hP]
 have p2 : Y.cell? ⟨B, 2, none⟩ = some (.bool runes) := by simp [World.cell?, hP]
 have u0 : Y.cell? ⟨B + 1, 0, none⟩ = some (.int .i64 0) := by simp [World.cell?, hU]
 have u1 : Y.cell? ⟨B + 1, 1, none⟩ = some (.int .i64 0) := by simp [World.cell?, hU]
 have u2 : Y.cell? ⟨B + 1, 2, none⟩ = some (.int .i64 0) := by simp [World.cell?, hU]
 have f0 : Y.frozen? ⟨B + 1, 0, none⟩ = false := by simp [World.frozen?, hU]
 have f1 : Y.frozen? ⟨B + 1, 1, none⟩ = false := by simp [World.frozen?, hU]
 have f2 : Y.frozen? ⟨B + 1, 2, none⟩ = false := by simp [World.frozen?, hU]
 obtain ⟨c0, c1, c2, c3, c4⟩ := hi.keep hkY (by simp)
 have hbb : b < w.heap.size := World.block_lt_of_cell? _ _ hi.1
 have hbB : b ≠ B + 1 := by omega
 have hbB2 : ¬ b = B + 1 := hbB
 have hbB3 : ¬ B + 1 = b := fun e => hbB e.symm
 simp only at c0 c1 c2 c3 c4
 have HY := gI hY
 have HB := gI hB
 have HK := gI hkY
 have HTG := gI (fun (v : Int) (h0 : 0 ≤ v) (h1 : v < m) W (k : Keeps [] Y W) => target_any ia ic m B v W (k.cell p0 (by simp)) h0 h1)
 have HU := gI hU
 clear hU hP hB hi hbb
 subst hy hn hs
 simp only [List.length_nil] at c4
 have HX := gI (HTG.out x hx.1 hx.2)
 clear hx
 have hset := (Keeps.refl [B + 1] Y).setCell (p := ⟨B + 1, 0, none⟩) (by simp) (.int .i64 x)
 have d0 := hset.cell c0 (by simpa using hbB)
 have d1 := hset.cell c1 (by simpa using hbB)
 have d2 := hset.cell c2 (by simpa using hbB)
 have d3 := hset.cell c3 (by simpa using hbB)
 have d4 := hset.cell c4 (by simpa using hbB)
 have HKS := gI (HK.out.after hset (fun q hq => by simp at hq; subst hq; exact .inr (by rw [HB.out]; omega)))
 clear hset
 clear hY hkY
 go_enter Tryz.func84, Tryz.ntmps84
 go_upto_region 4 with fail
 rw [← HY.out, ← HB.out]
 go_upto_region 24 with (go_at_call 107; refine (HX.out _ (Keeps.refl _ _)).mono ?_; rintro e w' ⟨rfl, rfl⟩)
 go_quiet (fail)
 go_wp2
 go_ret
 exact ⟨by simp, HKS.out.drewN _⟩
set_option linter.unusedSimpArgs false in
theorem pvalid5_any (ia : Option Addr) (ic m : Nat) (caps : Int) (runes : Bool) (b o : Nat) (w : World) (x y n : Int) (sa : Option Addr) (sc : Nat) (sp : List (Int × Int)) (hi : InsAt w b o ⟨5, x, y, n, sa, sc, sp⟩) (hx : x = 0) (hy : y = 0) (hn : 0 ≤ n ∧ n ≤ 5) (hs : sp = []) :
  Calls Tryz.prog 84 #[.agg #[.slice ia m ic, .int .i64 caps, .bool runes], .pointer (some ⟨b, o, none⟩)] w fun e w' => e = .returned (.bool true) ∧ Keeps [] w w' := by
 obtain ⟨B, hB⟩ : ∃ B, B = w.heap.size := ⟨_, rfl⟩
 obtain ⟨Y, hY⟩ : ∃ Y, Y = (w.alloc (.cells #[.slice ia m ic, .int .i64 caps, .bool runes] 83)).alloc (.cells #[.int .i64 0, .int .i64 0, .int .i64 0] 182) := ⟨_, rfl⟩
 have hkY : Keeps [] w Y := by rw [hY]; exact (Keeps.a1 w _).alloc _
 have hP : Y.heap[B]? = some (.cells #[.slice ia m ic, .int .i64 caps, .bool runes] 83 (0, 0)) := by rw [hY, hB]; exact (Keeps.a1 _ _).heap (heap_alloc_new w _) (by simp)
 have hU : Y.heap[B + 1]? = some (.cells #[.int .i64 0, .int .i64 0, .int .i64 0] 182 (0, 0)) := by rw [hY, hB]; exact heap_alloc2_new w _ _
 have p0 : Y.cell? ⟨B, 0, none⟩ = some (.slice ia m ic) := by simp [World.cell?, hP]
 have p1 : Y.cell? ⟨B, 1, none⟩ = some (.int .i64 caps) := by simp [World.cell?, hP]
 have p2 : Y.cell? ⟨B, 2, none⟩ = some (.bool runes) := by simp [World.cell?, hP]
 have u0 : Y.cell? ⟨B + 1, 0, none⟩ = some (.int .i64 0) := by simp [World.cell?, hU]
 have u1 : Y.cell? ⟨B + 1, 1, none⟩ = some (.int .i64 0) := by simp [World.cell?, hU]
 have u2 : Y.cell? ⟨B + 1, 2, none⟩ = some (.int .i64 0) := by simp [World.cell?, hU]
 have f0 : Y.frozen? ⟨B + 1, 0, none⟩ = false := by simp [World.frozen?, hU]
 have f1 : Y.frozen? ⟨B + 1, 1, none⟩ = false := by simp [World.frozen?, hU]
 have f2 : Y.frozen? ⟨B + 1, 2, none⟩ = false := by simp [World.frozen?, hU]
 obtain ⟨c0, c1, c2, c3, c4⟩ := hi.keep hkY (by simp)
 have hbb : b < w.heap.size := World.block_lt_of_cell? _ _ hi.1
 have hbB : b ≠ B + 1 := by omega
 have hbB2 : ¬ b = B + 1 := hbB
 have hbB3 : ¬ B + 1 = b := fun e => hbB e.symm
 simp only at c0 c1 c2 c3 c4
 have HY := gI hY
 have HB := gI hB
 have HK := gI hkY
 have HTG := gI (fun (v : Int) (h0 : 0 ≤ v) (h1 : v < m) W (k : Keeps [] Y W) => target_any ia ic m B v W (k.cell p0 (by simp)) h0 h1)
 have HU := gI hU
 clear hU hP hB hi hbb
 subst hx hy hs
 simp only [List.length_nil] at c4
 obtain ⟨hn0, hn1⟩ := hn
 have hset := (Keeps.refl [B + 1] Y).setCell (p := ⟨B + 1, 2, none⟩) (by simp) (.int .i64 n)
 have d0 := hset.cell c0 (by simpa using hbB)
 have d1 := hset.cell c1 (by simpa using hbB)
 have d2 := hset.cell c2 (by simpa using hbB)
 have d3 := hset.cell c3 (by simpa using hbB)
 have d4 := hset.cell c4 (by simpa using hbB)
 have HKS := gI (HK.out.after hset (fun q hq => by simp at hq; subst hq; exact .inr (by rw [HB.out]; omega)))
 clear hset
 clear hY hkY
 go_enter Tryz.func84, Tryz.ntmps84
 go_upto_region 4 with fail
 rw [← HY.out, ← HB.out]
 go_upto_region 24 with fail
 go_quiet (fail)
 go_wp2
 go_ret
 exact ⟨by simp, HKS.out.drewN _⟩
set_option linter.unusedSimpArgs false in
theorem pvalid2_any (ia : Option Addr) (ic m : Nat) (caps : Int) (runes : Bool) (b o : Nat) (w : World) (x y n : Int) (sa : Option Addr) (sc : Nat) (sp : List (Int × Int)) (hi : InsAt w b o ⟨2, x, y, n, sa, sc, sp⟩) (hx : 0 ≤ x ∧ x < m) (hy : 0 ≤ y ∧ y < m) (hn : n = 0) (hs : sp = []) :
  Calls Tryz.prog 84 #[.agg #[.slice ia m ic, .int .i64 caps, .bool runes], .pointer (some ⟨b, o, none⟩)] w fun e w' => e = .returned (.bool true) ∧ Keeps [] w w' := by
 obtain ⟨B, hB⟩ : ∃ B, B = w.heap.size := ⟨_, rfl⟩
 obtain ⟨Y, hY⟩ : ∃ Y, Y = (w.alloc (.cells #[.slice ia m ic, .int .i64 caps, .bool runes] 83)).alloc (.cells #[.int .i64 0, .int .i64 0, .int .i64 0] 182) := ⟨_, rfl⟩
 have hkY : Keeps [] w Y := by rw [hY]; exact (Keeps.a1 w _).alloc _
 have hP : Y.heap[B]? = some (.cells #[.slice ia m ic, .int .i64 caps, .bool runes] 83 (0, 0)) := by rw [hY, hB]; exact (Keeps.a1 _ _).heap (heap_alloc_new w _) (by simp)
 have hU : Y.heap[B + 1]? = some (.cells #[.int .i64 0, .int .i64 0, .int .i64 0] 182 (0, 0)) := by rw [hY, hB]; exact heap_alloc2_new w _ _
 have p0 : Y.cell? ⟨B, 0, none⟩ = some (.slice ia m ic) := by simp [World.cell?, hP]
 have p1 : Y.cell? ⟨B, 1, none⟩ = some (.int .i64 caps) := by simp [World.cell?, hP]
 have p2 : Y.cell? ⟨B, 2, none⟩ = some (.bool runes) := by simp [World.cell?, hP]
 have u0 : Y.cell? ⟨B + 1, 0, none⟩ = some (.int .i64 0) := by simp [World.cell?, hU]
 have u1 : Y.cell? ⟨B + 1, 1, none⟩ = some (.int .i64 0) := by simp [World.cell?, hU]
 have u2 : Y.cell? ⟨B + 1, 2, none⟩ = some (.int .i64 0) := by simp [World.cell?, hU]
 have f0 : Y.frozen? ⟨B + 1, 0, none⟩ = false := by simp [World.frozen?, hU]
 have f1 : Y.frozen? ⟨B + 1, 1, none⟩ = false := by simp [World.frozen?, hU]
 have f2 : Y.frozen? ⟨B + 1, 2, none⟩ = false := by simp [World.frozen?, hU]
 obtain ⟨c0, c1, c2, c3, c4⟩ := hi.keep hkY (by simp)
 have hbb : b < w.heap.size := World.block_lt_of_cell? _ _ hi.1
 have hbB : b ≠ B + 1 := by omega
 have hbB2 : ¬ b = B + 1 := hbB
 have hbB3 : ¬ B + 1 = b := fun e => hbB e.symm
 simp only at c0 c1 c2 c3 c4
 have HY := gI hY
 have HB := gI hB
 have HK := gI hkY
 have HTG := gI (fun (v : Int) (h0 : 0 ≤ v) (h1 : v < m) W (k : Keeps [] Y W) => target_any ia ic m B v W (k.cell p0 (by simp)) h0 h1)
 have HU := gI hU
 clear hU hP hB hi hbb
 subst hn hs
 simp only [List.length_nil] at c4
 have HX := gI (HTG.out x hx.1 hx.2)
 have HYY := gI (HTG.out y hy.1 hy.2)
 clear hx hy
 clear hY hkY
 go_enter Tryz.func84, Tryz.ntmps84
 go_upto_region 4 with fail
 rw [← HY.out, ← HB.out]
 go_upto_region 14 with (go_at_call 107; (first | with_reducible refine (HX.out _ (Keeps.refl _ _)).mono ?_ | with_reducible refine (HYY.out _ (Keeps.refl _ _)).mono ?_); rintro e w' ⟨rfl, rfl⟩)
 go_region
 obtain ⟨Z, hZ⟩ : ∃ Z, Z = ((Y.setCell ⟨B + 1, 0, none⟩ (.int .i64 x)).setCell ⟨B + 1, 1, none⟩ (.int .i64 y)).drew := ⟨_, rfl⟩
 have hk : Keeps [B + 1] Y Z := by rw [hZ]; exact (((Keeps.refl [B + 1] Y).setCell (by simp) _).setCell (by simp) _).drew
 rw [← hZ]
 have d0 := hk.cell c0 (by simpa using hbB)
 have d1 := hk.cell c1 (by simpa using hbB)
 have d2 := hk.cell c2 (by simpa using hbB)
 have d3 := hk.cell c3 (by simpa using hbB)
 have d4 := hk.cell c4 (by simpa using hbB)
 have s1 := heap_setCell_same Y (B + 1) 0 _ _ (.int .i64 x) HU.out
 have s2 := heap_setCell_same _ (B + 1) 1 _ _ (.int .i64 y) s1
 have s3 : Z.heap[B + 1]? = some (.cells #[.int .i64 x, .int .i64 y, .int .i64 0] 182 (0, 0)) := by
  rw [hZ]
  refine Eq.trans s2 ?_
  simp
 have e0 : Z.cell? ⟨B + 1, 0, none⟩ = some (.int .i64 x) := by simp [World.cell?, s3]
 have e1 : Z.cell? ⟨B + 1, 1, none⟩ = some (.int .i64 y) := by simp [World.cell?, s3]
 have e2 : Z.cell? ⟨B + 1, 2, none⟩ = some (.int .i64 0) := by simp [World.cell?, s3]
 have HKS := gI (HK.out.after hk (fun q hq => by simp at hq; subst hq; exact .inr (by rw [HB.out]; omega)))
 clear c0 c1 c2 c3 c4 u0 u1 u2 p0 p1 p2 f0 f1 f2 hk s1 s2 s3 hZ
 go_upto_region 24 with fail
 go_quiet (fail)
 go_wp2
 go_ret
 exact ⟨by simp, HKS.out.drewN _⟩
set_option linter.unusedSimpArgs false in
theorem pvalid4_any (ia : Option Addr) (ic m : Nat) (caps : Int) (runes : Bool) (b o : Nat) (w : World) (x y n : Int) (sa : Option Addr) (sc : Nat) (sp : List (Int × Int)) (hi : InsAt w b o ⟨4, x, y, n, sa, sc, sp⟩) (hx : x = 0) (hy : y = 0) (hn : 0 ≤ n ∧ n ≤ 2 * caps - 1) (hc : 0 ≤ caps ∧ caps ≤ 9) (hs : sp = []) :
  Calls Tryz.prog 84 #[.agg #[.slice ia m ic, .int .i64 caps, .bool runes], .pointer (some ⟨b, o, none⟩)] w fun e w' => e = .returned (.bool true) ∧ Keeps [] w w' := by
 obtain ⟨B, hB⟩ : ∃ B, B = w.heap.size := ⟨_, rfl⟩
 obtain ⟨Y, hY⟩ : ∃ Y, Y = (w.alloc (.cells #[.slice ia m ic, .int .i64 caps, .bool runes] 83)).alloc (.cells #[.int .i64 0, .int .i64 0, .int .i64 0] 182) := ⟨_, rfl⟩
 have hkY : Keeps [] w Y := by rw [hY]; exact (Keeps.a1 w _).alloc _
 have hP : Y.heap[B]? = some (.cells #[.slice ia m ic, .int .i64 caps, .bool runes] 83 (0, 0)) := by rw [hY, hB]; exact (Keeps.a1 _ _).heap (heap_alloc_new w _) (by simp)
 have hU : Y.heap[B + 1]? = some (.cells #[.int .i64 0, .int .i64 0, .int .i64 0] 182 (0, 0)) := by rw [hY, hB]; exact heap_alloc2_new w _ _
 have p0 : Y.cell? ⟨B, 0, none⟩ = some (.slice ia m ic) := by simp [World.cell?, hP]
 have p1 : Y.cell? ⟨B, 1, none⟩ = some (.int .i64 caps) := by simp [World.cell?, hP]
 have p2 : Y.cell? ⟨B, 2, none⟩ = some (.bool runes) := by simp [World.cell?, hP]
 have u0 : Y.cell? ⟨B + 1, 0, none⟩ = some (.int .i64 0) := by simp [World.cell?, hU]
 have u1 : Y.cell? ⟨B + 1, 1, none⟩ = some (.int .i64 0) := by simp [World.cell?, hU]
 have u2 : Y.cell? ⟨B + 1, 2, none⟩ = some (.int .i64 0) := by simp [World.cell?, hU]
 have f0 : Y.frozen? ⟨B + 1, 0, none⟩ = false := by simp [World.frozen?, hU]
 have f1 : Y.frozen? ⟨B + 1, 1, none⟩ = false := by simp [World.frozen?, hU]
 have f2 : Y.frozen? ⟨B + 1, 2, none⟩ = false := by simp [World.frozen?, hU]
 obtain ⟨c0, c1, c2, c3, c4⟩ := hi.keep hkY (by simp)
 have hbb : b < w.heap.size := World.block_lt_of_cell? _ _ hi.1
 have hbB : b ≠ B + 1 := by omega
 have hbB2 : ¬ b = B + 1 := hbB
 have hbB3 : ¬ B + 1 = b := fun e => hbB e.symm
 simp only at c0 c1 c2 c3 c4
 have HY := gI hY
 have HB := gI hB
 have HK := gI hkY
 have HTG := gI (fun (v : Int) (h0 : 0 ≤ v) (h1 : v < m) W (k : Keeps [] Y W) => target_any ia ic m B v W (k.cell p0 (by simp)) h0 h1)
 have HU := gI hU
 clear hU hP hB hi hbb
 subst hx hy hs
 simp only [List.length_nil] at c4
 obtain ⟨hn0, hn1⟩ := hn
 have hw1 : IntKind.i64.wrap (2 * caps) = 2 * caps := IntWalk.i64_in _ (by omega)
 have hw2 : IntKind.i64.wrap (2 * caps - 1) = 2 * caps - 1 := IntWalk.i64_in _ (by omega)
 clear hY hkY
 go_enter Tryz.func84, Tryz.ntmps84
 go_upto_region 4 with fail
 rw [← HY.out, ← HB.out]
 go_upto_region 19 with fail
 go_quiet (fail)
 have KQ := (Keeps.refl [] Y).drewN nq
 have q0 := KQ.cell c0 (by simp)
 have q1 := KQ.cell c1 (by simp)
 have q2 := KQ.cell c2 (by simp)
 have q3 := KQ.cell c3 (by simp)
 have q4 := KQ.cell c4 (by simp)
 have v0 := KQ.cell u0 (by simp)
 have v1 := KQ.cell u1 (by simp)
 have v2 := KQ.cell u2 (by simp)
 have g2 : (Y.drewN nq).frozen? ⟨B + 1, 2, none⟩ = false := f2
 have HKQ := gI (HK.out.trans KQ)
 clear c0 c1 c2 c3 c4 u0 u1 u2 p0 p1 p2 f0 f1 f2 KQ
 generalize Y.drewN nq = V at *
 have hset := (Keeps.refl [B + 1] V).setCell (p := ⟨B + 1, 2, none⟩) (by simp) (.int .i64 n)
 have d0 := hset.cell q0 (by simpa using hbB)
 have d1 := hset.cell q1 (by simpa using hbB)
 have d2 := hset.cell q2 (by simpa using hbB)
 have d3 := hset.cell q3 (by simpa using hbB)
 have d4 := hset.cell q4 (by simpa using hbB)
 have HKS := gI (HKQ.out.after hset (fun q hq => by simp at hq; subst hq; exact .inr (by rw [HB.out]; omega)))
 clear hset
 go_upto_region 24 with fail
 go_quiet (fail)
 go_wp2
 go_ret
 exact ⟨by simp, HKS.out.drewN _⟩
set_option linter.unusedSimpArgs false in
theorem pvalid1_any (ia : Option Addr) (ic m : Nat) (caps : Int) (runes : Bool) (b o : Nat) (w : World) (x y n : Int) (sa : Option Addr) (sc : Nat) (sp : List (Int × Int)) (hi : InsAt w b o ⟨1, x, y, n, sa, sc, sp⟩) (hx : x = 0) (hy : y = 0) (hn : n = 0) (hsp : SpIn w sa sp ∧ sp.length ≤ 1000000000000) (hset : setE sp = 0) (hru : runes = true ∨ ∀ s ∈ sp, s.2 ≤ 255) :
  Calls Tryz.prog 84 #[.agg #[.slice ia m ic, .int .i64 caps, .bool runes], .pointer (some ⟨b, o, none⟩)] w fun e w' => e = .returned (.bool true) ∧ Keeps [] w w' := by
 obtain ⟨B, hB⟩ : ∃ B, B = w.heap.size := ⟨_, rfl⟩
 obtain ⟨Y, hY⟩ : ∃ Y, Y = (w.alloc (.cells #[.slice ia m ic, .int .i64 caps, .bool runes] 83)).alloc (.cells #[.int .i64 0, .int .i64 0, .int .i64 0] 182) := ⟨_, rfl⟩
 have hkY : Keeps [] w Y := by rw [hY]; exact (Keeps.a1 w _).alloc _
 have hP : Y.heap[B]? = some (.cells #[.slice ia m ic, .int .i64 caps, .bool runes] 83 (0, 0)) := by rw [hY, hB]; exact (Keeps.a1 _ _).heap (heap_alloc_new w _) (by simp)
 have hU : Y.heap[B + 1]? = some (.cells #[.int .i64 0, .int .i64 0, .int .i64 0] 182 (0, 0)) := by rw [hY, hB]; exact heap_alloc2_new w _ _
 have p0 : Y.cell? ⟨B, 0, none⟩ = some (.slice ia m ic) := by simp [World.cell?, hP]
 have p1 : Y.cell? ⟨B, 1, none⟩ = some (.int .i64 caps) := by simp [World.cell?, hP]
 have p2 : Y.cell? ⟨B, 2, none⟩ = some (.bool runes) := by simp [World.cell?, hP]
 have u0 : Y.cell? ⟨B + 1, 0, none⟩ = some (.int .i64 0) := by simp [World.cell?, hU]
 have u1 : Y.cell? ⟨B + 1, 1, none⟩ = some (.int .i64 0) := by simp [World.cell?, hU]
 have u2 : Y.cell? ⟨B + 1, 2, none⟩ = some (.int .i64 0) := by simp [World.cell?, hU]
 have f0 : Y.frozen? ⟨B + 1, 0, none⟩ = false := by simp [World.frozen?, hU]
 have f1 : Y.frozen? ⟨B + 1, 1, none⟩ = false := by simp [World.frozen?, hU]
 have f2 : Y.frozen? ⟨B + 1, 2, none⟩ = false := by simp [World.frozen?, hU]
 obtain ⟨c0, c1, c2, c3, c4⟩ := hi.keep hkY (by simp)
 have hbb : b < w.heap.size := World.block_lt_of_cell? _ _ hi.1
 have hbB : b ≠ B + 1 := by omega
 have hbB2 : ¬ b = B + 1 := hbB
 have hbB3 : ¬ B + 1 = b := fun e => hbB e.symm
 simp only at c0 c1 c2 c3 c4
 have HY := gI hY
 have HB := gI hB
 have HK := gI hkY
 have HTG := gI (fun (v : Int) (h0 : 0 ≤ v) (h1 : v < m) W (k : Keeps [] Y W) => target_any ia ic m B v W (k.cell p0 (by simp)) h0 h1)
 have HU := gI hU
 clear hU hP hB hi hbb
 subst hx hy hn
 have HSE := setE_any sa sc sp Y (hsp.1.keep hkY) hsp.2
 rw [hset] at HSE
 have HSE := gI HSE
 have HSP := gI hsp
 have HRU := gI hru
 clear hsp hru hset
 clear hY hkY
 go_enter Tryz.func84, Tryz.ntmps84
 go_upto_region 4 with fail
 rw [← HY.out, ← HB.out]
 go_wp2_with (go_at_call 87; refine HSE.out.mono ?_)
 rintro e w2 ⟨rfl, hk2⟩
 have c0 := hk2.cell c0 (by simp)
 have c1 := hk2.cell c1 (by simp)
 have c2 := hk2.cell c2 (by simp)
 have c3 := hk2.cell c3 (by simp)
 have c4 := hk2.cell c4 (by simp)
 have u0 := hk2.cell u0 (by simp)
 have u1 := hk2.cell u1 (by simp)
 have u2 := hk2.cell u2 (by simp)
 have p2 := hk2.cell p2 (by simp)
 have HK2 := gI (HK.out.trans hk2)
 have HSP2 := gI (HSP.out.1.keep (HK.out.trans hk2))
 have hsl := HSP.out.2
 clear hk2 p0 p1
 cases runes with
 | true =>
  go_upto_region 24 with fail
  go_quiet (fail)
  go_wp2
  go_ret
  exact ⟨by simp, HK2.out.drewN _⟩
 | false =>
  by_cases hs0 : sp.length = 0
  ·have hw : IntKind.i64.wrap ((sp.length : Int) - 1) = -1 := by rw [hs0]; rfl
   have hneg : ¬ ((0 : Int) ≤ (sp.length : Int) - 1) := by omega
   go_upto_region 24 with fail
   go_quiet (fail)
   go_wp2
   go_ret
   exact ⟨by simp, HK2.out.drewN _⟩
  ·obtain ⟨bs, off, rfl, hc⟩ := HSP2.out (by omega)
   obtain ⟨l, hl⟩ : ∃ l, l = sp.length - 1 := ⟨_, rfl⟩
   have hlt : l < sp.length := by omega
   have hhi := (hc l hlt).2
   have hle : sp[l].2 ≤ 255 := by
    rcases HRU.out with h | h
    ·cases h
    ·exact h _ (List.getElem_mem hlt)
   have hw : IntKind.i64.wrap ((sp.length : Int) - 1) = (l : Int) := by rw [IntWalk.i64_in _ (by omega)]; omega
   obtain ⟨hv, hhv⟩ : ∃ hv, hv = sp[l].2 := ⟨_, rfl⟩
   rw [← hhv] at hhi hle
   clear hc hl hhv
   go_upto_region 24 with fail
   go_quiet (fail)
   go_wp2
   go_ret
   exact ⟨by simp, HK2.out.drewN _⟩
end Go.Proofs.YtkekenaamnhbhaaGreat
