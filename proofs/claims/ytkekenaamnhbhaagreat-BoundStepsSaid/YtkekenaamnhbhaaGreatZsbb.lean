/- Part 28 of the proof. No condition: every lemma says its own. -/
import Derived.Test.YtkekenaamnhbhaaGreatZsba
import Derived.Test.YtkekenaamnhbhaaGreatZsad
namespace Go.Proofs.YtkekenaamnhbhaaGreat
open Go.RowKit Go.Sort Go.BigFrame
set_option maxRecDepth 100000
set_option maxHeartbeats 16000000
theorem sizePI : (Tryz.prog.info? 112).map (·.size) = some 5 := by kernel_rfl
theorem SpIn.keepP {S : List Nat} {w w' : World} {a : Option Addr} {l : List (Int × Int)} (h : SpIn w a l) (k : Keeps S w w') (hs : ∀ y, a = some y → y.block ∉ S) : SpIn w' a l := fun h0 => by
 obtain ⟨b, off, e, hc⟩ := h h0
 have hb : b ∉ S := by have := hs _ e; exact this
 exact ⟨b, off, e, fun i hi => ⟨k.cell (hc i hi).1 hb, k.cell (hc i hi).2 hb⟩⟩
structure CA (w0 : World) (bc : Nat) (w : World) (cs : List Ins) (a : Option Nat) (c : Nat) : Prop where
 kp : Keeps [bc] w0 w
 box : w.heap[bc]? = some (.cells #[.slice (a.map fun g => ⟨g, 0, none⟩) cs.length c] 81 (0, 0))
 sl : SliceAt w 112 5 a cs.length c (flatI cs)
 new : ∀ g, a = some g → w0.heap.size ≤ g
 lt : bc < w0.heap.size
 sp : ∀ i ∈ cs, SpIn w i.sa i.sp ∧ ∀ y, i.sa = some y → w0.heap.size ≤ y.block ∧ a ≠ some y.block ∧ y.block < w.heap.size
structure CGw (w0 : World) (bc : Nat) (w : World) (a : Option Nat) (w' : World) (cs' : List Ins) (a' : Option Nat) (c' : Nat) : Prop where
 ca : CA w0 bc w' cs' a' c'
 kp : Keeps (bc :: a.toList) w w'
 na : a' = a ∨ ∀ g, a' = some g → w.heap.size ≤ g
variable {w0 w w' w1 : World} {bc : Nat} {cs cs' : List Ins} {a a' a1 : Option Nat} {c c' : Nat}
theorem CA.keep (h : CA w0 bc w cs a c) (k : Keeps [] w w') : CA w0 bc w' cs a c :=
 ⟨h.kp.trans (k.mono (by simp)), k.heap h.box (by simp), h.sl.keep k (by simp), h.new, h.lt, fun i hi => ⟨(h.sp i hi).1.keep k, fun y hy => by have h1 := (h.sp i hi).2 y hy; exact ⟨h1.1, h1.2.1, Nat.lt_of_lt_of_le h1.2.2 k.size⟩⟩⟩
theorem CA.cell (h : CA w0 bc w cs a c) : w.cell? ⟨bc, 0, none⟩ = some (.slice (a.map fun g => ⟨g, 0, none⟩) cs.length c) ∧ w.frozen? ⟨bc, 0, none⟩ = false :=
 ⟨by simp [World.cell?, h.box], by simp [World.frozen?, h.box]⟩
theorem CA.na (h : CA w0 bc w cs a c) : bc ∉ a.toList := fun hm => by have h1 := h.new bc (by simpa using hm); have h2 := h.lt; omega
theorem CA.alt (h : CA w0 bc w cs a c) : ∀ g, a = some g → g < w.heap.size := fun g hg => by have h1 := h.sl; rw [hg] at h1; exact h1.lt
theorem CGw.refl (h : CA w0 bc w cs a c) : CGw w0 bc w a w cs a c := ⟨h, Keeps.refl _ _, .inl rfl⟩
theorem CGw.of_keep (h : CA w0 bc w cs a c) (k : Keeps [] w w') : CGw w0 bc w a w' cs a c := ⟨h.keep k, k.mono (by simp), .inl rfl⟩
theorem CGw.trans {cs1 : List Ins} {c1 : Nat} (h : CGw w0 bc w a w1 cs1 a1 c1) (k : CGw w0 bc w1 a1 w' cs' a' c') : CGw w0 bc w a w' cs' a' c' := by
 refine ⟨k.ca, h.kp.after k.kp (fun x hx => ?_), ?_⟩
 ·rcases List.mem_cons.1 hx with rfl | hx
  ·exact .inl (by simp)
  ·rcases h.na with e | e
   ·rw [e] at hx; exact .inl (List.mem_cons_of_mem _ hx)
   ·exact .inr (e x (by simpa using hx))
 ·have hs := h.kp.size
  rcases k.na with e | e
  ·rw [e]; exact h.na
  ·exact .inr (fun g hg => Nat.le_trans hs (e g hg))
theorem CGw.keep (h : CGw w0 bc w a w1 cs' a' c') (k : Keeps [] w1 w') : CGw w0 bc w a w' cs' a' c' := ⟨h.ca.keep k, h.kp.trans (k.mono (by simp)), h.na⟩
theorem CA.push (h : CA w0 bc w cs a c) (i : Ins) {g : Nat} (hs : SliceAt w' 112 5 (some g) (cs.length + 1) c' (flatI cs ++ rowI i)) (k : Keeps a.toList w w') (hg : a = some g ∨ w.heap.size ≤ g)
  (hi : SpIn w i.sa i.sp) (hp : ∀ y, i.sa = some y → w0.heap.size ≤ y.block ∧ a ≠ some y.block ∧ y.block < w.heap.size) :
  CGw w0 bc w a (w'.setCell ⟨bc, 0, none⟩ (.slice (some ⟨g, 0, none⟩) (cs.length + 1) c')) (cs ++ [i]) (some g) c' := by
 have hb := k.heap h.box h.na
 have kB : Keeps [bc] w' (w'.setCell ⟨bc, 0, none⟩ (.slice (some ⟨g, 0, none⟩) (cs.length + 1) c')) := (Keeps.refl [bc] w').setCell (by simp) _
 have hgn : w0.heap.size ≤ g := by
  rcases hg with hg | hg
  ·exact h.new g hg
  ·have := h.kp.size; omega
 have hlt := h.lt
 have hsp : ∀ j ∈ cs ++ [i], SpIn w j.sa j.sp ∧ ∀ y, j.sa = some y → w0.heap.size ≤ y.block ∧ a ≠ some y.block ∧ y.block < w.heap.size := fun j hj => by
  rcases List.mem_append.1 hj with hj | hj
  ·exact h.sp j hj
  ·simp at hj; subst hj; exact ⟨hi, hp⟩
 refine ⟨⟨?_, ?_, ?_, fun q hq => by cases hq; exact hgn, hlt, fun j hj => ⟨?_, fun y hy => ?_⟩⟩, (k.mono (fun x hx => .inl (List.mem_cons_of_mem _ hx))).trans (kB.mono (by simp)), ?_⟩
 ·exact (h.kp.after k (fun x hx => .inr (h.new x (by simpa using hx)))).trans kB
 ·rw [heap_setCell_same _ bc 0 _ _ _ hb]; simp
 ·rw [List.length_append, List.length_singleton, flatI_append]
  have e : flatI [i] = rowI i := by simp [flatI]
  rw [e]
  exact hs.keep kB (fun q hq hm => by cases hq; simp at hm; omega)
 ·refine ((hsp j hj).1.keepP k (fun y hy hm => ?_)).keepP kB (fun y hy hm => ?_)
  ·exact ((hsp j hj).2 y hy).2.1 (by simpa using hm)
  ·have := ((hsp j hj).2 y hy).1
   simp at hm; omega
 ·have h1 := (hsp j hj).2 y hy
  refine ⟨h1.1, fun e => ?_, Nat.lt_of_lt_of_le h1.2.2 (Nat.le_trans k.size kB.size)⟩
  cases e
  rcases hg with hg | hg
  ·exact h1.2.1 hg
  ·omega
 ·rcases hg with hg | hg
  ·exact .inl hg.symm
  ·exact .inr (fun q hq => by cases hq; exact hg)
def PutP (w0 : World) (bc : Nat) (w : World) (a : Option Nat) (cs : List Ins) (i : Ins) (e : Ending) (w' : World) : Prop := e = .returned (.int .i64 (cs.length : Nat)) ∧ ∃ a' c', CGw w0 bc w a w' (cs ++ [i]) a' c'
theorem put_any (i : Ins) (w : World) (h : CA w0 bc w cs a c) (hl : cs.length ≤ 100000) (hi : SpIn w i.sa i.sp) (hp : ∀ y, i.sa = some y → w0.heap.size ≤ y.block ∧ a ≠ some y.block ∧ y.block < w.heap.size) :
  Calls Tryz.prog 78 #[.agg #[.int .i64 i.op, .int .i64 i.x, .int .i64 i.y, .int .i64 i.n, .slice i.sa i.sp.length i.sc], .pointer (some ⟨bc, 0, none⟩)] w (PutP w0 bc w a cs i) := by
 obtain ⟨Q, hQ⟩ : ∃ Q, Q = PutP w0 bc w a cs i := ⟨_, rfl⟩
 rw [← hQ]
 have HQ := gI hQ
 obtain ⟨ii, h0, h1, h2, h3⟩ := infoEP infoPI
 have HI := gI (And.intro h0 (And.intro h1 (And.intro h2 h3)))
 obtain ⟨B, hB⟩ : ∃ B, B = w.heap.size := ⟨_, rfl⟩
 obtain ⟨Y, hY⟩ : ∃ Y, Y = w.alloc (.cells #[.int .i64 i.op, .int .i64 i.x, .int .i64 i.y, .int .i64 i.n, .slice i.sa i.sp.length i.sc] 112) := ⟨_, rfl⟩
 have hk : Keeps [] w Y := by rw [hY]; exact (Keeps.refl [] w).alloc _
 have hb : Y.heap[B]? = some (.cells #[.int .i64 i.op, .int .i64 i.x, .int .i64 i.y, .int .i64 i.n, .slice i.sa i.sp.length i.sc] 112 (0, 0)) := by rw [hY, hB]; exact heap_alloc_new w _
 have HC := gI (h.keep hk)
 have HKY := gI hk
 have HSP := gI (And.intro (hi.keep hk) (show ∀ y, i.sa = some y → w0.heap.size ≤ y.block ∧ a ≠ some y.block ∧ y.block < Y.heap.size from fun y hy => by have h1 := hp y hy; exact ⟨h1.1, h1.2.1, Nat.lt_of_lt_of_le h1.2.2 hk.size⟩))
 have c0 : Y.cell? ⟨B, 0, none⟩ = some (.int .i64 i.op) := by simp [World.cell?, hb]
 have c1 : Y.cell? ⟨B, 1, none⟩ = some (.int .i64 i.x) := by simp [World.cell?, hb]
 have c2 : Y.cell? ⟨B, 2, none⟩ = some (.int .i64 i.y) := by simp [World.cell?, hb]
 have c3 : Y.cell? ⟨B, 3, none⟩ = some (.int .i64 i.n) := by simp [World.cell?, hb]
 have c4 : Y.cell? ⟨B, 4, none⟩ = some (.slice i.sa i.sp.length i.sc) := by simp [World.cell?, hb]
 obtain ⟨b0, bf⟩ := HC.out.cell
 have HY := gI hY
 have HB := gI hB
 have hwl : IntKind.i64.wrap ((cs.length : Int) + 1 - 1) = (cs.length : Int) := by rw [show (cs.length : Int) + 1 - 1 = cs.length by omega]; exact IntWalk.i64_in _ (by omega)
 have hwl2 : IntKind.i64.wrap (cs.length : Int) = (cs.length : Int) := IntWalk.i64_in _ (by omega)
 clear hQ h0 h1 h2 h3 hB hY hk hb h hi hp
 go_enter Tryz.func78, Tryz.ntmps78
 go_upto_region 1 with fail
 rw [← HY.out, ← HB.out]
 go_wp2_with (at_builtin; refine wpList_append_sl rfl (.tmp 4) (.tmp 6) 81 rfl 112 ii _ 5 56 Tryz.underlying81 HI.out.1 HI.out.2.1 HI.out.2.2.1 HI.out.2.2.2 rfl (by decide) a cs.length c (flatI cs) rfl (HC.out.sl.alloc _) ⟨Y.heap.size, 0, none⟩ 1 1 (rowI i) rfl rfl (news_row' _ _ _ _ rfl) (rowI_one i) (by decide) (by omega) (by omega) ?hk)
 case hk =>
  intro g d w7 hs7 hk7 hg7
  have hca := HC.out.keep ((Keeps.refl [] Y).alloc (.cells (rowI i).toArray 112))
  have hb7 := hk7.heap hca.box hca.na
  have y0 : w7.cell? ⟨bc, 0, none⟩ = some (.slice (a.map fun g => ⟨g, 0, none⟩) cs.length c) := by simp [World.cell?, hb7]
  have yf : w7.frozen? ⟨bc, 0, none⟩ = false := by simp [World.frozen?, hb7]
  have hcs := hca.push i hs7 hk7 (by rcases hg7 with h | h; exact .inl h; exact .inr (by simpa using h)) (HSP.out.1.keep ((Keeps.refl [] Y).alloc _)) (fun y hy => by have h1 := HSP.out.2 y hy; exact ⟨h1.1, h1.2.1, by simp; omega⟩)
  obtain ⟨w8, hw8⟩ : ∃ v, v = w7.setCell ⟨bc, 0, none⟩ (.slice (some ⟨g, 0, none⟩) (cs.length + 1) d) := ⟨_, rfl⟩
  rw [← hw8] at hcs
  have HW8 := gI hw8
  have HCS := gI (((CGw.of_keep (HC.out) (Keeps.refl _ _)).keep ((Keeps.refl [] Y).alloc _)).trans hcs)
  clear hs7 hk7 hg7 hca hb7 hcs hw8 c0 c1 c2 c3 c4 b0 bf
  go_upto_region 2 with fail
  rw [← HW8.out]
  clear y0 yf
  obtain ⟨b0, _⟩ := HCS.out.ca.cell
  have hln : (cs ++ [i]).length = cs.length + 1 := by simp
  rw [hln] at b0
  clear hln
  go_wp2
  rw [HQ.out]
  refine ⟨rfl, some g, d, ?_⟩
  have h := HCS.out
  exact ⟨h.ca, ((HKY.out.mono (by simp) : Keeps (bc :: a.toList) _ Y)).trans h.kp, by rcases h.na with e | e; exact .inl e; exact .inr (fun q hq => Nat.le_trans HKY.out.size (e q hq))⟩
theorem splitP_any (next other : Int) (w : World) : Calls Tryz.prog 80 #[.int .i64 next, .int .i64 other, .int .i64 0] w fun e w' => e = .returned (.agg #[.int .i64 2, .int .i64 next, .int .i64 other, .int .i64 0, .slice none 0 0]) ∧ Keeps [] w w' := by
 go_enter Tryz.func80, Tryz.ntmps80
 go_wp2
 exact bodyPost_ret (results_cell_row rfl _ _ w.heap.size 112 #[.int .i64 2, .int .i64 next, .int .i64 other, .int .i64 0, .slice none 0 0] (0, 0) _ rfl (heap_alloc_new w _) Tryz.underlying112 rfl sizePI) rfl ⟨rfl, (Keeps.refl [] w).alloc _⟩
end Go.Proofs.YtkekenaamnhbhaaGreat
