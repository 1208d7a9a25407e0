/- Copy of the reference model rexmillref33.Meter. Conditions: the model is laid in memory as RefAt says. -/
import Derived.Test.YtdpmkbiibmjbfaaRef2
import Derived.BigRegion
import Derived.Deep.RegionLawGrows
namespace Go.Proofs.Ytdpmkbiibmjbfaa
open Go.RowKit

theorem step_append_sl {P : Program} {ops : Array Oper} {o : Oper} {A : Act} {w : World} {K : Act → World → Prop} {Q : Exit → Act → World → Prop} {E : Prop}
    (hg : o.guard = none) (s x : Operand) (t : TypeId) (hop : o.op = Op.call { callee := Callee.builtin Builtin.append, args := #[s, x], argTypes := #[t, t] })
    (e : TypeId) (i : TypeInfo) (z : Value) (size bytes : Nat) (ht : P.underlying t = some (.slice e)) (hi : P.info? e = some i) (hz : i.zero = some z)
    (hsize : i.size = size) (hby : i.bytes = bytes) (hzs : z.cells.size = size) (hsz : 0 < size)
    (a : Option Nat) (n c : Nat) (xs : List Value) (hs : A.eval s = sv a n c) (hown : SliceAt w e size a n c xs)
    (ad : Addr) (m cc : Nat) (news : List Value) (hx : A.eval x = .slice (some ad) m cc) (hl : news.length = m * size) (hnews : ∀ j u, news[j]? = some u → w.cell? (ad.add j) = some u) (h1 : ∀ u ∈ news, u.oneCell' = true)
    (hm : 0 < m) (hlen : n + m ≤ 140737488355328) (hbytes : (n + m) * bytes ≤ 140737488355328)
    (h : ∀ g c' w', SliceAt w' e size (some g) (n + m) c' (xs ++ news) → Keeps a.toList w w' → (a = some g ∨ w.heap.size ≤ g) → K (A.put o.dst (.slice (some ⟨g, 0, none⟩) (n + m) c')) w') :
    if Region.wanted o (yielded ops A.tmps) = true then Oper.wp P o A w K Q else E := by
  have hw : Region.wanted o (yielded ops A.tmps) = true := by simp [Region.wanted, hg]
  rw [if_pos hw]
  obtain ⟨g, c', w', hr, h2, h3, h4⟩ := run_append_sl (P := P) w t o.type e i z size bytes ht hi hz hsize hby hzs hsz a n c xs hown ad m cc news hl hnews h1 hm hlen hbytes
  unfold Oper.wp execOp
  simp only [hop, resolve, invoke, builtin, Sem.run_bind, Sem.run_pure, Result.andThen_ok, List.map_toArray, List.map_cons, List.map_nil, hs, hx, hr]
  exact h g c' w' h2 h3 h4

theorem flat3_one (L : List (Int × Int × Int)) : ∀ u ∈ flat3 L, u.oneCell' = true := by
  intro u hu
  simp only [flat3, List.mem_flatMap] at hu
  obtain ⟨x, _, hx⟩ := hu
  simp at hx
  rcases hx with rfl | rfl | rfl <;> rfl

set_option maxRecDepth 100000 in
set_option maxHeartbeats 4000000 in
theorem rcopy_some (b : Nat) (rules share period tk : Int) (g0 c : Nat) (L : List (Int × Int × Int)) (w : World) (hR : RefAt w b rules share period tk (some g0) c L) (hL : 0 < L.length) :
    Calls Try.prog 26 #[.pointer (some ⟨b, 0, none⟩)] w fun e w' => e = .returned (.pointer (some ⟨w.heap.size, 0, none⟩)) ∧ ∃ g c', RefAt w' w.heap.size rules share period tk (some g) c' L ∧ Keeps [] w w' ∧ w.heap.size < g := by
  obtain ⟨i0, hi, hz0, hz1, hz2⟩ := info_parts info61
  have c0 := hR.c0
  have c1 := hR.c1
  have c2 := hR.c2
  have c3 := hR.c3
  have hlen := hR.len
  have HR := Lib.hid hR
  have Hi := Lib.hid hi
  have Hz0 := Lib.hid hz0
  have Hz1 := Lib.hid hz1
  have Hz2 := Lib.hid hz2
  clear hR hi hz0 hz1 hz2
  go_enter Try.func26, Try.ntmps26
  go_wp2
  go_region
  go_wp2
  have hBb : w.heap.size ≠ b := by have := lt_of_block HR.out.cells; omega
  have hBg : w.heap.size ≠ g0 := by have := HR.out.sl.lt; omega
  obtain ⟨W, hW⟩ : ∃ W, W = (w.alloc (.cells #[.int .i64 rules, .int .i64 share, .int .i64 period, .int .i64 tk, .slice none 0 0] 60)).drew := ⟨_, rfl⟩
  have hkW : Keeps [] w W := by rw [hW]; exact ((Keeps.refl [] w).alloc _).drew
  have hrow : W.heap[w.heap.size]? = some (.cells #[.int .i64 rules, .int .i64 share, .int .i64 period, .int .i64 tk, .slice none 0 0] 60 (0, 0)) := by rw [hW]; exact heap_alloc_new w _
  rw [← hW]
  have HRW := Lib.hid (HR.out.keep hkW (by simp) (by simp))
  have d4 := HRW.out.c4
  unfold sv at d4
  have e4 : W.cell? ⟨w.heap.size, 4, none⟩ = some (.slice none 0 0) := by simp [World.cell?, hrow]
  have HROW := Lib.hid hrow
  have HKW := Lib.hid hkW
  clear hW hrow hkW c0 c1 c2 c3
  obtain ⟨B, hB⟩ : ∃ B, B = w.heap.size := ⟨_, rfl⟩
  rw [← hB] at HROW e4 hBb hBg ⊢
  have HB := Lib.hid hB
  clear hB
  go_region_law (refine step_append_sl rfl (.tmp 26) (.tmp 30) 58 rfl 61 i0 _ 3 24 Try.underlying58 Hi.out Hz0.out Hz1.out Hz2.out rfl (by decide) none 0 0 [] rfl (SliceAt.nil _ _ _) ⟨g0, 0, none⟩ L.length c (flat3 L) rfl (flat3_length L) (by exact (HRW.out.sl.keep ((Keeps.refl [] W).drew) (by simp)).owns.cells rfl) (flat3_one L) hL (by omega) (by omega) ?_; intro g c' w1 hsl hk hg; have hr1 : w1.heap[B]? = _ := hk.heap (show W.drew.heap[B]? = _ from HROW.out) (by simp); have z4 : w1.frozen? ⟨B, 4, none⟩ = false := (by simp [World.frozen?, hr1]); have x4 : w1.cell? ⟨B, 4, none⟩ = some (.slice none 0 0) := (by simp [World.cell?, hr1]); have HR1 := Lib.hid hr1; have HSL1 := Lib.hid hsl; have HK1 := Lib.hid hk; have HG1 := Lib.hid hg; clear hr1 hsl hk hg)
  all_goals
    go_wp2
    go_ret
    have hgB : g ≠ B := by
      have h1 := lt_of_block HROW.out
      rcases HG1.out with h | h
      · simp at h
      · have h2 : W.drew.heap.size = W.heap.size := rfl
        omega
    have hgw : w.heap.size < g := by
      have h1 := lt_of_block HROW.out
      have h3 := HB.out
      rcases HG1.out with h | h
      · simp at h
      · have h2 : W.drew.heap.size = W.heap.size := rfl
        omega
    have hsl := HSL1.out
    simp only [Nat.zero_add, List.nil_append] at hsl
    rw [← HB.out]
    refine ⟨rfl, g, c', ⟨?_, hsl.keep ((Keeps.refl [B] w1).setCell (by simp) _) (by intro g' hg'; simp at hg'; simp; omega), by simp; exact hgB, HR.out.rul, HR.out.per, HR.out.shr, HR.out.tck, HR.out.len, HR.out.lb⟩, ?_, by rw [HB.out]; exact hgw⟩
    · rw [heap_setCell_same _ _ _ _ _ _ HR1.out]; simp [sv]
    · exact ((HKW.out.drew).after HK1.out (by simp)).setCell (by right; simp; rw [HB.out]; exact Nat.le_refl _) _

set_option maxRecDepth 100000 in
set_option maxHeartbeats 4000000 in
theorem rcopy_none (b : Nat) (rules share period tk : Int) (a : Option Nat) (c : Nat) (w : World) (hR : RefAt w b rules share period tk a c []) :
    Calls Try.prog 26 #[.pointer (some ⟨b, 0, none⟩)] w fun e w' => e = .returned (.pointer (some ⟨w.heap.size, 0, none⟩)) ∧ RefAt w' w.heap.size rules share period tk none 0 [] ∧ Keeps [] w w' := by
  obtain ⟨i0, hi, hz0, hz1, hz2⟩ := info_parts info61
  have c0 := hR.c0
  have c1 := hR.c1
  have c2 := hR.c2
  have c3 := hR.c3
  have HR := Lib.hid hR
  have happ : ∀ (ty : Nat) (ad : Option Addr) (W : World), (Builtin.append_ #[58, 58] ty #[.slice none 0 0, .slice ad 0 c]).run Try.prog W = .ok (.slice none 0 0) W := by
    intro ty ad W
    cases ad <;> simp [Builtin.append_, run_underlying Try.underlying58, sizeOf, typeInfo, hi, Builtin.lenOf, Builtin.firstCells, loadCells, loadCellsFrom]
  clear hR hi hz0 hz1 hz2
  go_enter Try.func26, Try.ntmps26
  go_wp2
  go_region
  go_wp2
  have hBb : w.heap.size ≠ b := by have := lt_of_block HR.out.cells; omega
  obtain ⟨W, hW⟩ : ∃ W, W = (w.alloc (.cells #[.int .i64 rules, .int .i64 share, .int .i64 period, .int .i64 tk, .slice none 0 0] 60)).drew := ⟨_, rfl⟩
  have hkW : Keeps [] w W := by rw [hW]; exact ((Keeps.refl [] w).alloc _).drew
  have hrow : W.heap[w.heap.size]? = some (.cells #[.int .i64 rules, .int .i64 share, .int .i64 period, .int .i64 tk, .slice none 0 0] 60 (0, 0)) := by rw [hW]; exact heap_alloc_new w _
  rw [← hW]
  have HRW := Lib.hid (HR.out.keep hkW (by simp) (by simp))
  have d4 := HRW.out.c4
  simp only [sv, List.length_nil] at d4
  generalize (Option.map (fun g => (⟨g, 0, none⟩ : Addr)) a) = ad at d4
  have e4 : W.cell? ⟨w.heap.size, 4, none⟩ = some (.slice none 0 0) := by simp [World.cell?, hrow]
  have z4 : W.frozen? ⟨w.heap.size, 4, none⟩ = false := by simp [World.frozen?, hrow]
  have HROW := Lib.hid hrow
  have HKW := Lib.hid hkW
  clear hW hrow hkW c0 c1 c2 c3
  obtain ⟨B, hB⟩ : ∃ B, B = w.heap.size := ⟨_, rfl⟩
  rw [← hB] at HROW e4 z4 hBb ⊢
  have HB := Lib.hid hB
  clear hB
  cases ad
  all_goals
    go_region
    go_wp2
    go_ret
    rw [← HB.out]
    refine ⟨rfl, ⟨?_, SliceAt.nil _ _ _, by simp, HR.out.rul, HR.out.per, HR.out.shr, HR.out.tck, HR.out.len, HR.out.lb⟩, (HKW.out.setCell (by right; simp; rw [HB.out]; exact Nat.le_refl _) _).drew⟩
    rw [heap_drew, heap_setCell_same _ _ _ _ _ _ HROW.out]; simp [sv]

theorem rcopy_any (b : Nat) (rules share period tk : Int) (a : Option Nat) (c : Nat) (L : List (Int × Int × Int)) (w : World) (hR : RefAt w b rules share period tk a c L) :
    Calls Try.prog 26 #[.pointer (some ⟨b, 0, none⟩)] w fun e w' => e = .returned (.pointer (some ⟨w.heap.size, 0, none⟩)) ∧ ∃ a' c', RefAt w' w.heap.size rules share period tk a' c' L ∧ Keeps [] w w' ∧ (∀ g, a' = some g → w.heap.size < g) := by
  by_cases hL : 0 < L.length
  · cases a with
    | none => exfalso; obtain ⟨_, h0, _⟩ := hR.sl; omega
    | some g0 => exact (rcopy_some b rules share period tk g0 c L w hR hL).mono fun e w' ⟨h1, g, c', h2, h3, h4⟩ => ⟨h1, some g, c', h2, h3, by intro g' hg'; simp at hg'; omega⟩
  · obtain rfl : L = [] := List.eq_nil_of_length_eq_zero (by omega)
    exact (rcopy_none b rules share period tk a c w hR).mono fun e w' ⟨h1, h2, h3⟩ => ⟨h1, none, 0, h2, h3, by simp⟩

end Go.Proofs.Ytdpmkbiibmjbfaa
