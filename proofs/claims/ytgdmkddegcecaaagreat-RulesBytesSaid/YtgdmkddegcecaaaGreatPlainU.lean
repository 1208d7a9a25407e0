/- ast.Uses, rules.plain. Conditions: the tree lies in memory. -/
import Derived.Test.YtgdmkddegcecaaaGreatUses2
namespace Go.Proofs.YtgdmkddegcecaaaGreat
open Go.RowKit

set_option maxHeartbeats 1000000 in
theorem uses_any (m : MRe) (w : World) (k1 : m.OK w) :
    Calls Tryz.prog 90 #[m.val] w fun e w' => e = .returned (.int .i64 (usesT m.tree)) ∧ Keeps [] w w' := by
  obtain ⟨B, hB⟩ : ∃ B, B = w.heap.size := ⟨_, rfl⟩
  have hlt := k1.block_lt
  have HW := Lib.hid (fun (W : World) (h1 : At8 W B 0 m) (h2 : m.OK W) (h3 : W.cell? ⟨B + 1 + 1, 0, none⟩ = some (.func (Fn.func 97) #[] #[.pointer (some ⟨B + 1, 0, none⟩), .pointer (some ⟨B + 1 + 1, 0, none⟩)])) (h4 : NumAt W (B + 1) 0) => uses1_any m B 0 (B + 1 + 1) (B + 1) 0 W h1 h2 h3 h4 (by omega) (by omega) (by omega) (fun h => by have := hlt _ h; omega))
  have HK1 := Lib.hid k1
  obtain ⟨r1, hr1⟩ : ∃ r, r = m := ⟨_, rfl⟩
  obtain ⟨op1, sa1, sc1, set1, ka1, kc1, kids1, mn1, mx1, mode1, n1, neg1⟩ := m
  simp only [MRe.val]
  have hmf : ∀ (fn : Fn) (first cap : Array Value) (w : World), (Instr.makeFunc fn first cap).run Tryz.prog w = .ok (.func fn first cap) w := fun _ _ _ _ => rfl
  rw [← hr1] at HW HK1 ⊢
  have R1 : r1.row = [.int .i64 op1, .slice sa1 set1.length sc1, .slice ka1 kids1.length kc1, .int .i64 mn1, .int .i64 mx1, .int .i64 mode1, .int .i64 n1, .bool neg1] := by rw [hr1]; rfl
  have HR1 := Lib.hid R1
  have HB := Lib.hid hB
  clear hr1 R1 k1 hlt hB
  go_enter Tryz.func90, Tryz.ntmps90
  go_wp2_with fail
  rw [← HB.out]
  refine Calls.mono (HW.out _ ?_ ?_ ?_ ?_) ?_
  · rw [HB.out]; exact At8.keep (At8.box HR1.out.symm) (Keeps.a2 _ _ _)
  · exact HK1.out.keep (Keeps.a3 w _ _ _)
  · have hc := cell_new ((w.alloc (.cells #[.int .i64 op1, .slice sa1 set1.length sc1, .slice ka1 kids1.length kc1, .int .i64 mn1, .int .i64 mx1, .int .i64 mode1, .int .i64 n1, .bool neg1] 64)).alloc (.cells #[.int .i64 0] 3)) #[.func (Fn.func 97) #[] #[.pointer (some ⟨B + 1, 0, none⟩), .pointer (some ⟨B + 1 + 1, 0, none⟩)]] 116 0
    have hs : ((w.alloc (.cells #[.int .i64 op1, .slice sa1 set1.length sc1, .slice ka1 kids1.length kc1, .int .i64 mn1, .int .i64 mx1, .int .i64 mode1, .int .i64 n1, .bool neg1] 64)).alloc (.cells #[.int .i64 0] 3)).heap.size = B + 1 + 1 := by simp [HB.out]
    rw [hs] at hc
    exact hc
  · exact (Keeps.a1 _ _).heap (by rw [HB.out]; exact heap_alloc2_new w _ _) (by simp)
  rintro e w2 ⟨rfl, hk, hn⟩
  rw [Nat.zero_or] at hn
  have HK := Lib.hid (((Keeps.a3 w _ _ _).mono (S' := [B + 1]) (by simp)).trans hk)
  have hc := hn.cell
  clear hk
  have HN := Lib.hid hn
  clear hn
  go_wp2
  go_ret
  exact ⟨rfl, HK.out.mono (by intro x hx; simp at hx; subst hx; exact .inr (by have := HB.out; omega))⟩

theorem andNot_32 : ∀ u : Fin 128, (bits .andNot .i64 (u.val : Int) 32 == 0) = (u.val == 0 || u.val == 32) := by decide

def plainP (t : Tree) : Bool := usesT t == 0 || usesT t == 32
theorem andNot_eq (t : Tree) : decide (bits .andNot .i64 (usesT t : Int) 32 = 0) = plainP t := by
  have h := andNot_32 ⟨usesT t, usesT_lt t⟩
  simp only at h
  rw [plainP, ← h]
  rfl

set_option maxHeartbeats 400000 in
theorem plain_any (m : MRe) (w : World) (k1 : m.OK w) :
    Calls Tryz.prog 79 #[m.val] w fun e w' => e = .returned (.bool (plainP m.tree)) ∧ Keeps [] w w' := by
  have HU := Lib.hid (fun (W : World) (h : Keeps [] w W) => uses_any m W (k1.keep h))
  have HE := Lib.hid (andNot_eq m.tree)
  obtain ⟨u, hu⟩ : ∃ u, u = usesT m.tree := ⟨_, rfl⟩
  obtain ⟨p, hp⟩ : ∃ p, p = plainP m.tree := ⟨_, rfl⟩
  rw [← hu] at HU HE
  rw [← hp] at HE ⊢
  clear hu hp k1
  obtain ⟨op, sa, sc, set, ka, kc, kids, mn, mx, mode, n, neg⟩ := m
  simp only [MRe.val] at HU ⊢
  go_enter Tryz.func79, Tryz.ntmps79
  go_wp2_with fail
  refine Calls.mono (HU.out _ (Keeps.a1 w _)) ?_
  rintro e w2 ⟨rfl, hk⟩
  have HK := Lib.hid ((Keeps.a1 w _).trans hk)
  clear hk
  go_wp2
  go_ret
  exact ⟨by rw [← HE.out]; rfl, HK.out⟩

end Go.Proofs.YtgdmkddegcecaaaGreat
