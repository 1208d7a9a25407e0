/- rules.Apply. Conditions: the tree lies in memory and is not very big; the rule's own function does what RulePost says. -/
import Derived.Test.YtgdmkddegcecaaaGreatTable
import Derived.Defers
import Derived.Recover
namespace Go.Proofs.YtgdmkddegcecaaaGreat
open Go.RowKit

set_option maxHeartbeats 1000000 in
theorem catch_idle (p q : Addr) (w : World) :
    CallsD Tryz.prog 36 #[.pointer (some p), .pointer (some q)] .returning w fun e u' w' => e = .returned (.tuple #[]) ∧ u' = .returning ∧ w' = w := by
  refine callsD_of_wpS Tryz.func36 rfl fun c₀ cs hu => ?_
  apply wpS_seq
  apply wpS_region
  simp [wpOpsS, go_sem, recoverD, hu, Tryz.ntmps36, Exit.thenS]
  refine wpS_cond (t := false) (by simp [Act.eval, Array.replicate]) ?_
  simp only [Bool.false_eq_true, if_false]
  refine wpS_of_wp (wp_skip ?_)
  cases c₀
  simp_all [bodyPostS, results, Tryz.results36]

theorem results_row_cell {P : Program} {fn : Func} {p q : Tmp} {ty ty2 : TypeId} (h : fn.results = #[.cell p ty, .cell q ty2]) (tmps : Array Value) (w : World) (g : Nat) (t : TypeId) (cs : Array Value) (fr : Nat × Nat) (d : TypeDesc)
    (hp : tmps.getD p undef = .pointer (some ⟨g, 0, none⟩)) (hg : w.heap[g]? = some (.cells cs t fr))
    (hu : P.underlying ty = some d) (hd : (match d with | .struct _ | .array _ _ => true | _ => false) = true) (hi : (P.info? ty).map (·.size) = some cs.size)
    (a : Addr) (v : Value) (hq : tmps.getD q undef = .pointer (some a)) (hv : (loadVar ty2 a).run P w = .ok v w) :
    (results fn tmps).run P w = .ok (.tuple #[.agg cs, v]) w := by
  have hp' : tmps[p]?.getD undef = .pointer (some ⟨g, 0, none⟩) := by simpa using hp
  have hq' : tmps[q]?.getD undef = .pointer (some a) := by simpa using hq
  simp [results, h, hp', hq', asAddr, run_loadVar_row w g t ty cs fr d hg hu hd hi, hv]

theorem run_loadVar_bool {w : World} {a : Addr} {b : Bool} (h : w.cell? a = some (.bool b)) : (loadVar 4 a).run Tryz.prog w = .ok (.bool b) w := by
  simp [go_sem, h]

set_option maxRecDepth 100000 in
set_option maxHeartbeats 4000000 in
theorem apply_bad (r : Int) (m : MRe) (w : World) (hr : r < 0 ∨ 17 ≤ r) :
    Calls Tryz.prog 26 #[.int .i64 r, m.val] w fun e w' => e = .returned (.tuple #[.agg #[.int .i64 0, .slice none 0 0, .slice none 0 0, .int .i64 0, .int .i64 0, .int .i64 0, .int .i64 0, .bool false], .bool false]) ∧ Keeps [] w w' := by
  have hmf : ∀ (fn : Fn) (first cap : Array Value) (w : World), (Instr.makeFunc fn first cap).run Tryz.prog w = .ok (.func fn first cap) w := fun _ _ _ _ => rfl
  obtain ⟨op, sa, sc, set, ka, kc, kids, mn, mx, mode, n, neg⟩ := m
  simp only [MRe.val]
  obtain ⟨B, hBe⟩ : ∃ B, B = w.heap.size := ⟨_, rfl⟩
  go_enter_defers Tryz.func26, Tryz.ntmps26
  go_wp2_with fail
  refine Calls.mono (table_any _) ?_
  rintro e w2 ⟨g, rfl, htab, hk, hg⟩
  have hz : w2.heap[w.heap.size + 1]? = some (.cells #[.int .i64 0, .slice none 0 0, .slice none 0 0, .int .i64 0, .int .i64 0, .int .i64 0, .int .i64 0, .bool false] 64 (0, 0)) := hk.heap ((Keeps.a1 _ _).heap (heap_alloc2_new w _ _) (by simp)) (by simp)
  have hb : w2.heap[w.heap.size + 2]? = some (.cells #[.bool false] 4 (0, 0)) := hk.heap (by have h := heap_alloc_new ((w.alloc (.cells #[.int .i64 op, .slice sa set.length sc, .slice ka kids.length kc, .int .i64 mn, .int .i64 mx, .int .i64 mode, .int .i64 n, .bool neg] 64)).alloc (.cells #[.int .i64 0, .slice none 0 0, .slice none 0 0, .int .i64 0, .int .i64 0, .int .i64 0, .int .i64 0, .bool false] 64)) (.cells #[.bool false] 4); simpa using h) (by simp)
  have K2 := Lib.hid ((Keeps.a3 w _ _ _).trans hk)
  rw [← hBe] at hz hb ⊢
  obtain ⟨z0, z1, z2, z3, z4, z5, z6, z7, zf⟩ := zero_cells hz
  have b0 : w2.cell? ⟨B + 2, 0, none⟩ = some (.bool false) := by simp [World.cell?, hb]
  have bf : ∀ o, w2.frozen? ⟨B + 2, o, none⟩ = false := by simp [World.frozen?, hb]
  have HBE := Lib.hid hBe
  have HZ := Lib.hid hz
  have HB := Lib.hid hb
  clear htab hk hg hz hb hBe
  have hcase : r < 0 ∨ (¬ r < 0 ∧ 17 ≤ r) := by omega
  clear hr
  rcases hcase with h1 | ⟨h1, h2⟩
  all_goals
    go_wp2
    refine leaves_cons (f := 36) (args := #[.pointer (some ⟨B + 1, 0, none⟩), .pointer (some ⟨B + 1 + 1, 0, none⟩)]) (by simp) (by simp [go_sem]) ?_
    refine (catch_idle ⟨B + 1, 0, none⟩ ⟨B + 1 + 1, 0, none⟩ _).mono ?_
    rintro e u' w'' ⟨rfl, rfl, rfl⟩
    have hs8 := set8_heap HZ.out (.int .i64 0) (.slice none 0 0) (.slice none 0 0) (.int .i64 0) (.int .i64 0) (.int .i64 0) (.int .i64 0) (.bool false)
    have hk8 := set8_keeps w2 (B + 1) (.int .i64 0) (.slice none 0 0) (.slice none 0 0) (.int .i64 0) (.int .i64 0) (.int .i64 0) (.int .i64 0) (.bool false)
    have hR := (heap_setCell_other (set8 w2 (B + 1) (.int .i64 0) (.slice none 0 0) (.slice none 0 0) (.int .i64 0) (.int .i64 0) (.int .i64 0) (.int .i64 0) (.bool false)) ⟨B + 1 + 1, 0, none⟩ (B + 1) (.bool false) (by simp)).trans hs8
    have hV := heap_setCell_same _ (B + 1 + 1) 0 _ 4 (.bool false) (hk8.heap HB.out (by simp))
    refine ⟨_, results_row_cell rfl _ _ (B + 1) 64 #[.int .i64 0, .slice none 0 0, .slice none 0 0, .int .i64 0, .int .i64 0, .int .i64 0, .int .i64 0, .bool false] (0, 0) _ rfl hR Tryz.underlying64 rfl sizeRe ⟨B + 1 + 1, 0, none⟩ (.bool false) rfl ?_, rfl, ?_⟩
    · have hc : ((set8 w2 (B + 1) (.int .i64 0) (.slice none 0 0) (.slice none 0 0) (.int .i64 0) (.int .i64 0) (.int .i64 0) (.int .i64 0) (.bool false)).setCell ⟨B + 1 + 1, 0, none⟩ (.bool false)).cell? ⟨B + 1 + 1, 0, none⟩ = some (.bool false) := by simp only [World.cell?, hV]; rfl
      with_reducible exact run_loadVar_bool hc
    · have hkk := (K2.out.after hk8 (by intro x hx; simp at hx; subst hx; exact .inr (by have := HBE.out; omega))).after ((Keeps.refl [B + 1 + 1] (set8 w2 (B + 1) (.int .i64 0) (.slice none 0 0) (.slice none 0 0) (.int .i64 0) (.int .i64 0) (.int .i64 0) (.int .i64 0) (.bool false))).setCell (p := ⟨B + 1 + 1, 0, none⟩) (.inl (by simp)) (.bool false)) (by intro x hx; simp at hx; subst hx; exact .inr (by have := HBE.out; omega))
      with_reducible exact hkk

end Go.Proofs.YtgdmkddegcecaaaGreat
