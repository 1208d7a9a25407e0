/- Boxes of nodes. No condition: every lemma says its own. -/
import Derived.Test.YtgdmkddegcecaaaGreatPair
namespace Go.Proofs.YtgdmkddegcecaaaGreat
open Go.RowKit

theorem At8.cells0 {w : World} {b : Nat} {op sa sc set ka kc kids mn mx mode n neg} (h : At8 w b 0 (.node op sa sc set ka kc kids mn mx mode n neg)) : w.cell? ⟨b, 0, none⟩ = some (.int .i64 op) ∧ w.cell? ⟨b, 1, none⟩ = some (.slice sa set.length sc) ∧ w.cell? ⟨b, 2, none⟩ = some (.slice ka kids.length kc) ∧ w.cell? ⟨b, 3, none⟩ = some (.int .i64 mn) ∧ w.cell? ⟨b, 4, none⟩ = some (.int .i64 mx) ∧ w.cell? ⟨b, 5, none⟩ = some (.int .i64 mode) ∧ w.cell? ⟨b, 6, none⟩ = some (.int .i64 n) ∧ w.cell? ⟨b, 7, none⟩ = some (.bool neg) := by
  have g := h.node
  have c1 := g.c1
  have c2 := g.c2
  have c3 := g.c3
  have c4 := g.c4
  have c5 := g.c5
  have c6 := g.c6
  have c7 := g.c7
  rw [Nat.zero_add] at c1 c2 c3 c4 c5 c6 c7
  exact ⟨g.c0, c1, c2, c3, c4, c5, c6, c7⟩
theorem At8.cellsO {w : World} {b o : Nat} {op sa sc set ka kc kids mn mx mode n neg} (h : At8 w b o (.node op sa sc set ka kc kids mn mx mode n neg)) : w.cell? ⟨b, o, none⟩ = some (.int .i64 op) ∧ w.cell? ⟨b, o + 1, none⟩ = some (.slice sa set.length sc) ∧ w.cell? ⟨b, o + 2, none⟩ = some (.slice ka kids.length kc) ∧ w.cell? ⟨b, o + 3, none⟩ = some (.int .i64 mn) ∧ w.cell? ⟨b, o + 4, none⟩ = some (.int .i64 mx) ∧ w.cell? ⟨b, o + 5, none⟩ = some (.int .i64 mode) ∧ w.cell? ⟨b, o + 6, none⟩ = some (.int .i64 n) ∧ w.cell? ⟨b, o + 7, none⟩ = some (.bool neg) :=
  ⟨h.node.c0, h.node.c1, h.node.c2, h.node.c3, h.node.c4, h.node.c5, h.node.c6, h.node.c7⟩
theorem box1 (w : World) (m : MRe) (T : Nat) : At8 (w.alloc (.cells m.row.toArray T)) w.heap.size 0 m := At8.box rfl
theorem box2 (w : World) (m1 m2 : MRe) (T : Nat) : At8 ((w.alloc (.cells m1.row.toArray T)).alloc (.cells m2.row.toArray T)) w.heap.size 0 m1 ∧ At8 ((w.alloc (.cells m1.row.toArray T)).alloc (.cells m2.row.toArray T)) (w.heap.size + 1) 0 m2 := by
  refine ⟨(box1 w m1 T).keep (Keeps.a1 _ _), ?_⟩
  have h := box1 (w.alloc (.cells m1.row.toArray T)) m2 T
  rw [show (w.alloc (.cells m1.row.toArray T)).heap.size = w.heap.size + 1 by simp] at h
  exact h
/-- A node's box, and behind it the zero of a result. -/
theorem boxZ (w : World) (m : MRe) (T : Nat) : At8 ((w.alloc (.cells m.row.toArray T)).alloc (.cells #[.int .i64 0, .slice none 0 0, .slice none 0 0, .int .i64 0, .int .i64 0, .int .i64 0, .int .i64 0, .bool false] T)) w.heap.size 0 m ∧ ((w.alloc (.cells m.row.toArray T)).alloc (.cells #[.int .i64 0, .slice none 0 0, .slice none 0 0, .int .i64 0, .int .i64 0, .int .i64 0, .int .i64 0, .bool false] T)).heap[w.heap.size + 1]? = some (.cells #[.int .i64 0, .slice none 0 0, .slice none 0 0, .int .i64 0, .int .i64 0, .int .i64 0, .int .i64 0, .bool false] T (0, 0)) ∧
    w.heap.size + 2 ≤ ((w.alloc (.cells m.row.toArray T)).alloc (.cells #[.int .i64 0, .slice none 0 0, .slice none 0 0, .int .i64 0, .int .i64 0, .int .i64 0, .int .i64 0, .bool false] T)).heap.size :=
  ⟨(box1 w m T).keep (Keeps.a1 _ _), heap_alloc2_new w _ _, by simp⟩
/-- The first of some nodes, where there is one. -/
theorem KidsIn.head {w : World} {ka : Option Addr} {kc : Nat} {kids : List MRe} (h : KidsIn w ka kc kids) (h0 : 0 < kids.length) : ∃ (b off : Nat) (k : MRe), ka = some ⟨b, off, none⟩ ∧ k ∈ kids ∧ kids[0]? = some k ∧ At8 w b off k ∧ k.OK w := by
  obtain ⟨b, off, h1, _, h2⟩ := h.nodes.kid h0
  have h3 := h2 0 h0
  rw [Nat.zero_mul, Nat.add_zero] at h3
  exact ⟨b, off, kids[0], h1, List.getElem_mem h0, by simp [h0], h3, h.all _ (List.getElem_mem h0)⟩
theorem trees_head {kids : List MRe} {k : MRe} (h : kids[0]? = some k) : ∃ r, MRe.trees kids = k.tree :: r := by
  cases kids with
  | nil => simp at h
  | cons x xs => simp at h; subst h; exact ⟨MRe.trees xs, rfl⟩

end Go.Proofs.YtgdmkddegcecaaaGreat
