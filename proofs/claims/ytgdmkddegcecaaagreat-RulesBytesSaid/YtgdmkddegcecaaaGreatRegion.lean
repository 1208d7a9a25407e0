/- A node stored cell by cell into a block of its own. No condition: every lemma says its own. -/
import Derived.Test.YtgdmkddegcecaaaGreatBlocks
import Derived.Test.YtgdmkddegcecaaaGreatFnA
namespace Go.Proofs.YtgdmkddegcecaaaGreat
open Go.RowKit

/-- A node stored into block g. -/
@[reducible] def set8 (w : World) (g : Nat) (v0 v1 v2 v3 v4 v5 v6 v7 : Value) : World :=
  (((((((w.setCell ⟨g, 0, none⟩ v0).setCell ⟨g, 1, none⟩ v1).setCell ⟨g, 2, none⟩ v2).setCell ⟨g, 3, none⟩ v3).setCell ⟨g, 4, none⟩ v4).setCell ⟨g, 5, none⟩ v5).setCell ⟨g, 6, none⟩ v6).setCell ⟨g, 7, none⟩ v7
theorem set8_heap {w : World} {g T : Nat} (h : w.heap[g]? = some (.cells #[.int .i64 0, .slice none 0 0, .slice none 0 0, .int .i64 0, .int .i64 0, .int .i64 0, .int .i64 0, .bool false] T (0, 0))) (v0 v1 v2 v3 v4 v5 v6 v7 : Value) : (set8 w g v0 v1 v2 v3 v4 v5 v6 v7).heap[g]? = some (.cells #[v0, v1, v2, v3, v4, v5, v6, v7] T (0, 0)) := by
  have h0 : (w.setCell ⟨g, 0, none⟩ v0).heap[g]? = some (.cells #[v0, .slice none 0 0, .slice none 0 0, .int .i64 0, .int .i64 0, .int .i64 0, .int .i64 0, .bool false] T (0, 0)) := heap_setCell_same _ g 0 _ T v0 h
  have h1 : ((w.setCell ⟨g, 0, none⟩ v0).setCell ⟨g, 1, none⟩ v1).heap[g]? = some (.cells #[v0, v1, .slice none 0 0, .int .i64 0, .int .i64 0, .int .i64 0, .int .i64 0, .bool false] T (0, 0)) := heap_setCell_same _ g 1 _ T v1 h0
  have h2 : (((w.setCell ⟨g, 0, none⟩ v0).setCell ⟨g, 1, none⟩ v1).setCell ⟨g, 2, none⟩ v2).heap[g]? = some (.cells #[v0, v1, v2, .int .i64 0, .int .i64 0, .int .i64 0, .int .i64 0, .bool false] T (0, 0)) := heap_setCell_same _ g 2 _ T v2 h1
  have h3 : ((((w.setCell ⟨g, 0, none⟩ v0).setCell ⟨g, 1, none⟩ v1).setCell ⟨g, 2, none⟩ v2).setCell ⟨g, 3, none⟩ v3).heap[g]? = some (.cells #[v0, v1, v2, v3, .int .i64 0, .int .i64 0, .int .i64 0, .bool false] T (0, 0)) := heap_setCell_same _ g 3 _ T v3 h2
  have h4 : (((((w.setCell ⟨g, 0, none⟩ v0).setCell ⟨g, 1, none⟩ v1).setCell ⟨g, 2, none⟩ v2).setCell ⟨g, 3, none⟩ v3).setCell ⟨g, 4, none⟩ v4).heap[g]? = some (.cells #[v0, v1, v2, v3, v4, .int .i64 0, .int .i64 0, .bool false] T (0, 0)) := heap_setCell_same _ g 4 _ T v4 h3
  have h5 : ((((((w.setCell ⟨g, 0, none⟩ v0).setCell ⟨g, 1, none⟩ v1).setCell ⟨g, 2, none⟩ v2).setCell ⟨g, 3, none⟩ v3).setCell ⟨g, 4, none⟩ v4).setCell ⟨g, 5, none⟩ v5).heap[g]? = some (.cells #[v0, v1, v2, v3, v4, v5, .int .i64 0, .bool false] T (0, 0)) := heap_setCell_same _ g 5 _ T v5 h4
  have h6 : (((((((w.setCell ⟨g, 0, none⟩ v0).setCell ⟨g, 1, none⟩ v1).setCell ⟨g, 2, none⟩ v2).setCell ⟨g, 3, none⟩ v3).setCell ⟨g, 4, none⟩ v4).setCell ⟨g, 5, none⟩ v5).setCell ⟨g, 6, none⟩ v6).heap[g]? = some (.cells #[v0, v1, v2, v3, v4, v5, v6, .bool false] T (0, 0)) := heap_setCell_same _ g 6 _ T v6 h5
  have h7 : ((((((((w.setCell ⟨g, 0, none⟩ v0).setCell ⟨g, 1, none⟩ v1).setCell ⟨g, 2, none⟩ v2).setCell ⟨g, 3, none⟩ v3).setCell ⟨g, 4, none⟩ v4).setCell ⟨g, 5, none⟩ v5).setCell ⟨g, 6, none⟩ v6).setCell ⟨g, 7, none⟩ v7).heap[g]? = some (.cells #[v0, v1, v2, v3, v4, v5, v6, v7] T (0, 0)) := heap_setCell_same _ g 7 _ T v7 h6
  exact h7
theorem set8_keeps (w : World) (g : Nat) (v0 v1 v2 v3 v4 v5 v6 v7 : Value) : Keeps [g] w (set8 w g v0 v1 v2 v3 v4 v5 v6 v7) :=
  (((((((((Keeps.refl [g] w).setCell (.inl (by simp)) _).setCell (.inl (by simp)) _).setCell (.inl (by simp)) _).setCell (.inl (by simp)) _).setCell (.inl (by simp)) _).setCell (.inl (by simp)) _).setCell (.inl (by simp)) _).setCell (.inl (by simp)) _)
theorem zero_cells {w : World} {g T : Nat} (h : w.heap[g]? = some (.cells #[.int .i64 0, .slice none 0 0, .slice none 0 0, .int .i64 0, .int .i64 0, .int .i64 0, .int .i64 0, .bool false] T (0, 0))) :
    w.cell? ⟨g, 0, none⟩ = some (.int .i64 0) ∧ w.cell? ⟨g, 1, none⟩ = some (.slice none 0 0) ∧ w.cell? ⟨g, 2, none⟩ = some (.slice none 0 0) ∧ w.cell? ⟨g, 3, none⟩ = some (.int .i64 0) ∧ w.cell? ⟨g, 4, none⟩ = some (.int .i64 0) ∧ w.cell? ⟨g, 5, none⟩ = some (.int .i64 0) ∧ w.cell? ⟨g, 6, none⟩ = some (.int .i64 0) ∧ w.cell? ⟨g, 7, none⟩ = some (.bool false) ∧ ∀ o, w.frozen? ⟨g, o, none⟩ = false := by
  simp [World.cell?, World.frozen?, h]

theorem results_row_tmp {P : Program} {fn : Func} {p q : Tmp} {ty : TypeId} (h : fn.results = #[.cell p ty, .tmp q]) (tmps : Array Value) (w : World) (g : Nat) (t : TypeId) (cs : Array Value) (fr : Nat × Nat) (d : TypeDesc)
    (hp : tmps.getD p undef = .pointer (some ⟨g, 0, none⟩)) (hg : w.heap[g]? = some (.cells cs t fr))
    (hu : P.underlying ty = some d) (hd : (match d with | .struct _ | .array _ _ => true | _ => false) = true) (hi : (P.info? ty).map (·.size) = some cs.size) :
    (results fn tmps).run P w = .ok (.tuple #[.agg cs, tmps.getD q undef]) w := by
  have hp' : tmps[p]?.getD undef = .pointer (some ⟨g, 0, none⟩) := by simpa using hp
  simp [results, h, hp', asAddr, run_loadVar_row w g t ty cs fr d hg hu hd hi]

/-- The blocks of l lie among those of src or are at least lo. -/
def From (lo : Nat) (src l : List Nat) : Prop := ∀ b ∈ l, b ∈ src ∨ lo ≤ b
theorem From.mono {lo lo' : Nat} {src src' l : List Nat} (h : From lo src l) (hl : lo' ≤ lo) (hs : ∀ b ∈ src, b ∈ src' ∨ lo' ≤ b) : From lo' src' l := fun b hb => by
  rcases h b hb with h | h
  · exact hs b h
  · exact .inr (Nat.le_trans hl h)
theorem From.append {lo : Nat} {src a b : List Nat} (h : From lo src a) (k : From lo src b) : From lo src (a ++ b) := fun x hx => by
  rcases List.mem_append.1 hx with hx | hx
  · exact h x hx
  · exact k x hx
theorem From.nil (lo : Nat) (src : List Nat) : From lo src [] := fun _ h => by simp at h
theorem From.of_fresh {lo : Nat} {src l : List Nat} (h : Fresh lo l) : From lo src l := fun b hb => .inr (h b hb)
theorem From.refl (lo : Nat) (l : List Nat) : From lo l l := fun _ h => .inl h
theorem From.of_mem {lo : Nat} {src l : List Nat} (h : ∀ b ∈ l, b ∈ src) : From lo src l := fun b hb => .inl (h b hb)
theorem blocks_kid {op sa sc set ka kc kids mn mx mode n neg} {k : MRe} (hk : k ∈ kids) : ∀ b ∈ k.blocks, b ∈ (MRe.node op sa sc set ka kc kids mn mx mode n neg).blocks := fun b hb => by
  simp only [MRe.blocks, List.mem_append]
  exact .inr (.inr (MRe.mem_blocksL hk hb))

end Go.Proofs.YtgdmkddegcecaaaGreat
