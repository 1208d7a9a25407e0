/- Contracts of small functions over trees: greedy, star, nary. Conditions: the trees lie in memory. -/
import Derived.Test.YtgdmkddegcecaaaGreatTree
import Derived.Test.YtgdmkddegcecaaaGreatProg
namespace Go.Proofs.YtgdmkddegcecaaaGreat
open Go.RowKit

theorem infoRe : (Tryz.prog.info? 64).map (fun i => (i.zero, i.size, i.bytes)) = some (some (.agg #[.int .i64 0, .slice none 0 0, .slice none 0 0, .int .i64 0, .int .i64 0, .int .i64 0, .int .i64 0, .bool false]), 8, 96) := by kernel_rfl
theorem sizeRe : (Tryz.prog.info? 64).map (·.size) = some 8 := by kernel_rfl

def greedyB (op mn mx mode least most : Int) : Bool := op == 4 && (mode == 0 && (mn == least && mx == most))

set_option maxHeartbeats 400000 in
theorem greedy_any (m : MRe) (least most : Int) (w : World) :
    Calls Tryz.prog 73 #[m.val, .int .i64 least, .int .i64 most] w fun e w' => e = .returned (.bool (greedyB m.tree.op m.tree.mn m.tree.mx m.tree.mode least most)) ∧ Keeps [] w w' := by
  obtain ⟨op, sa, sc, set, ka, kc, kids, mn, mx, mode, n, neg⟩ := m
  simp only [MRe.val, MRe.tree, Tree.op, Tree.mn, Tree.mx, Tree.mode]
  by_cases h1 : op = 4
  · by_cases h2 : mode = 0
    · by_cases h3 : mn = least
      · by_cases h4 : mx = most
        all_goals
          go_enter Tryz.func73, Tryz.ntmps73
          go_wp2
          go_ret
          exact ⟨by simp [greedyB, *], (Keeps.refl [] w).alloc _⟩
      · go_enter Tryz.func73, Tryz.ntmps73
        go_wp2
        go_ret
        exact ⟨by simp [greedyB, *], (Keeps.refl [] w).alloc _⟩
    · go_enter Tryz.func73, Tryz.ntmps73
      go_wp2
      go_ret
      exact ⟨by simp [greedyB, *], (Keeps.refl [] w).alloc _⟩
  · go_enter Tryz.func73, Tryz.ntmps73
    go_wp2
    go_ret
    exact ⟨by simp [greedyB, *], (Keeps.refl [] w).alloc _⟩

def starB (t : Tree) : Bool := greedyB t.op t.mn t.mx t.mode 0 (-1)
theorem star_any (m : MRe) (w : World) :
    Calls Tryz.prog 72 #[m.val] w fun e w' => e = .returned (.bool (starB m.tree)) ∧ Keeps [] w w' := by
  obtain ⟨m', hm⟩ : ∃ m', m = m' := ⟨_, rfl⟩
  obtain ⟨op, sa, sc, set, ka, kc, kids, mn, mx, mode, n, neg⟩ := m
  rw [show MRe.val (.node op sa sc set ka kc kids mn mx mode n neg) = .agg #[.int .i64 op, .slice sa set.length sc, .slice ka kids.length kc, .int .i64 mn, .int .i64 mx, .int .i64 mode, .int .i64 n, .bool neg] from rfl]
  have HG := Lib.hid (fun W => greedy_any m' 0 (-1) W)
  rw [← hm] at HG
  simp only [MRe.val] at HG
  clear hm
  go_enter Tryz.func72, Tryz.ntmps72
  go_wp2_with fail
  refine Calls.mono (HG.out _) ?_
  rintro e w2 ⟨rfl, hk⟩
  have HK := Lib.hid hk
  clear hk
  go_wp2
  go_ret
  exact ⟨rfl, ((Keeps.refl [] w).alloc _).trans HK.out⟩

end Go.Proofs.YtgdmkddegcecaaaGreat
