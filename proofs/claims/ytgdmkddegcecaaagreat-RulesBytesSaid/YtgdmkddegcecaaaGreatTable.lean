/- rules.table: the rules in memory. No condition. -/
import Derived.Test.YtgdmkddegcecaaaGreatHead
namespace Go.Proofs.YtgdmkddegcecaaaGreat
open Go.RowKit

def tableCells : Array Value := #[.string ⟨#[102, 108, 97, 116]⟩, .func (Fn.func 40) #[] #[], .string ⟨#[109, 101, 114, 103, 101]⟩, .func (Fn.func 41) #[] #[], .string ⟨#[117, 110, 105, 116]⟩, .func (Fn.func 42) #[] #[], .string ⟨#[116, 119, 105, 110]⟩, .func (Fn.func 43) #[] #[], .string ⟨#[104, 101, 97, 100]⟩, .func (Fn.func 44) #[] #[], .string ⟨#[116, 97, 105, 108]⟩, .func (Fn.func 45) #[] #[], .string ⟨#[117, 110, 105, 111, 110]⟩, .func (Fn.func 46) #[] #[], .string ⟨#[111, 110, 99, 101]⟩, .func (Fn.func 47) #[] #[], .string ⟨#[110, 101, 115, 116]⟩, .func (Fn.func 48) #[] #[], .string ⟨#[115, 116, 97, 114, 115]⟩, .func (Fn.func 49) #[] #[], .string ⟨#[109, 97, 121, 98, 101]⟩, .func (Fn.func 50) #[] #[], .string ⟨#[112, 108, 117, 115]⟩, .func (Fn.func 51) #[] #[], .string ⟨#[104, 111, 108, 100]⟩, .func (Fn.func 52) #[] #[], .string ⟨#[112, 101, 101, 108]⟩, .func (Fn.func 53) #[] #[], .string ⟨#[115, 117, 114, 101]⟩, .func (Fn.func 54) #[] #[], .string ⟨#[108, 111, 111, 115, 101]⟩, .func (Fn.func 55) #[] #[], .string ⟨#[111, 119, 110]⟩, .func (Fn.func 56) #[] #[]]
/-- The function of rule r. -/
def ruleFn (r : Nat) : Nat := [40, 41, 42, 43, 44, 45, 46, 47, 48, 49, 50, 51, 52, 53, 54, 55, 56].getD r 0

set_option maxRecDepth 100000 in
set_option maxHeartbeats 4000000 in
theorem table_any (w : World) : Calls Tryz.prog 37 #[] w fun e w' => ∃ g, e = .returned (.slice (some ⟨g, 0, none⟩) 17 17) ∧ w'.heap[g]? = some (.cells tableCells 85 (0, 0)) ∧ Keeps [] w w' ∧ w.heap.size ≤ g := by
  go_enter Tryz.func37, Tryz.ntmps37
  go_wp2
  go_ret
  exact ⟨w.heap.size, rfl, heap_alloc_new w _, Keeps.a1 w _, Nat.le_refl _⟩

theorem table_fn (r : Nat) (h : r < 17) : tableCells[r * 2 + 1]? = some (.func (Fn.func (ruleFn r)) #[] #[]) := by
  obtain rfl | rfl | rfl | rfl | rfl | rfl | rfl | rfl | rfl | rfl | rfl | rfl | rfl | rfl | rfl | rfl | rfl : r = 0 ∨ r = 1 ∨ r = 2 ∨ r = 3 ∨ r = 4 ∨ r = 5 ∨ r = 6 ∨ r = 7 ∨ r = 8 ∨ r = 9 ∨ r = 10 ∨ r = 11 ∨ r = 12 ∨ r = 13 ∨ r = 14 ∨ r = 15 ∨ r = 16 := by omega
  all_goals rfl
theorem table_cell {w : World} {g : Nat} (h : w.heap[g]? = some (.cells tableCells 85 (0, 0))) (r : Nat) (hr : r < 17) : w.cell? ⟨g, r * 2 + 1, none⟩ = some (.func (Fn.func (ruleFn r)) #[] #[]) := by
  simp only [World.cell?, h]
  exact table_fn r hr

end Go.Proofs.YtgdmkddegcecaaaGreat
