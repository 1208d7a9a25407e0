/- meter.Shares where it refuses: a total or a weight out of range, too many weights, a sum of 0. Conditions: the weights lie in memory. -/
import Derived.Test.YtdpmkbiibmjbfaaShares
import Derived.Test.YtdpmkbiibmjbfaaSame
namespace Go.Proofs.Ytdpmkbiibmjbfaa
open Go.RowKit

set_option maxHeartbeats 1000000 in
theorem shares_empty (total : Int) (ao : Option Addr) (cap : Nat) (w : World) (ht0 : 0 ≤ total) (ht1 : total ≤ 1099511627776) :
    Calls Try.prog 11 #[.int .i64 total, .slice ao 0 cap] w fun e w' => e = .returned (.tuple #[.slice none 0 0, .int .i64 5]) ∧ Keeps [] w w' := by
  have ho0 : outB total 0 1099511627776 = false := by simp [outB]; omega
  have HO0 := Lib.hid ho0
  clear ho0
  go_enter Try.func11, Try.ntmps11
  go_wp2_with (go_at_call 27; refine (outside_any _ _ _ _).mono ?_; rintro e w' ⟨rfl, rfl⟩; rw [HO0.out])
  refine wp_loop_rounds 1 ?_
  rw [rounds_succ]
  go_wp2
  refine wp_loop_rounds 1 ?_
  rw [rounds_succ]
  go_wp2
  go_ret2
  exact ⟨rfl, (((Keeps.refl [] w).alloc _).alloc _).alloc _⟩

end Go.Proofs.Ytdpmkbiibmjbfaa
