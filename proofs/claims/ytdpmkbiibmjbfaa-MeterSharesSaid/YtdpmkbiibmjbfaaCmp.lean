/- The order by which Shares sorts, and cmp.Compare at int. Conditions: the captured variables and the weights lie in memory as CmpEnv says. -/
import Derived.Test.YtdpmkbiibmjbfaaProg
import Derived.Test.YtdpmkbiibmjbfaaBase
import Derived.BigQuiet
namespace Go.Proofs.Ytdpmkbiibmjbfaa
open Go.RowKit

theorem isnan_any (x : Int) (w : World) : Calls Try.prog 39 #[.int .i64 x] w fun e w' => e = .returned (.bool false) ∧ w = w' := by
  go_enter Try.func39, Try.ntmps39
  go_wp2
  go_ret
  exact ⟨by simp, rfl⟩

def cmpI (x y : Int) : Int := if x < y then -1 else if y < x then 1 else 0
theorem compare_any (x y : Int) (w : World) : Calls Try.prog 30 #[.int .i64 x, .int .i64 y] w fun e w' => e = .returned (.int .i64 (cmpI x y)) ∧ w = w' := by
  have HE := Lib.hid (show cmpI x y = if x < y then -1 else if y < x then 1 else 0 from rfl)
  generalize cmpI x y = r at *
  by_cases h1 : x < y
  · go_enter Try.func30, Try.ntmps30
    go_wp2_with (go_at_call 39; refine (isnan_any _ _).mono ?_; rintro e w' ⟨rfl, rfl⟩)
    go_ret
    exact ⟨by rw [HE.out, if_pos h1]; rfl, rfl⟩
  by_cases h2 : y < x
  · go_enter Try.func30, Try.ntmps30
    go_wp2_with (go_at_call 39; refine (isnan_any _ _).mono ?_; rintro e w' ⟨rfl, rfl⟩)
    go_ret
    exact ⟨by rw [HE.out, if_neg (by omega), if_pos h2]; rfl, rfl⟩
  · go_enter Try.func30, Try.ntmps30
    go_wp2_with (go_at_call 39; refine (isnan_any _ _).mono ?_; rintro e w' ⟨rfl, rfl⟩)
    go_ret
    exact ⟨by rw [HE.out, if_neg (by omega), if_neg (by omega)]; rfl, rfl⟩

/-- What the closure of Shares has captured, and the weights. -/
structure CmpEnv (w : World) (p q s bw off cap : Nat) (total sum : Int) (ws : List Int) : Prop where
  tot : w.cell? ⟨p, 0, none⟩ = some (.int .i64 total)
  wts : w.cell? ⟨q, 0, none⟩ = some (.slice (some ⟨bw, off, none⟩) ws.length cap)
  sm : w.cell? ⟨s, 0, none⟩ = some (.int .i64 sum)
  cel : ∀ j, j < ws.length → w.cell? ⟨bw, off + j, none⟩ = some (.int .i64 (ws.getD j 0))
  tb : 0 ≤ total ∧ total ≤ 1099511627776
  sb : 1 ≤ sum ∧ sum ≤ 1099511627776
  wb : ∀ x ∈ ws, 0 ≤ x ∧ x ≤ 1048576
  lb : ws.length ≤ 1000

theorem CmpEnv.drewN {w : World} {p q s bw off cap : Nat} {total sum : Int} {ws : List Int} (h : CmpEnv w p q s bw off cap total sum ws) (n : Nat) : CmpEnv (w.drewN n) p q s bw off cap total sum ws :=
  ⟨h.tot, h.wts, h.sm, h.cel, h.tb, h.sb, h.wb, h.lb⟩
theorem CmpEnv.keep {w w' : World} {S : List Nat} {p q s bw off cap : Nat} {total sum : Int} {ws : List Int} (h : CmpEnv w p q s bw off cap total sum ws) (k : Keeps S w w') (hp : p ∉ S) (hq : q ∉ S) (hs : s ∉ S) (hb : bw ∉ S) : CmpEnv w' p q s bw off cap total sum ws :=
  ⟨k.cell h.tot hp, k.cell h.wts hq, k.cell h.sm hs, fun j hj => k.cell (h.cel j hj) hb, h.tb, h.sb, h.wb, h.lb⟩

/-- What is left of the division for a weight, by its index. -/
def keyOf (total sum : Int) (ws : List Int) (i : Int) : Int := total * ws.getD i.toNat 0 % sum

set_option maxHeartbeats 400000 in
theorem cmp_any (p q s bw off cap : Nat) (total sum : Int) (ws : List Int) (i j : Int) (w : World) (hE : CmpEnv w p q s bw off cap total sum ws) (hi0 : 0 ≤ i) (hi : i < ws.length) (hj0 : 0 ≤ j) (hj : j < ws.length) :
    Calls Try.prog 29 #[.int .i64 i, .int .i64 j, .pointer (some ⟨p, 0, none⟩), .pointer (some ⟨q, 0, none⟩), .pointer (some ⟨s, 0, none⟩)] w fun e w' =>
      e = .returned (.int .i64 (cmpI (keyOf total sum ws j) (keyOf total sum ws i))) ∧ ∃ n, w' = w.drewN n := by
  obtain ⟨i, rfl⟩ := Int.eq_ofNat_of_zero_le hi0
  obtain ⟨j, rfl⟩ := Int.eq_ofNat_of_zero_le hj0
  have c1 := hE.tot
  have c2 := hE.wts
  have c3 := hE.sm
  have ci := hE.cel i (by omega)
  have cj := hE.cel j (by omega)
  obtain ⟨t0, t1⟩ := hE.tb
  obtain ⟨s0, s1⟩ := hE.sb
  have hl := hE.lb
  have hi' : i < ws.length := by omega
  have hj' : j < ws.length := by omega
  have bi := hE.wb (ws.getD i 0) (by simp [List.getD, hi'])
  have bj := hE.wb (ws.getD j 0) (by simp [List.getD, hj'])
  have ki : keyOf total sum ws i = total * ws.getD i 0 % sum := rfl
  have kj : keyOf total sum ws j = total * ws.getD j 0 % sum := rfl
  generalize ws.getD i 0 = x at *
  generalize ws.getD j 0 = y at *
  obtain ⟨x0, x1⟩ := bi
  obtain ⟨y0, y1⟩ := bj
  have mx0 : 0 ≤ total * x := Int.mul_nonneg t0 x0
  have my0 : 0 ≤ total * y := Int.mul_nonneg t0 y0
  have mx1 : total * x ≤ 1099511627776 * 1048576 := Int.mul_le_mul t1 x1 x0 (by omega)
  have my1 : total * y ≤ 1099511627776 * 1048576 := Int.mul_le_mul t1 y1 y0 (by omega)
  have KI := Lib.hid ki
  have KJ := Lib.hid kj
  clear hE ki kj
  go_enter Try.func29, Try.ntmps29
  go_wp2
  go_quiet ((go_at_call 30; exact quiet_left (compare_any _ _ _)))
  go_wp2
  go_ret
  exact ⟨by rw [KI.out, KJ.out]; rfl, _, rfl⟩

end Go.Proofs.Ytdpmkbiibmjbfaa
