/- rexmilllaw33.lives: the examples of the section hold. No condition. -/
import Derived.Test.YtdpmkbiibmjbfaaSame
import Derived.Test.YtdpmkbiibmjbfaaShares
namespace Go.Proofs.Ytdpmkbiibmjbfaa
open Go.RowKit

theorem lives_order (ord : List Int) (h1 : ord.Perm (upTo 3)) (h2 : ord.Pairwise (Before (keyOf 10 (sumL [1, 1, 1]) [1, 1, 1]))) : ord = upTo 3 := by
  refine stable_unique h1 h2 ?_
  have : upTo 3 = [0, 1, 2] := by decide
  rw [this]
  simp [Before, keyOf, sumL]

theorem lives_parts (ord : List Int) (h : ord = upTo 3) : bump (bases 10 (sumL [1, 1, 1]) [1, 1, 1]) (ord.take (10 - sumL (bases 10 (sumL [1, 1, 1]) [1, 1, 1])).toNat) = [4, 3, 3] := by
  subst h
  decide

set_option maxHeartbeats 4000000 in
theorem lives_any (w : World) : Calls Try.prog 14 #[] w fun e w' => e = .returned (.bool true) ∧ Keeps [] w w' := by
  go_enter Try.func14, Try.ntmps14
  go_wp2_with fail
  refine (new_ok 1 10 100 w (by decide)).mono ?_
  rintro e w1 ⟨rfl, hM1, hk1, hs1⟩
  have hM1' : MeterAt w1 (w.heap.size + 1) w.heap.size 10 100 0 [0] := hM1
  have HM1 := Lib.hid hM1'
  have HK1 := Lib.hid hk1
  clear hM1 hM1' hk1
  go_wp2_with fail
  have t1 := take_ok (w.heap.size + 1) w.heap.size 10 100 0 [0] 0 7 50 w1 HM1.out (by decide)
  rw [show usedAt 100 0 50 [0] = [0] from by decide, show min (7 : Int) (10 - ([0] : List Int)[(0 : Int).toNat]?.getD 0) = 7 from by decide,
    show ([0] : List Int).set (0 : Int).toNat (([0] : List Int)[(0 : Int).toNat]?.getD 0 + 7) = [7] from by decide] at t1
  refine Calls.mono t1 ?_
  rintro e w2 ⟨rfl, hM2, hk2⟩
  have HM2 := Lib.hid hM2
  have HK2 := Lib.hid (HK1.out.after hk2 (by simp))
  clear t1 hM2 hk2
  go_wp2_with fail
  have t2 := take_ok (w.heap.size + 1) w.heap.size 10 100 50 [7] 0 7 99 w2 HM2.out (by decide)
  rw [show usedAt 100 50 99 [7] = [7] from by decide, show min (7 : Int) (10 - ([7] : List Int)[(0 : Int).toNat]?.getD 0) = 3 from by decide,
    show ([7] : List Int).set (0 : Int).toNat (([7] : List Int)[(0 : Int).toNat]?.getD 0 + 3) = [10] from by decide] at t2
  refine Calls.mono t2 ?_
  rintro e w3 ⟨rfl, hM3, hk3⟩
  have HM3 := Lib.hid hM3
  have HK3 := Lib.hid (HK2.out.after hk3 (by simp))
  clear t2 hM3 hk3
  go_wp2_with fail
  have t3 := take_ok (w.heap.size + 1) w.heap.size 10 100 99 [10] 0 7 100 w3 HM3.out (by decide)
  rw [show usedAt 100 99 100 [10] = [0] from by decide, show min (7 : Int) (10 - ([0] : List Int)[(0 : Int).toNat]?.getD 0) = 7 from by decide] at t3
  refine Calls.mono t3 ?_
  rintro e w4 ⟨rfl, hM4, hk4⟩
  have HK4 := Lib.hid (HK3.out.after hk4 (by simp))
  clear t3 hM4 hk4
  go_wp2_with fail
  have hI5 : Ints 3 (w4.alloc (.cells #[.int .i64 1, .int .i64 1, .int .i64 1] 3)) w4.heap.size [1, 1, 1] := heap_alloc_new w4 _
  have sh := shares_ok 10 [1, 1, 1] w4.heap.size 0 3 (w4.alloc (.cells #[.int .i64 1, .int .i64 1, .int .i64 1] 3)) (by decide) (by decide) (by decide) (by decide) (by decide)
    (fun j hj => by rw [Nat.zero_add]; exact hI5.cellG j hj) (by simp) (sorts_small 3 (by decide))
  refine Calls.mono sh ?_
  rintro e w5 ⟨g, ord, rfl, hg, hk5, hp, hpw, hI⟩
  rw [lives_parts ord (lives_order ord hp hpw)] at hI
  have HI := Lib.hid hI
  have HK5 := Lib.hid ((HK4.out.alloc (.cells #[.int .i64 1, .int .i64 1, .int .i64 1] 3)).trans hk5)
  clear hp hpw hI hk5 sh hI5
  go_wp2_with fail
  have hI6 : Ints 3 (w5.alloc (.cells #[.int .i64 4, .int .i64 3, .int .i64 3] 3)) w5.heap.size [4, 3, 3] := heap_alloc_new w5 _
  have sm := same_any (some ⟨g, 0, none⟩) (some ⟨w5.heap.size, 0, none⟩) 3 3 [4, 3, 3] [4, 3, 3] (w5.alloc (.cells #[.int .i64 4, .int .i64 3, .int .i64 3] 3)) (HI.out.keep ((Keeps.refl [] w5).alloc _) (by simp)).to_in hI6.to_in (by decide) (by decide)
  refine Calls.mono sm ?_
  rintro e w6 ⟨rfl, n, rfl⟩
  clear hI6 sm
  go_wp2
  go_ret
  exact ⟨by simp, (HK5.out.alloc _).drewN n⟩

end Go.Proofs.Ytdpmkbiibmjbfaa
