/- A meter and its model side by side: what Pair says, and that the model's sums are what the meter has used. No condition: every lemma says its own. -/
import Derived.Test.YtdpmkbiibmjbfaaRef2
namespace Go.Proofs.Ytdpmkbiibmjbfaa
open Go.RowKit

structure Pair (w : World) (mb mu rb : Nat) (share period tick : Int) (used : List Int) (a : Option Nat) (c : Nat) (L : List (Int × Int × Int)) : Prop where
  m : MeterAt w mb mu share period tick used
  r : RefAt w rb used.length share period tick a c L
  n1 : rb ≠ mb
  n2 : rb ≠ mu
  n3 : a ≠ some mb
  n4 : a ≠ some mu
  agree : ∀ i, i < used.length → refAt period i tick L = used.getD i 0
  old : ∀ x ∈ L, x.2.2 ≤ tick

theorem refAt_later (period rule tick tick' : Int) (L : List (Int × Int × Int)) (hp : 1 ≤ period) (ht : tick ≤ tick') (hold : ∀ x ∈ L, x.2.2 ≤ tick) :
    refAt period rule tick' L = if tick' / period = tick / period then refAt period rule tick L else 0 := by
  split
  · rename_i h; unfold refAt; rw [h]
  · rename_i h
    have h1 : tick / period ≤ tick' / period := Int.ediv_le_ediv (by omega) ht
    have h2 : tick / period < tick' / period := by omega
    have key : ∀ (M : List (Int × Int × Int)) (z : Int), (∀ x ∈ M, x.2.2 ≤ tick) → M.foldl (fun n x => if x.1 = rule ∧ x.2.2 / period = tick' / period then n + x.2.1 else n) z = z := by
      intro M
      induction M with
      | nil => intro z _; rfl
      | cons x M ih =>
        intro z hM
        have hx := hM x (by simp)
        have h3 : x.2.2 / period ≤ tick / period := Int.ediv_le_ediv (by omega) hx
        simp only [List.foldl_cons]
        rw [if_neg (by omega)]
        exact ih z (fun y hy => hM y (by simp [hy]))
    exact key L 0 hold

theorem usedAt_get (period tk tick : Int) (used : List Int) (i : Nat) (hi : i < used.length) : (usedAt period tk tick used)[i]?.getD 0 = if tick / period = tk / period then used.getD i 0 else 0 := by
  unfold usedAt freshB
  by_cases h : tick / period = tk / period <;> simp [h, hi]

theorem Pair.at' {w : World} {mb mu rb : Nat} {share period tick : Int} {used : List Int} {a : Option Nat} {c : Nat} {L : List (Int × Int × Int)} (h : Pair w mb mu rb share period tick used a c L) (t : Int) (ht : tick ≤ t) (i : Int) (h0 : 0 ≤ i) (hi : i < used.length) :
    refAt period i t L = (usedAt period tick t used)[i.toNat]?.getD 0 := by
  obtain ⟨i, rfl⟩ := Int.eq_ofNat_of_zero_le h0
  rw [refAt_later period i tick t L h.m.per.1 ht h.old, Int.toNat_natCast, usedAt_get _ _ _ _ _ (by omega), h.agree i (by omega)]

/-- A step of both: one triple more, one number turned. -/
theorem agree_step (period tick t : Int) (used : List Int) (L : List (Int × Int × Int)) (r : Nat) (v : Int) (hp : 1 ≤ period) (ht : tick ≤ t) (hold : ∀ x ∈ L, x.2.2 ≤ tick) (hag : ∀ i, i < used.length → refAt period i tick L = used.getD i 0) :
    ∀ i : Nat, i < ((usedAt period tick t used).set r ((usedAt period tick t used)[r]?.getD 0 + v)).length → refAt period i t (L ++ [((r : Int), v, t)]) = ((usedAt period tick t used).set r ((usedAt period tick t used)[r]?.getD 0 + v)).getD i 0 := by
  intro i hi
  rw [List.length_set, usedAt_length] at hi
  rw [refAt_snoc, refAt_later period i tick t L hp ht hold, hag i hi]
  have hu := usedAt_get period tick t used i hi
  simp only [List.getD_eq_getElem?_getD, List.getElem?_set] at hu ⊢
  by_cases e : r = i
  · subst e
    simp only [true_and, if_true, usedAt_length, hi]
    simp [hu]
  · rw [if_neg (by simp; omega), if_neg e, hu]

theorem Pair.drewN {w : World} {mb mu rb : Nat} {share period tick : Int} {used : List Int} {a : Option Nat} {c : Nat} {L : List (Int × Int × Int)} (h : Pair w mb mu rb share period tick used a c L) (n : Nat) : Pair (w.drewN n) mb mu rb share period tick used a c L :=
  ⟨h.m.drewN n, h.r.drewN n, h.n1, h.n2, h.n3, h.n4, h.agree, h.old⟩
theorem Pair.keep {w w' : World} {S : List Nat} {mb mu rb : Nat} {share period tick : Int} {used : List Int} {a : Option Nat} {c : Nat} {L : List (Int × Int × Int)} (h : Pair w mb mu rb share period tick used a c L) (k : Keeps S w w') (h1 : mb ∉ S) (h2 : mu ∉ S) (h3 : rb ∉ S) (h4 : ∀ g, a = some g → g ∉ S) : Pair w' mb mu rb share period tick used a c L :=
  ⟨h.m.keep k h1 h2, h.r.keep k h3 h4, h.n1, h.n2, h.n3, h.n4, h.agree, h.old⟩

end Go.Proofs.Ytdpmkbiibmjbfaa
