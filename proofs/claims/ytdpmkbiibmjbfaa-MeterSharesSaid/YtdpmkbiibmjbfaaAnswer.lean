/- What meter.Shares answers, for every total and weights; how the reference's choice of the greatest remainder follows the stable order. Conditions: the weights lie in memory. -/
import Derived.Test.YtdpmkbiibmjbfaaShares0
import Derived.Test.YtdpmkbiibmjbfaaShares1
import Derived.Test.YtdpmkbiibmjbfaaStable
import Derived.Test.YtdpmkbiibmjbfaaFair
import Derived.Test.YtdpmkbiibmjbfaaSame
namespace Go.Proofs.Ytdpmkbiibmjbfaa
open Go.RowKit

/-- The answer of Shares: an error's number and the parts. -/
inductive Answer (T : Int) (ws : List Int) : Int → List Int → Prop
  | total (h : outB T 0 1099511627776 = true) : Answer T ws 1 []
  | weight (h : outB T 0 1099511627776 = false) (m : Nat) (hm : m < ws.length) (hb : outB (ws.getD m 0) 0 1048576 = true) : Answer T ws 1 []
  | many (h : outB T 0 1099511627776 = false) (hw : ∀ x ∈ ws, 0 ≤ x ∧ x ≤ 1048576) (hl : 500 < ws.length) : Answer T ws 4 []
  | zero (h : outB T 0 1099511627776 = false) (hw : ∀ x ∈ ws, 0 ≤ x ∧ x ≤ 1048576) (hl : ws.length ≤ 500) (hs : sumL ws = 0) : Answer T ws 5 []
  | parts (h : outB T 0 1099511627776 = false) (hw : ∀ x ∈ ws, 0 ≤ x ∧ x ≤ 1048576) (hl : ws.length ≤ 500) (hs : 0 < sumL ws) (ord : List Int) (hp : ord.Perm (upTo ws.length)) (hpw : ord.Pairwise (Before (keyOf T (sumL ws) ws))) :
      Answer T ws 0 (bump (bases T (sumL ws) ws) (ord.take (T - sumL (bases T (sumL ws) ws)).toNat))

theorem shares_every (T : Int) (ws : List Int) (a : Option Addr) (c : Nat) (w : World) (hx : IntsIn w a ws) (hlen : ws.length ≤ 1000000) :
    Calls Try.prog 11 #[.int .i64 T, .slice a ws.length c] w fun e w' =>
      ∃ (code : Int) (ps : List Int) (a' : Option Addr) (c' : Nat), e = .returned (.tuple #[.slice a' ps.length c', .int .i64 code]) ∧ Answer T ws code ps ∧ IntsIn w' a' ps ∧ Keeps [] w w' := by
  have hnil : ∀ w' : World, IntsIn w' none [] := fun _ h => by simp at h
  cases ht : outB T 0 1099511627776 with
  | true => exact (shares_badTotal T a ws.length c w ht).mono fun e w' ⟨h1, h2⟩ => ⟨1, [], none, 0, h1, .total ht, hnil _, h2⟩
  | false =>
    have ht2 : 0 ≤ T ∧ T ≤ 1099511627776 := by simp [outB] at ht; omega
    by_cases h0 : ws.length = 0
    · have hw0 : ws = [] := List.eq_nil_of_length_eq_zero h0
      rw [h0]
      exact (shares_empty T a c w ht2.1 ht2.2).mono fun e w' ⟨h1, h2⟩ => ⟨5, [], none, 0, h1, .zero ht (by rw [hw0]; simp) (by omega) (by rw [hw0]; rfl), hnil _, h2⟩
    · obtain ⟨b, off, rfl, hc⟩ := hx (by omega)
      have hbw : b < w.heap.size := World.block_lt_of_cell? w _ (hc 0 (by omega))
      by_cases hbad : ∃ m, m < ws.length ∧ outB (ws.getD m 0) 0 1048576 = true
      · obtain ⟨m, hm, hb⟩ := hbad
        exact (shares_badWeight T ws b off c w ht hlen m hm hb hc hbw).mono fun e w' ⟨h1, h2⟩ => ⟨1, [], none, 0, h1, .weight ht m hm hb, hnil _, h2⟩
      · have hw : ∀ x ∈ ws, 0 ≤ x ∧ x ≤ 1048576 := fun x hx => by
          obtain ⟨m, hm, rfl⟩ := List.mem_iff_getElem.1 hx
          have h1 : ¬ outB (ws.getD m 0) 0 1048576 = true := fun h => hbad ⟨m, hm, h⟩
          simp [outB, hm] at h1
          omega
        by_cases hl : 500 < ws.length
        · exact (shares_many T ws b off c w ht hlen hl hw hc hbw).mono fun e w' ⟨h1, h2⟩ => ⟨4, [], none, 0, h1, .many ht hw hl, hnil _, h2⟩
        · have hl2 : ws.length ≤ 500 := by omega
          have hs0 := sumL_nonneg ws (fun x hx => (hw x hx).1)
          by_cases hs : sumL ws = 0
          · exact (shares_zero T ws b off c w ht2.1 ht2.2 hw hl2 hs hc hbw).mono fun e w' ⟨h1, h2⟩ => ⟨5, [], none, 0, h1, .zero ht hw hl2 hs, hnil _, h2⟩
          · have hs1 : 0 < sumL ws := by omega
            refine (shares_ok T ws b off c w ht2.1 ht2.2 hw hl2 hs1 hc hbw (sorts_any _ (by omega))).mono fun e w' ⟨g, ord, h1, _, h2, hp, hpw, hi⟩ => ?_
            exact ⟨0, _, some ⟨g, 0, none⟩, ws.length, by rw [h1, bump_length, bases_length], .parts ht hw hl2 hs1 ord hp hpw, hi.to_in, h2⟩

/-- Places that are used up. -/
def mark (l : List Int) : List Int → List Int
  | [] => l
  | i :: r => mark (l.set i.toNat (-1)) r
theorem mark_length (l r : List Int) : (mark l r).length = l.length := by
  induction r generalizing l with
  | nil => rfl
  | cons i r ih => rw [mark, ih]; simp
theorem mark_snoc (l r : List Int) (i : Int) : mark l (r ++ [i]) = (mark l r).set i.toNat (-1) := by
  induction r generalizing l with
  | nil => rfl
  | cons j r ih => simp only [List.cons_append, mark]; exact ih _
theorem mark_get (l r : List Int) (hb : ∀ x ∈ r, 0 ≤ x ∧ x < l.length) (j : Nat) : (mark l r).getD j 0 = if (j : Int) ∈ r then -1 else l.getD j 0 := by
  induction r generalizing l with
  | nil => simp [mark]
  | cons i r ih =>
    have hi := hb i (by simp)
    rw [mark, ih _ (by intro x hx; simpa using hb x (by simp [hx])), set_getD _ _ _ _ (by omega)]
    by_cases e : j = i.toNat
    · subst e
      have e2 : ((i.toNat : Nat) : Int) = i := by omega
      rw [e2, if_pos rfl, if_pos (List.mem_cons_self)]
      split <;> rfl
    · have e2 : ¬ (j : Int) = i := by omega
      rw [if_neg e]
      simp [e2]

/-- The first of the greatest among the first i. -/
structure Best (l : List Int) (i best : Nat) : Prop where
  lt : best < l.length
  ge : ∀ p, p < i → l.getD p 0 ≤ l.getD best 0
  first : ∀ p, p < best → l.getD p 0 < l.getD best 0
theorem Best.zero (l : List Int) (h : 0 < l.length) : Best l 0 0 := ⟨h, fun p hp => by omega, fun p hp => by omega⟩
theorem Best.up {l : List Int} {i best : Nat} (h : Best l i best) (hi : i < l.length) (hg : l.getD best 0 < l.getD i 0) : Best l (i + 1) i :=
  ⟨hi, fun p hp => by
    by_cases e : p = i
    · subst e; exact Int.le_refl _
    · have := h.ge p (by omega); omega, fun p hp => by have := h.ge p hp; omega⟩
theorem Best.stay {l : List Int} {i best : Nat} (h : Best l i best) (hg : ¬ l.getD best 0 < l.getD i 0) : Best l (i + 1) best :=
  ⟨h.lt, fun p hp => by
    by_cases e : p = i
    · subst e; omega
    · exact h.ge p (by omega), h.first⟩

/-- What is left over of each weight. -/
def rests (T S : Int) (ws : List Int) : List Int := ws.map fun x => T * x % S
theorem rests_length (T S : Int) (ws : List Int) : (rests T S ws).length = ws.length := by simp [rests]
theorem rests_get (T S : Int) (ws : List Int) (k : Nat) (h : k < ws.length) : (rests T S ws).getD k 0 = keyOf T S ws k := by simp [rests, keyOf, h]

theorem best_is (T : Int) (ws ord : List Int) (hs : 0 < sumL ws) (hp : ord.Perm (upTo ws.length)) (hpw : ord.Pairwise (Before (keyOf T (sumL ws) ws))) (t : Nat) (ht : t < ord.length) (best : Nat)
    (h : Best (mark (rests T (sumL ws) ws) (ord.take t)) ws.length best) : ord[t] = (best : Int) := by
  have hm : ∀ x ∈ ord, 0 ≤ x ∧ x < ws.length := fun x hx => upTo_mem _ _ (hp.mem_iff.1 hx)
  have hnd : ord.Nodup := hp.nodup_iff.2 (upTo_nodup _)
  have hg := fun j => mark_get (rests T (sumL ws) ws) (ord.take t) (fun x hx => by rw [rests_length]; exact hm x (List.mem_of_mem_take hx)) j
  have hk : ∀ y, 0 ≤ keyOf T (sumL ws) ws y := fun y => Int.emod_nonneg _ (by omega)
  have hlt := h.lt
  rw [mark_length, rests_length] at hlt
  obtain ⟨o, ho⟩ : ∃ o : Nat, ord[t] = (o : Int) := ⟨ord[t].toNat, by have := hm ord[t] (List.getElem_mem _); omega⟩
  have hol : o < ws.length := by have := hm ord[t] (List.getElem_mem _); omega
  have hoo := hg o
  rw [if_neg (fun hin => by
    obtain ⟨u, hu, hue⟩ := List.mem_iff_getElem.1 hin
    rw [List.getElem_take] at hue
    simp at hu
    exact List.pairwise_iff_getElem.1 hnd u t (by omega) ht (by omega) (hue.trans ho.symm)), rests_get _ _ _ _ hol] at hoo
  have h1 := h.ge o hol
  have hbo : (best : Int) ∈ ord := hp.mem_iff.2 (by simp [upTo]; exact ⟨best, hlt, rfl⟩)
  obtain ⟨u, hu, hue⟩ := List.mem_iff_getElem.1 hbo
  have hbb := hg best
  have hnt : ¬ (best : Int) ∈ ord.take t := fun hin => by
    rw [if_pos hin] at hbb
    have := hk o
    omega
  rw [if_neg hnt, rests_get _ _ _ _ hlt] at hbb
  have hut : t ≤ u := by
    apply Nat.le_of_not_lt
    intro hlt2
    apply hnt
    rw [List.mem_iff_getElem]
    exact ⟨u, by simp; omega, by rw [List.getElem_take]; exact hue⟩
  by_cases e : u = t
  · subst e; exact hue
  · have hb := List.pairwise_iff_getElem.1 hpw t u ht hu (by omega)
    rw [ho, hue] at hb
    have h2 := h.first o
    unfold Before at hb
    omega

end Go.Proofs.Ytdpmkbiibmjbfaa
