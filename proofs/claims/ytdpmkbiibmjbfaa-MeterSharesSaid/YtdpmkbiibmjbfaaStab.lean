/- Plain lists: stable order by a key (greatest first), adjacent exchanges. No condition: every lemma says its own. -/
import Derived.Test.YtdpmkbiibmjbfaaBase
namespace Go.Proofs.Ytdpmkbiibmjbfaa

/-- xs with places i and j exchanged. -/
def swp (xs : List Int) (i j : Nat) : List Int := (xs.set i (xs.getD j 0)).set j (xs.getD i 0)

theorem swp_length (xs : List Int) (i j : Nat) : (swp xs i j).length = xs.length := by simp [swp]
theorem swp_get (xs : List Int) (i j k : Nat) (hi : i < xs.length) (hj : j < xs.length) : (swp xs i j).getD k 0 = if k = j then xs.getD i 0 else if k = i then xs.getD j 0 else xs.getD k 0 := by
  simp only [swp, List.getD_eq_getElem?_getD, List.getElem?_set]
  by_cases h1 : j = k
  · subst h1; simp [hj]
  · by_cases h2 : i = k
    · subst h2; simp [h1, hi, Ne.symm h1]
    · simp [h1, h2, Ne.symm h1, Ne.symm h2]

theorem ext_getD {xs ys : List Int} (hl : xs.length = ys.length) (h : ∀ k, k < xs.length → xs.getD k 0 = ys.getD k 0) : xs = ys := by
  apply List.ext_getElem hl
  intro i h1 h2
  have := h i h1
  simpa [List.getD_eq_getElem?_getD, h1, h2] using this

theorem swp_comm (xs : List Int) (i j : Nat) (hi : i < xs.length) (hj : j < xs.length) : swp xs i j = swp xs j i :=
  ext_getD (by rw [swp_length, swp_length]) (fun k _ => by
    rw [swp_get _ _ _ _ hi hj, swp_get _ _ _ _ hj hi]
    by_cases h1 : k = j
    · by_cases h2 : k = i
      · rw [if_pos h1, if_pos h2, ← h1, ← h2]
      · rw [if_pos h1, if_neg h2, if_pos h1]
    · rw [if_neg h1, if_neg h1])

theorem swp_perm (xs : List Int) (i j : Nat) (hi : i < xs.length) (hj : j < xs.length) : (swp xs i j).Perm xs := by
  by_cases hij : i = j
  · subst hij
    have : swp xs i i = xs := ext_getD (swp_length _ _ _) (fun k _ => by rw [swp_get _ _ _ _ hi hi]; split <;> simp_all)
    rw [this]
  rw [List.perm_iff_count]
  intro a
  unfold swp
  rw [List.count_set (by simpa using hj), List.count_set hi]
  have e1 : (xs.set i (xs.getD j 0))[j]'(by simpa using hj) = xs[j] := by rw [List.getElem_set_ne hij]
  simp only [List.getD_eq_getElem?_getD, List.getElem?_eq_getElem hi, List.getElem?_eq_getElem hj, Option.getD_some]
  have p1 : 0 < List.count xs[i] xs := List.count_pos_iff.2 (by simp)
  have p2 : 0 < List.count xs[j] xs := List.count_pos_iff.2 (by simp)
  by_cases h1 : xs[i] = a <;> by_cases h2 : xs[j] = a
  · subst h1; simp_all
  · subst h1; simp_all
  · subst h2; simp_all
  · simp_all

/-- The order among places with one key is the order of the numbers. -/
def Stab (key : Int → Int) (xs : List Int) : Prop := ∀ p q, p < q → q < xs.length → key (xs.getD p 0) = key (xs.getD q 0) → xs.getD p 0 < xs.getD q 0
/-- From a to b the keys do not grow. -/
def Desc (key : Int → Int) (xs : List Int) (a b : Nat) : Prop := ∀ p q, a ≤ p → p < q → q < b → key (xs.getD q 0) ≤ key (xs.getD p 0)
/-- The same numbers, and outside a to b the same places. -/
structure Turned (xs ys : List Int) (a b : Nat) : Prop where
  perm : ys.Perm xs
  out : ∀ k, k < a ∨ b ≤ k → ys.getD k 0 = xs.getD k 0

theorem Turned.refl (xs : List Int) (a b : Nat) : Turned xs xs a b := ⟨.refl _, fun _ _ => rfl⟩
theorem Turned.len {xs ys : List Int} {a b : Nat} (h : Turned xs ys a b) : ys.length = xs.length := h.perm.length_eq
theorem Turned.trans {xs ys zs : List Int} {a b : Nat} (h : Turned xs ys a b) (k : Turned ys zs a b) : Turned xs zs a b :=
  ⟨k.perm.trans h.perm, fun i hi => (k.out i hi).trans (h.out i hi)⟩
theorem Turned.mono {xs ys : List Int} {a b a' b' : Nat} (h : Turned xs ys a b) (ha : a' ≤ a) (hb : b ≤ b') : Turned xs ys a' b' :=
  ⟨h.perm, fun i hi => h.out i (by omega)⟩
theorem Turned.swp (xs : List Int) (i j a b : Nat) (hi : i < xs.length) (hj : j < xs.length) (h1 : a ≤ i) (h2 : i < b) (h3 : a ≤ j) (h4 : j < b) : Turned xs (swp xs i j) a b :=
  ⟨swp_perm _ _ _ hi hj, fun k hk => by rw [swp_get _ _ _ _ hi hj, if_neg (by omega), if_neg (by omega)]⟩
theorem Turned.desc {key : Int → Int} {xs ys : List Int} {a b c d : Nat} (h : Turned xs ys a b) (hd : Desc key xs c d) (ho : d ≤ a ∨ b ≤ c) : Desc key ys c d := by
  intro p q h1 h2 h3
  rw [h.out p (by omega), h.out q (by omega)]
  exact hd p q h1 h2 h3

theorem Stab.swp_adj {key : Int → Int} {xs : List Int} (h : Stab key xs) (i : Nat) (hi : i + 1 < xs.length) (hk : key (xs.getD i 0) ≠ key (xs.getD (i + 1) 0)) : Stab key (swp xs i (i + 1)) := by
  intro p q hpq hq hkey
  rw [swp_length] at hq
  rw [swp_get _ _ _ _ (by omega) hi] at hkey ⊢
  rw [swp_get _ _ _ _ (by omega) hi] at hkey ⊢
  by_cases e1 : p = i + 1
  · rw [if_pos e1] at hkey ⊢
    rw [if_neg (by omega), if_neg (by omega)] at hkey ⊢
    exact h i q (by omega) hq hkey
  · rw [if_neg e1] at hkey ⊢
    by_cases e2 : p = i
    · rw [if_pos e2] at hkey ⊢
      by_cases e3 : q = i + 1
      · rw [if_pos e3] at hkey; exact absurd hkey.symm hk
      · rw [if_neg e3, if_neg (by omega)] at hkey ⊢
        exact h (i + 1) q (by omega) hq hkey
    · rw [if_neg e2] at hkey ⊢
      by_cases e3 : q = i + 1
      · rw [if_pos e3] at hkey ⊢
        exact h p i (by omega) (by omega) hkey
      · rw [if_neg e3] at hkey ⊢
        by_cases e4 : q = i
        · rw [if_pos e4] at hkey ⊢
          exact h p (i + 1) (by omega) hi hkey
        · rw [if_neg e4] at hkey ⊢
          exact h p q hpq hq hkey

/-- The inner loop of insertion sort: all but place j is in order up to i, and what has been passed is less. -/
structure Sink (key : Int → Int) (xs : List Int) (a j i : Nat) : Prop where
  rest : ∀ p q, a ≤ p → p < q → q ≤ i → p ≠ j → q ≠ j → key (xs.getD q 0) ≤ key (xs.getD p 0)
  less : ∀ q, j < q → q ≤ i → key (xs.getD q 0) < key (xs.getD j 0)

theorem Sink.start {key : Int → Int} {xs : List Int} {a i : Nat} (h : Desc key xs a i) : Sink key xs a i i :=
  ⟨fun p q h1 h2 h3 _ h5 => h p q h1 h2 (by omega), fun q h1 h2 => by omega⟩

theorem Sink.step {key : Int → Int} {xs : List Int} {a j i : Nat} (h : Sink key xs a (j + 1) i) (hi : i < xs.length) (ha : a ≤ j) (hj : j + 1 ≤ i) (hk : key (xs.getD j 0) < key (xs.getD (j + 1) 0)) : Sink key (swp xs j (j + 1)) a j i := by
  constructor
  · intro p q h1 h2 h3 h4 h5
    rw [swp_get _ _ _ _ (by omega) (by omega), swp_get _ _ _ _ (by omega) (by omega)]
    by_cases e1 : p = j + 1
    · rw [if_pos e1, if_neg (by omega), if_neg h5]
      exact h.rest j q ha (by omega) h3 (by omega) (by omega)
    · rw [if_neg e1, if_neg h4]
      by_cases e2 : q = j + 1
      · rw [if_pos e2]
        exact h.rest p j h1 (by omega) (by omega) e1 (by omega)
      · rw [if_neg e2, if_neg h5]
        exact h.rest p q h1 h2 h3 e1 e2
  · intro q h1 h2
    rw [swp_get _ _ _ _ (by omega) (by omega), swp_get _ _ _ _ (by omega) (by omega)]
    rw [if_neg (show ¬ j = j + 1 by omega), if_pos rfl]
    by_cases e2 : q = j + 1
    · rw [if_pos e2]; exact hk
    · rw [if_neg e2, if_neg (by omega)]
      exact h.less q (by omega) h2

theorem Sink.done {key : Int → Int} {xs : List Int} {a j i : Nat} (h : Sink key xs a j i) (hj : j ≤ i) (hk : j = a ∨ ∃ j', j = j' + 1 ∧ a ≤ j' ∧ key (xs.getD (j' + 1) 0) ≤ key (xs.getD j' 0)) : Desc key xs a (i + 1) := by
  intro p q h1 h2 h3
  by_cases e1 : p = j
  · subst e1; exact Int.le_of_lt (h.less q h2 (by omega))
  · by_cases e2 : q = j
    · subst e2
      rcases hk with rfl | ⟨j', rfl, h4, h5⟩
      · omega
      · by_cases e3 : p = j'
        · subst e3; exact h5
        · exact Int.le_trans h5 (h.rest p j' h1 (by omega) (by omega) e1 (by omega))
    · exact h.rest p q h1 h2 (by omega) e1 e2

/-- Two lists in stable order with the same numbers are one. -/
def Before (key : Int → Int) (x y : Int) : Prop := key y < key x ∨ (key x = key y ∧ x < y)
theorem pairwise_of {key : Int → Int} {xs : List Int} (h1 : Stab key xs) (h2 : Desc key xs 0 xs.length) : xs.Pairwise (Before key) := by
  rw [List.pairwise_iff_getElem]
  intro i j hi hj hij
  have a1 := h1 i j hij hj
  have a2 := h2 i j (Nat.zero_le _) hij hj
  simp only [List.getD_eq_getElem?_getD, List.getElem?_eq_getElem hi, List.getElem?_eq_getElem hj, Option.getD_some] at a1 a2
  unfold Before
  by_cases e : key xs[i] = key xs[j]
  · exact .inr ⟨e, a1 e⟩
  · exact .inl (by omega)
theorem stable_unique {key : Int → Int} {xs ys : List Int} (hp : xs.Perm ys) (h1 : xs.Pairwise (Before key)) (h2 : ys.Pairwise (Before key)) : xs = ys := by
  refine List.Perm.eq_of_pairwise (fun a b _ _ h3 h4 => ?_) h1 h2 hp
  unfold Before at h3 h4
  omega

end Go.Proofs.Ytdpmkbiibmjbfaa
