/- Plain lists: the cut of symMerge, the rotated row and the two halves. No condition: every lemma says its own. -/
import Derived.Test.YtdpmkbiibmjbfaaRot
namespace Go.Proofs.Ytdpmkbiibmjbfaa

/-- The bounds of the search. -/
structure Srch (a m b mid s0 r0 : Nat) : Prop where
  am : a < m
  mb : m < b
  md : mid = (a + b) / 2
  sa : a ≤ s0
  sr : s0 ≤ r0
  rm : r0 ≤ m
  rd : r0 ≤ mid
  pb : mid + m ≤ s0 + b
  s1 : s0 = a ∨ s0 + b = mid + m
  r1 : r0 = m ∨ r0 = mid
theorem Srch.right {a m b : Nat} (h1 : a < m) (h2 : m < b) (h : (a + b) / 2 < m) : Srch a m b ((a + b) / 2) ((a + b) / 2 + m - b) ((a + b) / 2) :=
  ⟨h1, h2, rfl, by omega, by omega, by omega, by omega, by omega, .inr (by omega), .inr rfl⟩
theorem Srch.left {a m b : Nat} (h1 : a < m) (h2 : m < b) (h : m ≤ (a + b) / 2) : Srch a m b ((a + b) / 2) a m :=
  ⟨h1, h2, rfl, by omega, by omega, by omega, by omega, by omega, .inl rfl, .inl rfl⟩
theorem Desc.le {key : Int → Int} {xs : List Int} {a b : Nat} (h : Desc key xs a b) (p q : Nat) (h1 : a ≤ p) (h2 : p ≤ q) (h3 : q < b) : key (xs.getD q 0) ≤ key (xs.getD p 0) := by
  by_cases e : p = q
  · rw [e]; exact Int.le_refl _
  · exact h p q h1 (by omega) h3
theorem Srch.up {key : Int → Int} {xs : List Int} {a m b mid s0 r0 : Nat} (S : Srch a m b mid s0 r0) (d1 : Desc key xs a m) (d2 : Desc key xs m b) (h : Nat) (_h1 : s0 ≤ h) (h2 : h < r0) (hk : key (xs.getD (mid + m - 1 - h) 0) ≤ key (xs.getD h 0)) :
    ∀ k, s0 ≤ k → k ≤ h → key (xs.getD (mid + m - 1 - k) 0) ≤ key (xs.getD k 0) := by
  have ⟨_, _, _, _, _, _, _, _, _, _⟩ := S
  intro k k1 k2
  exact Int.le_trans (d2.le (mid + m - 1 - h) (mid + m - 1 - k) (by omega) (by omega) (by omega)) (Int.le_trans hk (d1.le k h (by omega) (by omega) (by omega)))
theorem Srch.dn {key : Int → Int} {xs : List Int} {a m b mid s0 r0 : Nat} (S : Srch a m b mid s0 r0) (d1 : Desc key xs a m) (d2 : Desc key xs m b) (h : Nat) (h1 : s0 ≤ h) (_h2 : h < r0) (hk : key (xs.getD h 0) < key (xs.getD (mid + m - 1 - h) 0)) :
    ∀ k, h ≤ k → k < r0 → key (xs.getD k 0) < key (xs.getD (mid + m - 1 - k) 0) := by
  have ⟨_, _, _, _, _, _, _, _, _, _⟩ := S
  intro k k1 k2
  exact Int.lt_of_le_of_lt (d1.le h k (by omega) (by omega) (by omega)) (Int.lt_of_lt_of_le hk (d2.le (mid + m - 1 - k) (mid + m - 1 - h) (by omega) (by omega) (by omega)))

/-- What the search finds. -/
structure Cut (key : Int → Int) (xs : List Int) (a m b mid st en : Nat) : Prop where
  sa : a ≤ st
  sm : st ≤ m
  sd : st ≤ mid
  me : m ≤ en
  eb : en ≤ b
  de : mid ≤ en
  sum : en + st = mid + m
  f1 : ∀ l r, a ≤ l → l < st → en ≤ r → r < b → key (xs.getD r 0) ≤ key (xs.getD l 0)
  f2 : ∀ l r, m ≤ l → l < en → st ≤ r → r < m → key (xs.getD r 0) < key (xs.getD l 0)
theorem Srch.cut {key : Int → Int} {xs : List Int} {a m b mid s0 r0 : Nat} (S : Srch a m b mid s0 r0) (d1 : Desc key xs a m) (d2 : Desc key xs m b) (st : Nat) (h1 : s0 ≤ st) (h2 : st ≤ r0)
    (lo : ∀ k, s0 ≤ k → k < st → key (xs.getD (mid + m - 1 - k) 0) ≤ key (xs.getD k 0)) (hi : ∀ k, st ≤ k → k < r0 → key (xs.getD k 0) < key (xs.getD (mid + m - 1 - k) 0)) : Cut key xs a m b mid st (mid + m - st) := by
  have ⟨am, mb, md, sa, sr, rm, rd, pb, s1, r1⟩ := S
  refine ⟨by omega, by omega, by omega, by omega, by omega, by omega, by omega, fun l r l1 l2 r1' r2 => ?_, fun l r l1 l2 r1' r2 => ?_⟩
  · by_cases e : s0 < st
    · have := lo (st - 1) (by omega) (by omega)
      rw [show mid + m - 1 - (st - 1) = mid + m - st by omega] at this
      exact Int.le_trans (d2.le (mid + m - st) r (by omega) r1' r2) (Int.le_trans this (d1.le l (st - 1) l1 (by omega) (by omega)))
    · rcases s1 with s1 | s1 <;> omega
  · by_cases e : st < r0
    · have := hi st (by omega) e
      exact Int.lt_of_le_of_lt (d1.le st r (by omega) r1' r2) (Int.lt_of_lt_of_le this (d2.le l (mid + m - 1 - st) l1 (by omega) (by omega)))
    · rcases r1 with r1 | r1 <;> omega

/-- Where the place k of the rotated row comes from. -/
def src (st m en k : Nat) : Nat := if k < st then k else if k < st + (en - m) then k - st + m else if k < en then k - (en - m) else k

/-- The rotated row. -/
structure Rotd (xs zs : List Int) (st m en : Nat) : Prop where
  perm : zs.Perm xs
  get : ∀ k, zs.getD k 0 = xs.getD (src st m en k) 0
theorem Rotd.of {xs zs : List Int} {st m en : Nat} (hm : m ≤ en) (hp : zs.Perm xs) (h1 : ∀ k, k < st ∨ en ≤ k → zs.getD k 0 = xs.getD k 0) (h2 : ∀ k, st ≤ k → k < en → zs.getD k 0 = rotF xs st m en k) (hs : st ≤ m) : Rotd xs zs st m en := by
  refine ⟨hp, fun k => ?_⟩
  unfold src
  by_cases c1 : k < st
  · rw [if_pos c1]; exact h1 k (.inl c1)
  · rw [if_neg c1]
    by_cases c2 : k < st + (en - m)
    · rw [if_pos c2, h2 k (by omega) (by omega), rotF, if_pos c2]
    · rw [if_neg c2]
      by_cases c3 : k < en
      · rw [if_pos c3, h2 k (by omega) c3, rotF, if_neg c2]
      · rw [if_neg c3]; exact h1 k (.inr (by omega))
theorem Rotd.same {xs : List Int} {st m en : Nat} (h : st = m ∨ en = m) : Rotd xs xs st m en := by
  refine ⟨.refl _, fun k => ?_⟩
  congr 1
  unfold src
  split
  · rfl
  · split
    · rcases h with h | h <;> omega
    · split
      · rcases h with h | h <;> omega
      · rfl

/-- The two halves after the rotation. -/
structure Halves (key : Int → Int) (xs zs : List Int) (a m b mid st en : Nat) : Prop where
  turned : Turned xs zs a b
  stab : Stab key zs
  d1 : Desc key zs a st
  d2 : Desc key zs st mid
  d3 : Desc key zs mid en
  d4 : Desc key zs en b
  cross : ∀ p q, a ≤ p → p < mid → mid ≤ q → q < b → key (zs.getD q 0) ≤ key (zs.getD p 0)
theorem Cut.halves {key : Int → Int} {xs zs : List Int} {a m b mid st en : Nat} (C : Cut key xs a m b mid st en) (hb : b ≤ xs.length) (d1 : Desc key xs a m) (d2 : Desc key xs m b) (hst : Stab key xs) (R : Rotd xs zs st m en) : Halves key xs zs a m b mid st en := by
  have ⟨sa, sm, sd, me, eb, de, sum, f1, f2⟩ := C
  have e1 : ∀ k, k < st → zs.getD k 0 = xs.getD k 0 := fun k h => by rw [R.get, src, if_pos h]
  have e2 : ∀ k, st ≤ k → k < mid → zs.getD k 0 = xs.getD (k - st + m) 0 := fun k h h' => by rw [R.get, src, if_neg (by omega), if_pos (by omega)]
  have e3 : ∀ k, mid ≤ k → k < en → zs.getD k 0 = xs.getD (k - (en - m)) 0 := fun k h h' => by rw [R.get, src, if_neg (by omega), if_neg (by omega), if_pos h']
  have e4 : ∀ k, en ≤ k → zs.getD k 0 = xs.getD k 0 := fun k h => by rw [R.get, src, if_neg (by omega), if_neg (by omega), if_neg (by omega)]
  refine ⟨⟨R.perm, fun k hk => ?_⟩, fun p q hpq hq hkey => ?_, fun p q h1 h2 h3 => ?_, fun p q h1 h2 h3 => ?_, fun p q h1 h2 h3 => ?_, fun p q h1 h2 h3 => ?_, fun p q h1 h2 h3 h4 => ?_⟩
  · rcases hk with hk | hk
    · exact e1 k (by omega)
    · exact e4 k (by omega)
  · have hl := R.perm.length_eq
    by_cases c : st ≤ p ∧ p < mid ∧ mid ≤ q ∧ q < en
    · rw [e2 p c.1 c.2.1, e3 q c.2.2.1 c.2.2.2] at hkey
      have := f2 (p - st + m) (q - (en - m)) (by omega) (by omega) (by omega) (by omega)
      omega
    · rw [R.get p, R.get q] at hkey ⊢
      refine hst _ _ ?_ ?_ hkey
      · unfold src; split <;> split <;> (try split) <;> (try split) <;> (try split) <;> (try split) <;> omega
      · unfold src; split <;> (try split) <;> (try split) <;> omega
  · rw [e1 p (by omega), e1 q h3]; exact d1 p q h1 h2 (by omega)
  · rw [e2 p h1 (by omega), e2 q (by omega) h3]; exact d2 _ _ (by omega) (by omega) (by omega)
  · rw [e3 p h1 (by omega), e3 q (by omega) h3]; exact d1 _ _ (by omega) (by omega) (by omega)
  · rw [e4 p h1, e4 q (by omega)]; exact d2 p q (by omega) h2 h3
  · by_cases c1 : p < st
    · rw [e1 p c1]
      by_cases c2 : q < en
      · rw [e3 q h3 c2]; exact d1.le p _ h1 (by omega) (by omega)
      · rw [e4 q (by omega)]; exact f1 p q h1 c1 (by omega) h4
    · rw [e2 p (by omega) h2]
      by_cases c2 : q < en
      · rw [e3 q h3 c2]; exact Int.le_of_lt (f2 _ _ (by omega) (by omega) (by omega) (by omega))
      · rw [e4 q (by omega)]; exact d2.le _ q (by omega) (by omega) h4

theorem take_eq {xs ys : List Int} (a : Nat) (hl : xs.length = ys.length) (h : ∀ k, k < a → xs.getD k 0 = ys.getD k 0) : xs.take a = ys.take a := by
  apply ext_getD (by simp [hl])
  intro k hk
  simp at hk
  have hka : k < a := by omega
  have := h k hka
  simpa [List.getD_eq_getElem?_getD, List.getElem?_take, hka] using this
theorem drop_eq {xs ys : List Int} (b : Nat) (hl : xs.length = ys.length) (h : ∀ k, b ≤ k → xs.getD k 0 = ys.getD k 0) : xs.drop b = ys.drop b := by
  apply ext_getD (by simp [hl])
  intro k hk
  have := h (b + k) (by omega)
  simpa [List.getD_eq_getElem?_getD, List.getElem?_drop] using this
/-- What stands within the part came from the part. -/
theorem Turned.sub {xs ys : List Int} {a b : Nat} (h : Turned xs ys a b) (hab : a ≤ b) (p : Nat) (h1 : a ≤ p) (h2 : p < b) (hb : b ≤ xs.length) : ∃ k, a ≤ k ∧ k < b ∧ ys.getD p 0 = xs.getD k 0 := by
  have hl := h.len
  have t1 := take_eq a hl (fun k hk => h.out k (.inl hk))
  have t2 := drop_eq b hl (fun k hk => h.out k (.inr hk))
  have hp := h.perm
  have sx : xs = xs.take a ++ ((xs.drop a).take (b - a) ++ xs.drop b) := by
    have : xs.drop b = (xs.drop a).drop (b - a) := by rw [List.drop_drop]; congr 1; omega
    rw [this, List.take_append_drop, List.take_append_drop]
  have sy : ys = ys.take a ++ ((ys.drop a).take (b - a) ++ ys.drop b) := by
    have : ys.drop b = (ys.drop a).drop (b - a) := by rw [List.drop_drop]; congr 1; omega
    rw [this, List.take_append_drop, List.take_append_drop]
  rw [sx, sy, t1, t2, List.perm_append_left_iff, List.perm_append_right_iff] at hp
  have hm : ys.getD p 0 ∈ (ys.drop a).take (b - a) := by
    rw [List.mem_iff_getElem?]
    refine ⟨p - a, ?_⟩
    rw [List.getElem?_take, if_pos (by omega), List.getElem?_drop, show a + (p - a) = p by omega, List.getElem?_eq_getElem (by omega), List.getD_eq_getElem?_getD, List.getElem?_eq_getElem (by omega)]
    rfl
  have hm2 := hp.mem_iff.1 hm
  rw [List.mem_iff_getElem?] at hm2
  obtain ⟨k, hk⟩ := hm2
  by_cases c : k < b - a
  · rw [List.getElem?_take, if_pos c, List.getElem?_drop] at hk
    exact ⟨a + k, by omega, by omega, by rw [List.getD_eq_getElem?_getD (l := xs), hk]; rfl⟩
  · rw [List.getElem?_take, if_neg c] at hk; cases hk

theorem Halves.done {key : Int → Int} {xs zs y1 y2 : List Int} {a m b mid st en : Nat} (H : Halves key xs zs a m b mid st en) (ham : a ≤ mid) (hmb : mid ≤ b) (hb : b ≤ xs.length) (t1 : Turned zs y1 a mid) (t2 : Turned y1 y2 mid b) (d1 : Desc key y1 a mid) (d2 : Desc key y2 mid b) :
    Turned xs y2 a b ∧ Desc key y2 a b := by
  refine ⟨H.turned.trans ((t1.mono (Nat.le_refl _) hmb).trans (t2.mono ham (Nat.le_refl _))), fun p q h1 h2 h3 => ?_⟩
  have l0 := H.turned.len
  have l1 := t1.len
  by_cases c1 : q < mid
  · rw [t2.out p (by omega), t2.out q (by omega)]; exact d1 p q h1 h2 c1
  · by_cases c2 : mid ≤ p
    · exact d2 p q c2 h2 h3
    · rw [t2.out p (by omega)]
      obtain ⟨k, k1, k2, k3⟩ := t1.sub ham p h1 (by omega) (by omega)
      obtain ⟨j, j1, j2, j3⟩ := t2.sub hmb q (by omega) h3 (by omega)
      rw [k3, j3, t1.out j (by omega)]
      exact H.cross k j k1 k2 j1 j2

end Go.Proofs.Ytdpmkbiibmjbfaa
