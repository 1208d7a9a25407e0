/- Plain law of the encoding: what is written is read again, and what is read is written so. No program in sight. -/
import Derived.Test.YtgdmkddegcecaaaGreatDec
namespace Go.Proofs.YtgdmkddegcecaaaGreat

theorem pow_le8 {i : Nat} (h : i ≤ 8) : (128 : Nat) ^ i ≤ 72057594037927936 := by
  have e8 : (128 : Nat) ^ 8 = 72057594037927936 := by decide
  rw [← e8]
  exact Nat.pow_le_pow_right (by omega) h
theorem pow_pos128 (i : Nat) : 0 < (128 : Nat) ^ i := Nat.pow_pos (by omega)

/-- What is written is read. -/
theorem rdU_vint : ∀ (i n : Nat) (rest : List Int), i ≤ 9 → n * 128 ^ i < 18446744073709551616 → (0 < i → n ≠ 0) → rdU i (vint n ++ rest) = (n, (vint n).length, 0) := by
  intro i n
  induction n using Nat.strongRecOn generalizing i with
  | _ n ih =>
    intro rest hi hn h0
    have h9 : i = 9 → n ≤ 1 := fun h => by
      subst h
      have e9 : (128 : Nat) ^ 9 = 9223372036854775808 := by decide
      rw [e9] at hn
      omega
    by_cases h : n < 128
    · rw [vint_small h]
      simp only [List.singleton_append]
      rw [rdU, if_neg (by
        rintro (⟨h1, h2⟩ | ⟨h1, h2⟩)
        · have := h9 h1; omega
        · exact h0 h1 (by omega)), if_pos (by omega)]
      simp
    · rw [vint_big (by omega)]
      simp only [List.cons_append]
      have h8 : i ≤ 8 := by
        by_cases e : i = 9
        · have := h9 e; omega
        · omega
      have h1 : n / 128 * 128 ^ (i + 1) < 18446744073709551616 := by
        rw [Nat.pow_succ, Nat.mul_comm (128 ^ i) 128, ← Nat.mul_assoc]
        have h2 : n / 128 * 128 ≤ n := Nat.div_mul_le_self n 128
        exact Nat.lt_of_le_of_lt (Nat.mul_le_mul_right _ h2) hn
      have h2 := ih (n / 128) (by omega) (i + 1) rest (by omega) h1 (fun _ => by omega)
      rw [rdU, if_neg (by
        rintro (⟨h3, h4⟩ | ⟨h3, h4⟩)
        · omega
        · omega), if_neg (by omega), h2]
      simp only [if_true, List.length_cons]
      congr 1
      omega
/-- What is read is written so. -/
theorem rdU_take : ∀ (l : List Int) (i : Nat), (∀ x ∈ l, 0 ≤ x ∧ x ≤ 255) → (rdU i l).2.2 = 0 → l = vint (rdU i l).1 ++ l.drop (rdU i l).2.1 ∧ (rdU i l).2.1 = (vint (rdU i l).1).length ∧ (0 < i → (rdU i l).1 ≠ 0) := by
  intro l
  induction l with
  | nil => intro i _ h; simp [rdU] at h
  | cons b l ih =>
    intro i hb h
    obtain ⟨b0, b1⟩ := hb b (by simp)
    rw [rdU] at h ⊢
    by_cases h1 : (i = 9 ∧ 1 < b) ∨ (0 < i ∧ b = 0)
    · rw [if_pos h1] at h; simp at h
    · rw [if_neg h1] at h ⊢
      by_cases h2 : b < 128
      · rw [if_pos h2]
        have e : ((b.toNat : Nat) : Int) = b := by omega
        rw [vint_small (by omega)]
        simp only [e]
        exact ⟨rfl, rfl, fun hi h0 => h1 (.inr ⟨hi, by omega⟩)⟩
      · rw [if_neg h2] at h ⊢
        by_cases h3 : (rdU (i + 1) l).2.2 = 0
        · rw [if_pos h3]
          obtain ⟨t1, t2, t3⟩ := ih (i + 1) (fun x hx => hb x (by simp [hx])) h3
          have t4 := t3 (by omega)
          simp only
          generalize (rdU (i + 1) l).1 = v at *
          generalize (rdU (i + 1) l).2.1 = k at *
          have e1 : ((b - 128).toNat + 128 * v) % 128 = (b - 128).toNat := by omega
          have e2 : ((b - 128).toNat + 128 * v) / 128 = v := by omega
          rw [vint_big (by omega), e1, e2]
          have e3 : (((b - 128).toNat + 128 : Nat) : Int) = b := by omega
          rw [e3, List.drop_succ_cons, List.cons_append, ← t1, List.length_cons, ← t2]
          exact ⟨rfl, rfl, fun _ => by omega⟩
        · rw [if_neg h3] at h; exact absurd h h3

theorem unzig_zig {x : Int} : unzig (Lib.zigzag x) = x := by unfold unzig Lib.zigzag; split <;> split <;> omega
theorem zig_unzig (n : Nat) : Lib.zigzag (unzig n) = n := by unfold unzig Lib.zigzag; split <;> split <;> omega
theorem unzig_i64 {n : Nat} (h : n < 18446744073709551616) : I64 (unzig n) := by unfold unzig I64; split <;> omega

theorem rdE_put (bs : List Int) (at_ n : Nat) (rest : List Int) (h : bs.drop at_ = vint n ++ rest) (hn : n < 18446744073709551616) : rdE bs at_ 0 = (n, (vint n).length, 0) := by
  unfold rdE
  rw [if_pos rfl, h]
  exact rdU_vint 0 n rest (by omega) (by simpa using hn) (by omega)
theorem rdE_get (bs : List Int) (at_ : Nat) (wrong : Int) (hb : ∀ x ∈ bs, 0 ≤ x ∧ x ≤ 255) (h : (rdE bs at_ wrong).2.2 = 0) :
    wrong = 0 ∧ bs.drop at_ = vint (rdE bs at_ wrong).1 ++ bs.drop (at_ + (rdE bs at_ wrong).2.1) := by
  unfold rdE at h ⊢
  by_cases hw : wrong = 0
  · rw [if_pos hw] at h ⊢
    obtain ⟨t1, t2, _⟩ := rdU_take (bs.drop at_) 0 (fun x hx => hb x (List.mem_of_mem_drop hx)) h
    rw [List.drop_drop] at t1
    exact ⟨hw, t1⟩
  · rw [if_neg hw] at h; exact absurd h hw

theorem drop_app {bs p r : List Int} {k : Nat} (h : bs.drop k = p ++ r) : bs.drop (k + p.length) = r := by
  rw [← List.drop_drop, h, List.drop_left]
theorem flat_pos (l : List Int) : l.length ≤ (l.flatMap vsint).length := by
  induction l with
  | nil => simp
  | cons x l ih => have := vsint_pos x; simp only [List.flatMap_cons, List.length_append, List.length_cons]; omega

theorem rdMany_put (bs : List Int) : ∀ (l : List Int) (at_ : Nat) (rest : List Int), bs.drop at_ = l.flatMap vsint ++ rest → (∀ x ∈ l, I64 x) → rdMany bs l.length at_ = (l, at_ + (l.flatMap vsint).length, 0) := by
  intro l
  induction l with
  | nil => intro at_ rest _ _; simp [rdMany]
  | cons x l ih =>
    intro at_ rest h hx
    have h1 := hx x (by simp)
    rw [List.flatMap_cons, List.append_assoc] at h
    have h2 := rdE_put bs at_ (Lib.zigzag x) _ h (Lib.zigzag_lt h1.1 h1.2)
    have h3 := ih (at_ + (vsint x).length) rest (drop_app h) (fun y hy => hx y (by simp [hy]))
    rw [List.length_cons, rdMany, h2]
    have e : (vint (Lib.zigzag x)).length = (vsint x).length := rfl
    simp only [e]
    rw [if_neg (by simp), h3, if_neg (by simp), unzig_zig]
    simp only [List.flatMap_cons, List.length_append, Nat.add_assoc]
theorem rdMany_get (bs : List Int) (hb : ∀ x ∈ bs, 0 ≤ x ∧ x ≤ 255) : ∀ (m at_ : Nat), (rdMany bs m at_).2.2 = 0 →
    bs.drop at_ = (rdMany bs m at_).1.flatMap vsint ++ bs.drop (rdMany bs m at_).2.1 ∧ (rdMany bs m at_).1.length = m ∧ ∀ x ∈ (rdMany bs m at_).1, I64 x := by
  intro m
  induction m with
  | zero => intro at_ _; simp [rdMany]
  | succ m ih =>
    intro at_ h
    rw [rdMany] at h ⊢
    by_cases h1 : (rdE bs at_ 0).2.2 ≠ 0
    · rw [if_pos h1] at h; exact absurd h h1
    · rw [if_neg h1] at h ⊢
      by_cases h2 : (rdMany bs m (at_ + (rdE bs at_ 0).2.1)).2.2 ≠ 0
      · rw [if_pos h2] at h; exact absurd h h2
      · rw [if_neg h2]
        obtain ⟨_, t1⟩ := rdE_get bs at_ 0 hb (Classical.not_not.1 h1)
        obtain ⟨t2, t3, t4⟩ := ih _ (Classical.not_not.1 h2)
        have hlt := rdE_lt bs at_ 0 hb
        simp only
        refine ⟨?_, by rw [List.length_cons, t3], ?_⟩
        · rw [t1, t2, List.flatMap_cons]
          have e : vsint (unzig (rdE bs at_ 0).1) = vint (rdE bs at_ 0).1 := by unfold vsint; rw [zig_unzig]
          rw [e, List.append_assoc]
        · intro x hx
          rcases List.mem_cons.1 hx with rfl | hx
          · exact unzig_i64 hlt
          · exact t4 x hx

theorem rdInts_put (bs : List Int) (l : List Int) (at_ : Nat) (rest : List Int) (h : bs.drop at_ = encInts l ++ rest) (hx : ∀ x ∈ l, I64 x) (hl : l.length < 18446744073709551616) : rdInts bs at_ 0 = (l, at_ + (encInts l).length, 0) := by
  unfold encInts at h ⊢
  rw [List.append_assoc] at h
  have h2 := rdE_put bs at_ l.length _ h hl
  have h3 := drop_app h
  have h4 := rdMany_put bs l _ rest h3 hx
  have h5 : l.length ≤ bs.length - (at_ + (vint l.length).length) := by
    have h6 : (bs.drop (at_ + (vint l.length).length)).length = bs.length - (at_ + (vint l.length).length) := List.length_drop
    rw [h3, List.length_append] at h6
    have := flat_pos l
    omega
  unfold rdInts
  rw [h2]
  simp only
  rw [if_neg (by simp), if_neg (by omega), h4, List.length_append, Nat.add_assoc]
theorem rdInts_get (bs : List Int) (hb : ∀ x ∈ bs, 0 ≤ x ∧ x ≤ 255) (at_ : Nat) (wrong : Int) (h : (rdInts bs at_ wrong).2.2 = 0) :
    wrong = 0 ∧ bs.drop at_ = encInts (rdInts bs at_ wrong).1 ++ bs.drop (rdInts bs at_ wrong).2.1 ∧ (rdInts bs at_ wrong).1.length ≤ bs.length ∧ ∀ x ∈ (rdInts bs at_ wrong).1, I64 x := by
  unfold rdInts at h ⊢
  by_cases h1 : (rdE bs at_ wrong).2.2 ≠ 0
  · rw [if_pos h1] at h; exact absurd h h1
  · rw [if_neg h1] at h ⊢
    by_cases h2 : bs.length - (at_ + (rdE bs at_ wrong).2.1) < (rdE bs at_ wrong).1
    · rw [if_pos h2] at h; simp at h
    · rw [if_neg h2] at h ⊢
      obtain ⟨t0, t1⟩ := rdE_get bs at_ wrong hb (Classical.not_not.1 h1)
      obtain ⟨t2, t3, t4⟩ := rdMany_get bs hb _ _ h
      refine ⟨t0, ?_, by rw [t3]; omega, t4⟩
      unfold encInts
      rw [t3, List.append_assoc, ← t2]
      exact t1

/-- The bytes of a step, and of steps, as pairs. -/
def encPair (p : Int × List Int) : List Int := vsint p.1 ++ encInts p.2
def encL (l : List (Int × List Int)) : List Int := vsint l.length ++ l.flatMap encPair
theorem encL_rows (rows : List SRow) : encSteps rows = encL (rows.map SRow.pair) := by
  unfold encSteps encL
  rw [List.length_map, List.flatMap_map]
  rfl
def PairOk (bound : Nat) (p : Int × List Int) : Prop := I64 p.1 ∧ p.2.length ≤ bound ∧ ∀ x ∈ p.2, I64 x

theorem rdSteps_put (bs : List Int) : ∀ (l : List (Int × List Int)) (at_ : Nat) (rest : List Int), bs.drop at_ = l.flatMap encPair ++ rest → (∀ p ∈ l, PairOk 1000000 p) → rdSteps bs l.length at_ 0 = (l, at_ + (l.flatMap encPair).length, 0) := by
  intro l
  induction l with
  | nil => intro at_ rest _ _; simp [rdSteps]
  | cons p l ih =>
    intro at_ rest h hp
    obtain ⟨x, is⟩ := p
    obtain ⟨p1, p2, p3⟩ := hp (x, is) (by simp)
    simp only at p1 p2 p3
    have e0 : encPair (x, is) = vsint x ++ encInts is := rfl
    rw [List.flatMap_cons, e0, List.append_assoc, List.append_assoc] at h
    have h2 := rdE_put bs at_ (Lib.zigzag x) _ h (Lib.zigzag_lt p1.1 p1.2)
    have h3 := drop_app h
    have h4 := rdInts_put bs is _ _ h3 p3 (by omega)
    have h5 := ih _ rest (drop_app h3) (fun q hq => hp q (by simp [hq]))
    have e : (vint (Lib.zigzag x)).length = (vsint x).length := rfl
    rw [List.length_cons, rdSteps, h2]
    simp only [e]
    rw [h4]
    simp only
    rw [h5, unzig_zig]
    simp only [List.flatMap_cons, e0, List.length_append, Nat.add_assoc]
theorem rdSteps_get (bs : List Int) (hb : ∀ x ∈ bs, 0 ≤ x ∧ x ≤ 255) : ∀ (m at_ : Nat) (wrong : Int), (rdSteps bs m at_ wrong).2.2 = 0 →
    wrong = 0 ∧ bs.drop at_ = (rdSteps bs m at_ wrong).1.flatMap encPair ++ bs.drop (rdSteps bs m at_ wrong).2.1 ∧ (rdSteps bs m at_ wrong).1.length = m ∧ ∀ p ∈ (rdSteps bs m at_ wrong).1, PairOk bs.length p := by
  intro m
  induction m with
  | zero => intro at_ wrong h; simp [rdSteps] at h ⊢; exact h
  | succ m ih =>
    intro at_ wrong h
    rw [rdSteps] at h ⊢
    simp only at h ⊢
    obtain ⟨t1, t2, t3, t4⟩ := ih _ _ h
    obtain ⟨u1, u2, u3, u4⟩ := rdInts_get bs hb _ _ t1
    obtain ⟨v1, v2⟩ := rdE_get bs at_ wrong hb u1
    have hlt := rdE_lt bs at_ wrong hb
    refine ⟨v1, ?_, by rw [List.length_cons, t3], ?_⟩
    · rw [v2, u2, t2, List.flatMap_cons]
      have e : vsint (unzig (rdE bs at_ wrong).1) = vint (rdE bs at_ wrong).1 := by unfold vsint; rw [zig_unzig]
      unfold encPair
      simp only
      rw [e, List.append_assoc, List.append_assoc]
    · intro p hp
      rcases List.mem_cons.1 hp with rfl | hp
      · exact ⟨unzig_i64 hlt, u3, u4⟩
      · exact t4 p hp

theorem pair_pos (p : Int × List Int) : 0 < (encPair p).length := by unfold encPair; rw [List.length_append]; have := vsint_pos p.1; omega
theorem pairs_len (l : List (Int × List Int)) : l.length ≤ (l.flatMap encPair).length := by
  induction l with
  | nil => simp
  | cons p l ih => have := pair_pos p; simp only [List.flatMap_cons, List.length_append, List.length_cons]; omega

/-- What Encode writes, Decode reads. -/
theorem decF_encL (l : List (Int × List Int)) (hl : l.length ≤ 1000000) (hp : ∀ p ∈ l, PairOk 1000000 p) : decF (encL l) = some l := by
  have h0 : (encL l).drop 0 = vint (Lib.zigzag l.length) ++ l.flatMap encPair := rfl
  have hz : Lib.zigzag (l.length : Int) < 18446744073709551616 := Lib.zigzag_lt (by omega) (by omega)
  have h1 := rdE_put (encL l) 0 _ _ h0 hz
  have h2 := drop_app h0
  rw [Nat.zero_add] at h2
  have h3 := rdSteps_put (encL l) l (vint (Lib.zigzag l.length)).length [] (by rw [h2, List.append_nil]) hp
  have h4 : (encL l).length = (vint (Lib.zigzag l.length)).length + (l.flatMap encPair).length := by unfold encL; rw [List.length_append]; rfl
  have h5 := pairs_len l
  unfold decF
  rw [h1]
  simp only
  rw [unzig_zig, if_neg (by omega), Int.toNat_natCast, h3]
  simp only
  rw [if_neg (by omega)]
/-- What Decode reads, Encode writes so. -/
theorem decF_get (bs : List Int) (hb : ∀ x ∈ bs, 0 ≤ x ∧ x ≤ 255) (l : List (Int × List Int)) (h : decF bs = some l) : bs = encL l ∧ l.length ≤ bs.length ∧ ∀ p ∈ l, PairOk bs.length p := by
  unfold decF at h
  by_cases h1 : unzig (rdE bs 0 0).1 < 0 ∨ (bs.length : Int) < unzig (rdE bs 0 0).1
  · rw [if_pos h1] at h; cases h
  · rw [if_neg h1] at h
    split at h
    · cases h
    · rename_i h2
      have h3 : (rdSteps bs (unzig (rdE bs 0 0).1).toNat (rdE bs 0 0).2.1 (rdE bs 0 0).2.2).2.2 = 0 := Classical.byContradiction fun hh => h2 (.inl hh)
      obtain ⟨t1, t2, t3, t4⟩ := rdSteps_get bs hb _ _ _ h3
      obtain ⟨_, v2⟩ := rdE_get bs 0 0 hb t1
      have h4 := Option.some.inj h
      rw [h4] at t2 t3 t4
      have h5 : bs.drop (rdSteps bs (unzig (rdE bs 0 0).1).toNat (rdE bs 0 0).2.1 (rdE bs 0 0).2.2).2.1 = [] := List.drop_eq_nil_of_le (by omega)
      rw [h5, List.append_nil] at t2
      rw [Nat.zero_add, List.drop_zero, t2] at v2
      refine ⟨?_, by omega, t4⟩
      unfold encL vsint
      rw [t3, show (((unzig (rdE bs 0 0).1).toNat : Nat) : Int) = unzig (rdE bs 0 0).1 by omega, zig_unzig]
      exact v2

theorem encStep_len3 (r : SRow) (h : I64 r.rule ∧ r.path.length ≤ 3 ∧ ∀ x ∈ r.path, I64 x) : (encStep r).length ≤ 50 := by
  have h1 := vsint_len h.1
  have h2 := encInts_len r.path h.2.2 (by omega)
  unfold encStep
  rw [List.length_append]
  omega
theorem encSteps_len3 (rows : List SRow) (h8 : rows.length ≤ 8) (h : ∀ r ∈ rows, I64 r.rule ∧ r.path.length ≤ 3 ∧ ∀ x ∈ r.path, I64 x) : (encSteps rows).length ≤ 410 := by
  have h1 : ∀ (l : List SRow), (∀ r ∈ l, I64 r.rule ∧ r.path.length ≤ 3 ∧ ∀ x ∈ r.path, I64 x) → (l.flatMap encStep).length ≤ 50 * l.length := by
    intro l
    induction l with
    | nil => intro _; simp
    | cons r l ih =>
      intro hl
      have a1 := encStep_len3 r (hl r (by simp))
      have a2 := ih (fun y hy => hl y (by simp [hy]))
      simp only [List.flatMap_cons, List.length_append, List.length_cons]
      omega
  have h2 := h1 rows h
  have h3 := vsint_len (x := rows.length) ⟨by omega, by omega⟩
  unfold encSteps
  rw [List.length_append]
  omega
/-- What Decode reads of at most 1000 bytes is within bounds. -/
theorem rowsOk_of {bs : List Int} (hl : bs.length ≤ 1000) (rows : List SRow) (h1 : (rows.map SRow.pair).length ≤ bs.length) (h2 : ∀ p ∈ rows.map SRow.pair, PairOk bs.length p) : RowsOk rows := by
  refine ⟨by rw [List.length_map] at h1; omega, fun r hr => ?_⟩
  obtain ⟨a1, a2, a3⟩ := h2 r.pair (List.mem_map.2 ⟨r, hr, rfl⟩)
  exact ⟨a1, by show r.path.length ≤ 1000; have : r.path.length ≤ bs.length := a2; omega, a3⟩

end Go.Proofs.YtgdmkddegcecaaaGreat
