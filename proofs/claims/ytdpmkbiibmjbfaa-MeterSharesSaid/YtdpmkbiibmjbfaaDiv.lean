/- Plain arithmetic of an exact division among weights. No condition: every lemma says its own. -/
import Derived.Test.YtdpmkbiibmjbfaaStab
namespace Go.Proofs.Ytdpmkbiibmjbfaa

def fillTo (L : List Int) (k : Nat) : List Int := L.take k ++ List.replicate (L.length - k) 0
theorem fillTo_length (L : List Int) (k : Nat) (h : k ≤ L.length) : (fillTo L k).length = L.length := by simp [fillTo]; omega
theorem fillTo_zero (L : List Int) : fillTo L 0 = List.replicate L.length 0 := by simp [fillTo]
theorem fillTo_all (L : List Int) : fillTo L L.length = L := by simp [fillTo]
theorem fillTo_get (L : List Int) (k i : Nat) (h : i < k) (hk : k ≤ L.length) : (fillTo L k).getD i 0 = L.getD i 0 := by
  simp only [fillTo, List.getD_eq_getElem?_getD]
  rw [List.getElem?_append_left (by simp; omega), List.getElem?_take, if_pos h]
theorem fillTo_get2 (L : List Int) (k i : Nat) (h : k ≤ i) (hi : i < L.length) : (fillTo L k).getD i 0 = 0 := by
  simp only [fillTo, List.getD_eq_getElem?_getD]
  rw [List.getElem?_append_right (by simp; omega)]
  simp [List.getElem?_replicate]
  split <;> rfl
theorem fillTo_set (L : List Int) (k : Nat) (h : k < L.length) : (fillTo L k).set k (L.getD k 0) = fillTo L (k + 1) := by
  apply ext_getD
  · rw [List.length_set, fillTo_length _ _ (by omega), fillTo_length _ _ (by omega)]
  · intro i hi
    rw [List.length_set, fillTo_length _ _ (by omega)] at hi
    by_cases e : i = k
    · subst e
      rw [fillTo_get _ _ _ (by omega) (by omega)]
      simp [List.getD_eq_getElem?_getD, fillTo_length _ _ (Nat.le_of_lt h), h]
    · have e1 : ((fillTo L k).set k (L.getD k 0)).getD i 0 = (fillTo L k).getD i 0 := by
        simp only [List.getD_eq_getElem?_getD, List.getElem?_set]; rw [if_neg (fun h => e h.symm)]
      rw [e1]
      by_cases h1 : i < k
      · rw [fillTo_get _ _ _ h1 (by omega), fillTo_get _ _ _ (by omega) (by omega)]
      · rw [fillTo_get2 _ _ _ (by omega) hi, fillTo_get2 _ _ _ (by omega) hi]

def sumL (l : List Int) : Int := l.foldr (· + ·) 0
theorem sumL_append (a b : List Int) : sumL (a ++ b) = sumL a + sumL b := by
  induction a with
  | nil => simp [sumL]
  | cons x a ih => simp only [sumL, List.cons_append, List.foldr_cons] at ih ⊢; omega
theorem sumL_snoc (a : List Int) (x : Int) : sumL (a ++ [x]) = sumL a + x := by rw [sumL_append]; simp [sumL]
theorem take_snoc (l : List Int) (k : Nat) (h : k < l.length) : l.take (k + 1) = l.take k ++ [l.getD k 0] := by
  rw [List.take_succ_eq_append_getElem h]; simp [h]
theorem sumL_take (l : List Int) (k : Nat) (h : k < l.length) : sumL (l.take (k + 1)) = sumL (l.take k) + l.getD k 0 := by rw [take_snoc l k h, sumL_snoc]
theorem sumL_bd (l : List Int) (m : Int) (h : ∀ x ∈ l, 0 ≤ x ∧ x ≤ m) : 0 ≤ sumL l ∧ sumL l ≤ m * l.length := by
  induction l with
  | nil => simp [sumL]
  | cons x l ih =>
    have h1 := h x (by simp)
    have h2 := ih (fun y hy => h y (by simp [hy]))
    simp only [sumL, List.foldr_cons, List.length_cons] at h2 ⊢
    have : m * ((l.length + 1 : Nat) : Int) = m * l.length + m := by rw [Int.natCast_add, Int.mul_add]; simp
    omega

/-- What each weight gets, rounded down. -/
def bases (total sum : Int) (ws : List Int) : List Int := ws.map fun x => total * x / sum
theorem bases_length (total sum : Int) (ws : List Int) : (bases total sum ws).length = ws.length := by simp [bases]
theorem bases_get (total sum : Int) (ws : List Int) (k : Nat) (h : k < ws.length) : (bases total sum ws).getD k 0 = total * ws.getD k 0 / sum := by simp [bases, h]

theorem sumL_nonneg (l : List Int) (h : ∀ x ∈ l, 0 ≤ x) : 0 ≤ sumL l := by
  induction l with
  | nil => simp [sumL]
  | cons y l ih =>
    have h1 := ih (fun z hz => h z (by simp [hz]))
    have h2 := h y (by simp)
    simp only [sumL, List.foldr_cons] at h1 ⊢
    omega
theorem mem_le_sumL (l : List Int) (h : ∀ x ∈ l, 0 ≤ x) (x : Int) (hx : x ∈ l) : x ≤ sumL l := by
  induction l with
  | nil => simp at hx
  | cons y l ih =>
    have h1 := sumL_nonneg l (fun z hz => h z (by simp [hz]))
    simp only [sumL, List.foldr_cons] at ih h1 ⊢
    rcases List.mem_cons.1 hx with rfl | hx
    · omega
    · have := ih (fun z hz => h z (by simp [hz])) hx
      have := h y (by simp)
      omega
theorem base_bd (total sum x : Int) (ht : 0 ≤ total) (hs : 0 < sum) (hx0 : 0 ≤ x) (hx1 : x ≤ sum) : 0 ≤ total * x / sum ∧ total * x / sum ≤ total := by
  refine ⟨Int.ediv_nonneg (Int.mul_nonneg ht hx0) (Int.le_of_lt hs), ?_⟩
  refine Int.ediv_le_of_le_mul hs ?_
  exact Int.mul_le_mul_of_nonneg_left hx1 ht
theorem bases_bd (total : Int) (ws : List Int) (ht : 0 ≤ total) (hw : ∀ x ∈ ws, 0 ≤ x) (hs : 0 < sumL ws) : ∀ x ∈ bases total (sumL ws) ws, 0 ≤ x ∧ x ≤ total := by
  intro x hx
  simp only [bases, List.mem_map] at hx
  obtain ⟨y, hy, rfl⟩ := hx
  exact base_bd total _ y ht hs (hw y hy) (mem_le_sumL ws hw y hy)
theorem rest_eq (total sum : Int) (ws : List Int) : total * sumL ws = sum * sumL (bases total sum ws) + sumL (ws.map fun x => total * x % sum) := by
  induction ws with
  | nil => simp [sumL, bases]
  | cons x ws ih =>
    simp only [bases, List.map_cons, sumL, List.foldr_cons] at ih ⊢
    have := Int.mul_ediv_add_emod (total * x) sum
    rw [Int.mul_add, Int.mul_add]
    omega
theorem rest_bd (total sum : Int) (ws : List Int) (hs : 0 < sum) : 0 ≤ sumL (ws.map fun x => total * x % sum) ∧ sumL (ws.map fun x => total * x % sum) ≤ (sum - 1) * ws.length := by
  have := sumL_bd (ws.map fun x => total * x % sum) (sum - 1) (by
    intro y hy
    simp only [List.mem_map] at hy
    obtain ⟨x, _, rfl⟩ := hy
    have h1 := Int.emod_nonneg (total * x) (show sum ≠ 0 by omega)
    have h2 := Int.emod_lt_of_pos (total * x) hs
    omega)
  simpa using this

/-- What is left goes to at most as many weights as there are. -/
theorem left_bd (total : Int) (ws : List Int) (hs : 0 < sumL ws) : 0 ≤ total - sumL (bases total (sumL ws) ws) ∧ total - sumL (bases total (sumL ws) ws) ≤ ws.length := by
  have h1 := rest_eq total (sumL ws) ws
  have h2 := rest_bd total (sumL ws) ws hs
  generalize sumL (bases total (sumL ws) ws) = B at *
  generalize sumL (ws.map fun x => total * x % sumL ws) = R at *
  generalize sumL ws = s at *
  have h3 : s * (total - B) = R := by rw [Int.mul_sub, Int.mul_comm s total]; omega
  constructor
  · apply Int.not_lt.1
    intro hneg
    have : s * (total - B) < 0 := Int.mul_neg_of_pos_of_neg hs hneg
    omega
  · apply Int.not_lt.1
    intro hbig
    have h4 : s * (ws.length + 1) ≤ s * (total - B) := Int.mul_le_mul_of_nonneg_left (by omega) (by omega)
    have h5 : (s - 1) * (ws.length : Int) = s * ws.length - ws.length := by rw [Int.sub_mul]; simp
    have h6 : s * ((ws.length : Int) + 1) = s * ws.length + s := by rw [Int.mul_add]; simp
    omega

/-- One more for each index in a list. -/
def bump (l : List Int) : List Int → List Int
  | [] => l
  | i :: r => bump (l.set i.toNat (l.getD i.toNat 0 + 1)) r
theorem bump_length (l r : List Int) : (bump l r).length = l.length := by
  induction r generalizing l with
  | nil => rfl
  | cons i r ih => rw [bump, ih]; simp
theorem bump_snoc (l r : List Int) (i : Int) : bump l (r ++ [i]) = (bump l r).set i.toNat ((bump l r).getD i.toNat 0 + 1) := by
  induction r generalizing l with
  | nil => rfl
  | cons j r ih => simp only [List.cons_append, bump]; exact ih _
theorem set_getD (l : List Int) (i j : Nat) (x : Int) (hi : i < l.length) : (l.set i x).getD j 0 = if j = i then x else l.getD j 0 := by
  simp only [List.getD_eq_getElem?_getD, List.getElem?_set]
  by_cases e : i = j
  · subst e; simp [hi]
  · rw [if_neg e, if_neg (fun h => e h.symm)]
theorem bump_get (l r : List Int) (hr : r.Nodup) (hb : ∀ x ∈ r, 0 ≤ x ∧ x < l.length) (j : Nat) : (bump l r).getD j 0 = l.getD j 0 + if (j : Int) ∈ r then 1 else 0 := by
  induction r generalizing l with
  | nil => simp [bump]
  | cons i r ih =>
    obtain ⟨h1, h2⟩ := List.nodup_cons.1 hr
    have hi := hb i (by simp)
    rw [bump, ih _ h2 (by intro x hx; simpa using hb x (by simp [hx])), set_getD _ _ _ _ (by omega)]
    by_cases e : j = i.toNat
    · subst e
      have e2 : ((i.toNat : Nat) : Int) = i := by omega
      rw [if_pos rfl, e2, if_neg h1]
      simp
    · rw [if_neg e]
      have e2 : ¬ (j : Int) = i := by omega
      simp [e2]

theorem sumL_set (l : List Int) (i : Nat) (x : Int) (h : i < l.length) : sumL (l.set i x) = sumL l - l.getD i 0 + x := by
  induction l generalizing i with
  | nil => simp at h
  | cons y l ih =>
    cases i with
    | zero => simp [sumL]; omega
    | succ i =>
      have := ih i (by simpa using h)
      simp only [List.set_cons_succ, sumL, List.foldr_cons] at this ⊢
      simp only [List.getD_eq_getElem?_getD, List.getElem?_cons_succ] at this ⊢
      omega
theorem sumL_bump (l r : List Int) (hb : ∀ x ∈ r, 0 ≤ x ∧ x < l.length) : sumL (bump l r) = sumL l + r.length := by
  induction r generalizing l with
  | nil => simp [bump]
  | cons i r ih =>
    have hi := hb i (by simp)
    rw [bump, ih _ (by intro x hx; simpa using hb x (by simp [hx])), sumL_set _ _ _ (by omega)]
    simp only [List.length_cons]
    omega

/-- The parts of Shares: none is negative, together they are the total. -/
theorem parts_sum (total : Int) (ws ord : List Int) (ht : 0 ≤ total) (hw : ∀ x ∈ ws, 0 ≤ x) (hs : 0 < sumL ws) (hp : ∀ x ∈ ord, 0 ≤ x ∧ x < ws.length) (hl : ord.length = ws.length) (hnd : ord.Nodup) :
    sumL (bump (bases total (sumL ws) ws) (ord.take (total - sumL (bases total (sumL ws) ws)).toNat)) = total ∧ ∀ x ∈ bump (bases total (sumL ws) ws) (ord.take (total - sumL (bases total (sumL ws) ws)).toNat), 0 ≤ x := by
  obtain ⟨h0, h1⟩ := left_bd total ws hs
  have hb := bases_bd total ws ht hw hs
  have hpt : ∀ x ∈ ord.take (total - sumL (bases total (sumL ws) ws)).toNat, 0 ≤ x ∧ x < (bases total (sumL ws) ws).length := fun x hx => by
    rw [bases_length]; exact hp x (List.mem_of_mem_take hx)
  constructor
  · rw [sumL_bump _ _ hpt, List.length_take]
    omega
  · intro x hx
    rw [List.mem_iff_getElem] at hx
    obtain ⟨j, hj, rfl⟩ := hx
    have hg := bump_get (bases total (sumL ws) ws) (ord.take (total - sumL (bases total (sumL ws) ws)).toNat) (hnd.sublist (List.take_sublist _ _)) hpt j
    rw [List.getD_eq_getElem?_getD, List.getElem?_eq_getElem hj, Option.getD_some] at hg
    rw [hg]
    rw [bump_length] at hj
    have := hb ((bases total (sumL ws) ws).getD j 0) (by rw [List.getD_eq_getElem?_getD, List.getElem?_eq_getElem hj]; simp)
    split <;> omega

/-- The numbers 0 .. n-1. -/
def upTo (n : Nat) : List Int := (List.range n).map fun (i : Nat) => (i : Int)
theorem upTo_length (n : Nat) : (upTo n).length = n := by simp [upTo]
theorem upTo_get (n k : Nat) (h : k < n) : (upTo n).getD k 0 = k := by simp [upTo, h]
theorem upTo_mem (n : Nat) (x : Int) (h : x ∈ upTo n) : 0 ≤ x ∧ x < n := by simp [upTo] at h; omega
theorem upTo_nodup (n : Nat) : (upTo n).Nodup := by
  unfold upTo
  rw [List.nodup_iff_pairwise_ne, List.pairwise_map]
  exact List.nodup_range.imp (fun h => by omega)
theorem upTo_stab (key : Int → Int) (n : Nat) : Stab key (upTo n) := by
  intro p q hpq hq _
  rw [upTo_length] at hq
  rw [upTo_get _ _ (by omega), upTo_get _ _ hq]
  omega

end Go.Proofs.Ytdpmkbiibmjbfaa
