/- The order of trees, in plain Lean. No condition. -/
import Derived.Test.YtgdmkddegcecaaaGreatTree
namespace Go.Proofs.YtgdmkddegcecaaaGreat
open Go.RowKit

/-- The first comparison of two numbers that differ, or 0. -/
def lexP : List (Int × Int) → Int
  | [] => 0
  | (a, b) :: r => if a < b then -1 else if b < a then 1 else lexP r
def digitI (b : Bool) : Int := if b then 1 else 0
/-- The pairs of numbers by which two nodes are compared. -/
def pairsN (a b : Tree) : List (Int × Int) := [(a.mn, b.mn), (a.mx, b.mx), (a.mode, b.mode), (a.n, b.n), (digitI a.neg, digitI b.neg), ((a.kids.length : Int), (b.kids.length : Int))]
def headN (a b : Tree) : List (Int × Int) := [(a.op, b.op), ((a.set.length : Int), (b.set.length : Int))]
def spanN (x y : Int × Int) : List (Int × Int) := [(x.1, y.1), (x.2, y.2)]
def spansN : List (Int × Int) → List (Int × Int) → List (Int × Int)
  | x :: xs, y :: ys => spanN x y ++ spansN xs ys
  | _, _ => []
def nodeN (a b : Tree) : List (Int × Int) := headN a b ++ (spansN a.set b.set ++ pairsN a b)
mutual
/-- The order of trees: -1, 0 or 1. -/
def cmpT : Tree → Tree → Int
  | .node op set kids mn mx mode n neg, b => if lexP (nodeN (.node op set kids mn mx mode n neg) b) ≠ 0 then lexP (nodeN (.node op set kids mn mx mode n neg) b) else cmpTs kids b.kids
def cmpTs : List Tree → List Tree → Int
  | x :: xs, y :: ys => if cmpT x y ≠ 0 then cmpT x y else cmpTs xs ys
  | _, _ => 0
end
theorem cmpT_eq (a b : Tree) : cmpT a b = if lexP (nodeN a b) ≠ 0 then lexP (nodeN a b) else cmpTs a.kids b.kids := by
  cases a; rw [cmpT]; rfl
theorem lexP_append (a b : List (Int × Int)) : lexP (a ++ b) = if lexP a ≠ 0 then lexP a else lexP b := by
  induction a with
  | nil => simp [lexP]
  | cons x xs ih =>
    obtain ⟨p, q⟩ := x
    simp only [List.cons_append, lexP, ih]
    by_cases h1 : p < q
    · simp [h1]
    · by_cases h2 : q < p
      · simp [h1, h2]
      · simp [h1, h2]
theorem lexP_zero {l : List (Int × Int)} (h : lexP l = 0) : ∀ p ∈ l, p.1 = p.2 := by
  induction l with
  | nil => simp
  | cons x xs ih =>
    obtain ⟨p, q⟩ := x
    simp only [lexP] at h
    split at h
    · omega
    · split at h
      · omega
      · intro y hy
        rcases List.mem_cons.1 hy with rfl | hy
        · show p = q; omega
        · exact ih h y hy
theorem lexP_self {l : List (Int × Int)} (h : ∀ p ∈ l, p.1 = p.2) : lexP l = 0 := by
  induction l with
  | nil => rfl
  | cons x xs ih =>
    obtain ⟨p, q⟩ := x
    have := h (p, q) (by simp)
    simp only at this
    subst this
    simp only [lexP, Int.lt_irrefl, if_false]
    exact ih fun y hy => h y (by simp [hy])
theorem spansN_self (l : List (Int × Int)) : ∀ p ∈ spansN l l, p.1 = p.2 := by
  induction l with
  | nil => simp [spansN]
  | cons x xs ih =>
    intro p hp
    simp only [spansN, spanN, List.cons_append, List.nil_append, List.mem_cons] at hp
    rcases hp with rfl | rfl | hp
    · rfl
    · rfl
    · exact ih p hp
theorem spansN_eq : ∀ {l m : List (Int × Int)}, l.length = m.length → (∀ p ∈ spansN l m, p.1 = p.2) → l = m
  | [], [], _, _ => rfl
  | x :: xs, y :: ys, hl, h => by
    have h1 := h (x.1, y.1) (by simp [spansN, spanN])
    have h2 := h (x.2, y.2) (by simp [spansN, spanN])
    rw [spansN_eq (l := xs) (m := ys) (by simpa using hl) fun p hp => h p (by simp [spansN, hp])]
    obtain ⟨x1, x2⟩ := x
    obtain ⟨y1, y2⟩ := y
    simp only at h1 h2
    rw [h1, h2]
  | [], y :: ys, hl, _ => by simp at hl
  | x :: xs, [], hl, _ => by simp at hl
mutual
theorem cmpT_self : ∀ a : Tree, cmpT a a = 0
  | .node op set kids mn mx mode n neg => by
    rw [cmpT, if_neg]
    · exact cmpTs_self kids
    · intro h
      apply h
      apply lexP_self
      intro p hp
      simp only [nodeN, headN, pairsN, List.mem_append, List.mem_cons, List.not_mem_nil, or_false, Tree.set] at hp
      rcases hp with (rfl | rfl) | hp | rfl | rfl | rfl | rfl | rfl | rfl
      all_goals (try rfl)
      exact spansN_self set p hp
theorem cmpTs_self : ∀ l : List Tree, cmpTs l l = 0
  | [] => rfl
  | x :: xs => by rw [cmpTs, if_neg (by rw [cmpT_self x]; simp)]; exact cmpTs_self xs
end
mutual
theorem eq_of_cmpT : ∀ (a b : Tree), cmpT a b = 0 → a = b
  | .node op set kids mn mx mode n neg, .node op' set' kids' mn' mx' mode' n' neg', h => by
    rw [cmpT] at h
    split at h
    · contradiction
    · rename_i h0
      have h0 : lexP (nodeN (.node op set kids mn mx mode n neg) (.node op' set' kids' mn' mx' mode' n' neg')) = 0 := by simpa using h0
      have h1 := lexP_zero h0
      have m1 := h1 (op, op') (by simp [nodeN, headN, Tree.op])
      have m2 := h1 ((set.length : Int), (set'.length : Int)) (by simp [nodeN, headN, Tree.set])
      have m3 := h1 (mn, mn') (by simp [nodeN, pairsN, Tree.mn])
      have m4 := h1 (mx, mx') (by simp [nodeN, pairsN, Tree.mx])
      have m5 := h1 (mode, mode') (by simp [nodeN, pairsN, Tree.mode])
      have m6 := h1 (n, n') (by simp [nodeN, pairsN, Tree.n])
      have m7 := h1 (digitI neg, digitI neg') (by simp [nodeN, pairsN, Tree.neg])
      have m8 := h1 ((kids.length : Int), (kids'.length : Int)) (by simp [nodeN, pairsN, Tree.kids])
      simp only at m1 m2 m3 m4 m5 m6 m7 m8
      have m9 : set = set' := spansN_eq (by omega) fun p hp => h1 p (by simp [nodeN, Tree.set, hp])
      have m10 : neg = neg' := by cases neg <;> cases neg' <;> simp [digitI] at m7 <;> rfl
      have m11 : kids = kids' := eq_of_cmpTs kids kids' (by omega) h
      rw [m1, m3, m4, m5, m6, m9, m10, m11]
theorem eq_of_cmpTs : ∀ (l m : List Tree), l.length = m.length → cmpTs l m = 0 → l = m
  | [], [], _, _ => rfl
  | x :: xs, y :: ys, hl, h => by
    rw [cmpTs] at h
    split at h
    · contradiction
    · rename_i h0
      rw [eq_of_cmpT x y (by simpa using h0), eq_of_cmpTs xs ys (by simpa using hl) h]
  | [], y :: ys, hl, _ => by simp at hl
  | x :: xs, [], hl, _ => by simp at hl
end
theorem cmpT_zero (a b : Tree) : cmpT a b = 0 ↔ a = b := ⟨eq_of_cmpT a b, fun h => h ▸ cmpT_self a⟩
instance : DecidableEq Tree := fun a b => decidable_of_iff _ (cmpT_zero a b)
/-- Two trees are equal, as a test that the walk does not look into. -/
def eqB (a b : Tree) : Bool := decide (cmpT a b = 0)
theorem eqB_iff (a b : Tree) : eqB a b = true ↔ a = b := by unfold eqB; rw [decide_eq_true_iff]; exact cmpT_zero a b

end Go.Proofs.YtgdmkddegcecaaaGreat
