/- Rows of operations, and a pair at its start and its end. Conditions as each lemma says. -/
import Derived.Test.YtdpmkbiibmjbfaaStep
import Derived.Test.YtdpmkbiibmjbfaaSame
import Derived.Test.YtdpmkbiibmjbfaaStab
namespace Go.Proofs.Ytdpmkbiibmjbfaa
open Go.RowKit

/-- An operation's four numbers. -/
def op4 (x : Int × Int × Int × Int) : List Value := [.int .i64 x.1, .int .i64 x.2.1, .int .i64 x.2.2.1, .int .i64 x.2.2.2]
def flat4 (L : List (Int × Int × Int × Int)) : List Value := L.flatMap op4
theorem flat4_length (L : List (Int × Int × Int × Int)) : (flat4 L).length = L.length * 4 := by
  induction L with
  | nil => rfl
  | cons x L ih => simp [flat4, op4] at ih ⊢; omega
theorem flat4_append (L M : List (Int × Int × Int × Int)) : flat4 (L ++ M) = flat4 L ++ flat4 M := by simp [flat4]
theorem flat4_get (L : List (Int × Int × Int × Int)) : ∀ (k : Nat) (hk : k < L.length), (flat4 L)[k * 4]? = some (.int .i64 L[k].1) ∧ (flat4 L)[k * 4 + 1]? = some (.int .i64 L[k].2.1) ∧ (flat4 L)[k * 4 + 2]? = some (.int .i64 L[k].2.2.1) ∧ (flat4 L)[k * 4 + 3]? = some (.int .i64 L[k].2.2.2) := by
  induction L with
  | nil => intro k hk; simp at hk
  | cons x L ih =>
    intro k hk
    have e : flat4 (x :: L) = .int .i64 x.1 :: .int .i64 x.2.1 :: .int .i64 x.2.2.1 :: .int .i64 x.2.2.2 :: flat4 L := by simp [flat4, op4]
    rw [e]
    cases k with
    | zero => simp
    | succ k =>
      have := ih k (by simpa using hk)
      rw [show (k + 1) * 4 = k * 4 + 1 + 1 + 1 + 1 from by omega]
      simpa using this

/-- The cells of operation k. -/
theorem ops_cells {w : World} {e g n c : Nat} {ops : List (Int × Int × Int × Int)} (h : SliceAt w e 4 (some g) n c (flat4 ops)) (k : Nat) (hk : k < ops.length) :
    w.cell? ⟨g, k * 4, none⟩ = some (.int .i64 ops[k].1) ∧ w.cell? ⟨g, k * 4 + 1, none⟩ = some (.int .i64 ops[k].2.1) ∧ w.cell? ⟨g, k * 4 + 2, none⟩ = some (.int .i64 ops[k].2.2.1) ∧ w.cell? ⟨g, k * 4 + 3, none⟩ = some (.int .i64 ops[k].2.2.2) := by
  have hl := flat4_length ops
  obtain ⟨f0, f1, f2, f3⟩ := flat4_get ops k hk
  have c0 := h.cell (k * 4) (by omega)
  have c1 := h.cell (k * 4 + 1) (by omega)
  have c2 := h.cell (k * 4 + 2) (by omega)
  have c3 := h.cell (k * 4 + 3) (by omega)
  rw [List.getElem?_eq_getElem (by omega)] at f0 f1 f2 f3
  simp only [Option.some.injEq] at f0 f1 f2 f3
  rw [f0] at c0
  rw [f1] at c1
  rw [f2] at c2
  rw [f3] at c3
  exact ⟨c0, c1, c2, c3⟩

/-- New of both: a pair. -/
theorem pair_new {w0 w1 w2 : World} {rules share period : Int} (h1 : MeterAt w1 (w0.heap.size + 1) w0.heap.size share period 0 (List.replicate rules.toNat 0)) (hr : 0 ≤ rules) (hs : w0.heap.size + 2 ≤ w1.heap.size)
    (h2 : RefAt w2 w1.heap.size rules share period 0 none 0 []) (hk : Keeps [] w1 w2) : Pair w2 (w0.heap.size + 1) w0.heap.size w1.heap.size share period 0 (List.replicate rules.toNat 0) none 0 [] := by
  refine ⟨h1.keep hk (by simp) (by simp), ?_, by omega, by omega, by simp, by simp, ?_, by simp⟩
  · rw [show (((List.replicate rules.toNat (0 : Int)).length : Nat) : Int) = rules by simp; omega]; exact h2
  · intro i hi
    simp at hi
    simp [refAt, hi]

/-- What both list is one. -/
theorem pair_used {w : World} {mb mu rb : Nat} {share period tick : Int} {used : List Int} {a : Option Nat} {c : Nat} {L : List (Int × Int × Int)} (h : Pair w mb mu rb share period tick used a c L) : refUsed period tick L used.length = used := by
  apply ext_getD
  · simp [refUsed]
  · intro k hk
    rw [refUsed_length] at hk
    rw [← h.agree k hk]
    simp [refUsed, hk]

end Go.Proofs.Ytdpmkbiibmjbfaa
