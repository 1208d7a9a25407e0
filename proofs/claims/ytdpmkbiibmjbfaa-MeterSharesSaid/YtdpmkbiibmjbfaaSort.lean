/- slices.SortStableFunc at int with the closure of Shares: the contract that callers use, and its proof for at most 20 numbers (one block of insertion sort). Conditions: as SortsAt says. -/
import Derived.Test.YtdpmkbiibmjbfaaIns
namespace Go.Proofs.Ytdpmkbiibmjbfaa
open Go.RowKit

/-- The contract of SortStableFunc for rows of n numbers. -/
def SortsAt (n : Nat) : Prop := ∀ (g p q s bw off cap : Nat) (total sum : Int) (ws xs : List Int) (c : Nat) (w : World), CmpEnv w p q s bw off cap total sum ws → Ints 3 w g xs →
  g ∉ [p, q, s, bw] → (∀ x ∈ xs, 0 ≤ x ∧ x < ws.length) → Stab (keyOf total sum ws) xs → xs.length = n →
  Calls Try.prog 28 #[.slice (some ⟨g, 0, none⟩) xs.length c, .func (.func 29) #[] #[.pointer (some ⟨p, 0, none⟩), .pointer (some ⟨q, 0, none⟩), .pointer (some ⟨s, 0, none⟩)]] w fun e w' =>
      e = .returned (.tuple #[]) ∧ ∃ ys, Ints 3 w' g ys ∧ Turned xs ys 0 n ∧ Stab (keyOf total sum ws) ys ∧ Desc (keyOf total sum ws) ys 0 n ∧ Keeps [g] w w'

set_option maxHeartbeats 1000000 in
theorem stable_small (g p q s bw off cap : Nat) (total sum : Int) (ws xs : List Int) (c : Nat) (w : World) (hE : CmpEnv w p q s bw off cap total sum ws) (hI : Ints 3 w g xs)
    (hd : g ∉ [p, q, s, bw]) (hr : ∀ x ∈ xs, 0 ≤ x ∧ x < ws.length) (hst : Stab (keyOf total sum ws) xs) (n : Nat) (hn : n = xs.length) (hxl : n < 20) :
    Calls Try.prog 38 #[.slice (some ⟨g, 0, none⟩) xs.length c, .int .i64 n, .func (.func 29) #[] #[.pointer (some ⟨p, 0, none⟩), .pointer (some ⟨q, 0, none⟩), .pointer (some ⟨s, 0, none⟩)]] w fun e w' =>
      e = .returned (.tuple #[]) ∧ ∃ ys, Ints 3 w' g ys ∧ Turned xs ys 0 n ∧ Stab (keyOf total sum ws) ys ∧ Desc (keyOf total sum ws) ys 0 n ∧ Keeps [g] w w' := by
  have HN := Lib.hid hn
  have HE := Lib.hid hE
  have HI := Lib.hid hI
  have HD := Lib.hid hd
  have HR := Lib.hid hr
  have HST := Lib.hid hst
  clear hE hI hd hr hst hn
  go_enter Try.func38, Try.ntmps38
  go_wp2
  refine wp_loop_rounds 1 ?_
  rw [rounds_succ]
  go_wp2_with fail
  have h0 := isort_any g p q s bw off cap total sum ws xs c 0 n w HE.out HI.out HD.out HR.out HST.out (by omega) (by have := HN.out; omega) (by have := HN.out; omega)
  refine Calls.mono h0 ?_
  rintro e w1 ⟨rfl, ys, hI1, hT1, hS1, hD1, hK1⟩
  have H1 := Lib.hid (And.intro hI1 (And.intro hT1 (And.intro hS1 (And.intro hD1 hK1))))
  clear hI1 hT1 hS1 hD1 hK1 h0
  go_wp2
  refine wp_loop_rounds 1 ?_
  rw [rounds_succ]
  go_wp2
  go_end0
  exact ⟨rfl, ys, H1.out⟩

set_option maxHeartbeats 1000000 in
theorem sorts_small (n : Nat) (hn : n < 20) : SortsAt n := by
  intro g p q s bw off cap total sum ws xs c w hE hI hd hr hst hl
  have h0 := stable_small g p q s bw off cap total sum ws xs c w hE hI hd hr hst n hl.symm hn
  have H0 := Lib.hid h0
  have HL := Lib.hid hl
  clear hE hI hd hr hst hl h0
  go_enter Try.func28, Try.ntmps28
  go_wp2_with fail
  rw [HL.out]
  have h0 := H0.out
  rw [HL.out] at h0
  refine Calls.mono h0 ?_
  rintro e w1 ⟨rfl, h1⟩
  have H1 := Lib.hid h1
  clear h1 h0
  go_wp2
  go_end0
  exact ⟨rfl, H1.out⟩

end Go.Proofs.Ytdpmkbiibmjbfaa
