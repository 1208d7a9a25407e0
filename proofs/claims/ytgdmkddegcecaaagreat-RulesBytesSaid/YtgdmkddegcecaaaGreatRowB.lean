/- From a slice of bytes that came in (as the frame of a law reads it) to BytesIn. No condition. -/
import Derived.Test.YtgdmkddegcecaaaGreatBytesWalk
namespace Go.Proofs.YtgdmkddegcecaaaGreat
open Go.RowKit

theorem caps_of_row {k : IntKind} {w : World} {a : Option Addr} {len cap : Nat} {zs : List Int}
    (h : (a = none ∧ len = 0 ∧ cap = 0 ∧ zs = []) ∨ ∃ x, a = some x ∧ len ≤ cap ∧ cap ≤ maxLen ∧ zs.length = cap ∧ (∀ i, i < zs.length → w.cell? (x.add i) = some (.int k (zs.getD i 0))) ∧ ∀ n ∈ zs, (Lit.int k n).wf = true) :
    len ≤ cap ∧ cap ≤ 9223372036854775807 := by
  rcases h with ⟨rfl, rfl, rfl, rfl⟩ | ⟨x, rfl, hl, hm, _⟩
  · exact ⟨by omega, by omega⟩
  · unfold maxLen at hm; exact ⟨hl, by omega⟩
theorem u8_of_wf {x : Int} (h : (Lit.int .u8 x).wf = true) : 0 ≤ x ∧ x ≤ 255 := by
  simp [Lit.wf] at h
  have e1 : IntKind.u8.min = 0 := rfl
  have e2 : IntKind.u8.max = 255 := rfl
  first
  | (rw [e1, e2] at h; exact h)
  | (rw [e1] at h; exact h)
  | exact h
theorem bytes_of_row {w : World} {a : Option Addr} {len cap : Nat} {zs : List Int}
    (h : (a = none ∧ len = 0 ∧ cap = 0 ∧ zs = []) ∨ ∃ x, a = some x ∧ len ≤ cap ∧ cap ≤ maxLen ∧ zs.length = cap ∧ (∀ i, i < zs.length → w.cell? (x.add i) = some (.int .u8 (zs.getD i 0))) ∧ ∀ n ∈ zs, (Lit.int .u8 n).wf = true) :
    (zs.take len).length = len ∧ BytesIn w a (zs.take len) ∧ ∀ x ∈ zs.take len, 0 ≤ x ∧ x ≤ 255 := by
  rcases h with ⟨rfl, rfl, rfl, rfl⟩ | ⟨x, rfl, hl, hm, hz, hc, hw⟩
  · exact ⟨rfl, fun h => by simp at h, by simp⟩
  · refine ⟨by simp; omega, fun h0 => ?_, fun y hy => u8_of_wf (hw y (List.mem_of_mem_take hy))⟩
    simp at h0
    have h1 := hc 0 (by omega)
    obtain ⟨b, off, sp⟩ := x
    have hs : sp = none := by
      cases sp with
      | none => rfl
      | some s => simp [Addr.add, World.cell?] at h1; split at h1 <;> simp at h1
    subst hs
    refine ⟨b, off, rfl, fun j hj => ?_⟩
    simp at hj
    have h2 := hc j (by omega)
    have hadd : (⟨b, off, none⟩ : Addr).add j = ⟨b, off + j, none⟩ := by unfold Addr.add; split <;> simp_all
    rw [hadd] at h2
    have hj2 : j < zs.length := by omega
    rw [h2]
    simp [hj, hj2]

end Go.Proofs.YtgdmkddegcecaaaGreat
