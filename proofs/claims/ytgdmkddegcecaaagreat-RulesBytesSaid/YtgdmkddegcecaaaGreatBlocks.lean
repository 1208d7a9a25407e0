/- The blocks in which a tree lies. No condition: every lemma says its own. -/
import Derived.Test.YtgdmkddegcecaaaGreatTree
namespace Go.Proofs.YtgdmkddegcecaaaGreat
open Go.RowKit

/-- The block of an address, where something lies there. -/
def blockIf (n : Nat) (a : Option Addr) : List Nat := if n = 0 then [] else a.toList.map Addr.block
mutual
def MRe.blocks : MRe → List Nat
  | .node _ sa _ set ka _ kids _ _ _ _ _ => blockIf set.length sa ++ (blockIf kids.length ka ++ MRe.blocksL kids)
def MRe.blocksL : List MRe → List Nat
  | [] => []
  | k :: ks => k.blocks ++ MRe.blocksL ks
end
theorem MRe.blocksL_eq (l : List MRe) : MRe.blocksL l = l.flatMap MRe.blocks := by
  induction l with
  | nil => rfl
  | cons k ks ih => simp [MRe.blocksL, ih]
theorem MRe.mem_blocksL {l : List MRe} {k : MRe} {b : Nat} (hk : k ∈ l) (hb : b ∈ k.blocks) : b ∈ MRe.blocksL l := by
  rw [MRe.blocksL_eq]; exact List.mem_flatMap.2 ⟨k, hk, hb⟩
theorem MRe.blocksL_mem {l : List MRe} {b : Nat} (h : b ∈ MRe.blocksL l) : ∃ k ∈ l, b ∈ k.blocks := by
  rw [MRe.blocksL_eq] at h; exact List.mem_flatMap.1 h
theorem MRe.blocksL_append (a b : List MRe) : MRe.blocksL (a ++ b) = MRe.blocksL a ++ MRe.blocksL b := by simp [MRe.blocksL_eq]

theorem SpansIn.keepS {S : List Nat} {w w' : World} {sa : Option Addr} {sc : Nat} {set : List (Int × Int)} (h : SpansIn w sa sc set) (k : Keeps S w w') (hs : ∀ b ∈ blockIf set.length sa, b ∉ S) : SpansIn w' sa sc set :=
  ⟨h.le, h.cap, h.nil_, fun h0 => by
    obtain ⟨b, off, h1, hb, h2⟩ := h.at_ h0
    refine ⟨b, off, h1, Nat.lt_of_lt_of_le hb k.size, fun i hi => ?_⟩
    have : b ∉ S := hs b (by unfold blockIf; rw [if_neg (by omega), h1]; simp)
    exact ⟨k.cell (h2 i hi).1 this, k.cell (h2 i hi).2 this⟩⟩
theorem NodesIn.keepS {S : List Nat} {w w' : World} {ka : Option Addr} {kc : Nat} {kids : List MRe} (h : NodesIn w ka kc kids) (k : Keeps S w w') (hs : ∀ b ∈ blockIf kids.length ka, b ∉ S) : NodesIn w' ka kc kids :=
  ⟨h.le, h.cap, h.nil_, fun h0 => by
    obtain ⟨b, off, h1, hb, h2⟩ := h.at_ h0
    refine ⟨b, off, h1, Nat.lt_of_lt_of_le hb k.size, fun i hi j hj => ?_⟩
    have : b ∉ S := hs b (by unfold blockIf; rw [if_neg (by omega), h1]; simp)
    exact k.cell (h2 i hi j hj) this⟩
theorem MRe.OK.keepS {S : List Nat} {w w' : World} (k : Keeps S w w') {m : MRe} (h : m.OK w) (hs : ∀ b ∈ m.blocks, b ∉ S) : m.OK w' := by
  induction h with
  | mk hsp hk _ ih =>
    simp only [MRe.blocks, List.mem_append] at hs
    exact .mk (hsp.keepS k fun b hb => hs b (.inl hb)) (hk.keepS k fun b hb => hs b (.inr (.inl hb))) fun x hx => ih x hx fun b hb => hs b (.inr (.inr (MRe.mem_blocksL hx hb)))
theorem KidsIn.keepS {S : List Nat} {w w' : World} {ka : Option Addr} {kc : Nat} {kids : List MRe} (h : KidsIn w ka kc kids) (k : Keeps S w w') (hs : ∀ b ∈ blockIf kids.length ka ++ MRe.blocksL kids, b ∉ S) : KidsIn w' ka kc kids :=
  ⟨h.nodes.keepS k fun b hb => hs b (List.mem_append_left _ hb), fun x hx => (h.all x hx).keepS k fun b hb => hs b (List.mem_append_right _ (MRe.mem_blocksL hx hb))⟩
theorem SpansIn.block_lt {w : World} {sa : Option Addr} {sc : Nat} {set : List (Int × Int)} (h : SpansIn w sa sc set) : ∀ b ∈ blockIf set.length sa, b < w.heap.size := by
  intro b hb
  unfold blockIf at hb
  split at hb
  · simp at hb
  · obtain ⟨b', off, h1, h2, _⟩ := h.at_ (by have := h.le; omega)
    rw [h1] at hb
    simp at hb
    omega
theorem NodesIn.block_lt {w : World} {ka : Option Addr} {kc : Nat} {kids : List MRe} (h : NodesIn w ka kc kids) : ∀ b ∈ blockIf kids.length ka, b < w.heap.size := by
  intro b hb
  unfold blockIf at hb
  split at hb
  · simp at hb
  · obtain ⟨b', off, h1, h2, _⟩ := h.at_ (by have := h.le; omega)
    rw [h1] at hb
    simp at hb
    omega
theorem MRe.OK.block_lt {w : World} {m : MRe} (h : m.OK w) : ∀ b ∈ m.blocks, b < w.heap.size := by
  induction h with
  | mk hsp hk _ ih =>
    intro b hb
    simp only [MRe.blocks, List.mem_append] at hb
    rcases hb with hb | hb | hb
    · exact hsp.block_lt b hb
    · exact hk.block_lt b hb
    · obtain ⟨k, hk', hb'⟩ := MRe.blocksL_mem hb
      exact ih k hk' b hb'
theorem KidsIn.block_lt {w : World} {ka : Option Addr} {kc : Nat} {kids : List MRe} (h : KidsIn w ka kc kids) : ∀ b ∈ MRe.blocksL kids, b < w.heap.size := by
  intro b hb
  obtain ⟨k, hk, hb'⟩ := MRe.blocksL_mem hb
  exact (h.all k hk).block_lt b hb'
/-- All blocks are at least lo. -/
def Fresh (lo : Nat) (l : List Nat) : Prop := ∀ b ∈ l, lo ≤ b
theorem Fresh.nil (lo : Nat) : Fresh lo [] := fun _ h => by simp at h
theorem Fresh.append {lo : Nat} {a b : List Nat} (h : Fresh lo a) (k : Fresh lo b) : Fresh lo (a ++ b) := fun x hx => by
  rcases List.mem_append.1 hx with hx | hx
  · exact h x hx
  · exact k x hx
theorem Fresh.mono {lo lo' : Nat} {l : List Nat} (h : Fresh lo l) (hl : lo' ≤ lo) : Fresh lo' l := fun x hx => Nat.le_trans hl (h x hx)
theorem Fresh.blockIf_map {lo n : Nat} {a : Option Nat} (h : ∀ g, a = some g → lo ≤ g) : Fresh lo (blockIf n (a.map fun g => ⟨g, 0, none⟩)) := by
  intro b hb
  unfold blockIf at hb
  split at hb
  · simp at hb
  · cases a with
    | none => simp at hb
    | some g => simp at hb; subst hb; exact h _ rfl
theorem blockIf_nil (a : Option Addr) : blockIf 0 a = [] := by simp [blockIf]

end Go.Proofs.YtgdmkddegcecaaaGreat
