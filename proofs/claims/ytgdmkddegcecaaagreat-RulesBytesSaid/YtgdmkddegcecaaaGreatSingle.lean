/- Trees that are formed well; rules.single. Conditions: the tree lies in memory and is formed well. -/
import Derived.Test.YtgdmkddegcecaaaGreatIndex
namespace Go.Proofs.YtgdmkddegcecaaaGreat
open Go.RowKit

/-- Spans in order, with gaps. -/
def SpansOK : List (Int × Int) → Prop
  | [] => True
  | [s] => 0 ≤ s.1 ∧ s.1 ≤ s.2 ∧ s.2 ≤ 1114111
  | s :: t :: r => 0 ≤ s.1 ∧ s.1 ≤ s.2 ∧ s.2 + 2 ≤ t.1 ∧ SpansOK (t :: r)
/-- A node is formed well. -/
structure NodeOK (op : Int) (set : List (Int × Int)) (nk : Nat) (mn mx mode n : Int) (neg : Bool) : Prop where
  hop : 0 ≤ op ∧ op ≤ 11
  hone : op = 4 ∨ op = 5 ∨ op = 7 ∨ op = 8 ∨ op = 9 → nk = 1
  htwo : op = 2 ∨ op = 3 → 2 ≤ nk
  hcond : op = 10 → nk = 2
  hleaf : op = 0 ∨ op = 1 ∨ op = 6 ∨ op = 11 → nk = 0
  hrep : op = 4 → 0 ≤ mn ∧ mn ≤ 32 ∧ -1 ≤ mx ∧ mx ≠ 0 ∧ mx ≤ 32 ∧ (0 < mx → mn ≤ mx) ∧ 0 ≤ mode ∧ mode ≤ 2
  hnrep : op ≠ 4 → mn = 0 ∧ mx = 0 ∧ mode = 0
  hset : op = 1 → SpansOK set ∧ set.length ≤ 64
  hnset : op ≠ 1 → set = []
  hnum : op = 5 ∨ op = 6 ∨ op = 10 → 1 ≤ n
  hass : op = 11 → 0 ≤ n ∧ n ≤ 5
  hnnum : ¬ (op = 5 ∨ op = 6 ∨ op = 10 ∨ op = 11) → n = 0
  hneg : neg = true → op = 7 ∨ op = 8
inductive Tree.WF : Tree → Prop
  | mk {op set kids mn mx mode n neg} (h : NodeOK op set kids.length mn mx mode n neg) (hk : ∀ k, k ∈ kids → Tree.WF k) : Tree.WF (.node op set kids mn mx mode n neg)
theorem Tree.WF.node {op set kids mn mx mode n neg} (h : Tree.WF (.node op set kids mn mx mode n neg)) : NodeOK op set kids.length mn mx mode n neg := by cases h; assumption
theorem Tree.WF.kid {op set kids mn mx mode n neg} (h : Tree.WF (.node op set kids mn mx mode n neg)) {k : Tree} (hk : k ∈ kids) : k.WF := by cases h with | mk _ h => exact h k hk
theorem wf_node {op sa sc set ka kc kids mn mx mode n neg} (h : (MRe.node op sa sc set ka kc kids mn mx mode n neg).tree.WF) : NodeOK op set kids.length mn mx mode n neg := by
  have := h.node
  rw [MRe.trees_length] at this
  exact this
theorem wf_kid {op sa sc set ka kc kids mn mx mode n neg} (h : (MRe.node op sa sc set ka kc kids mn mx mode n neg).tree.WF) {k : MRe} (hk : k ∈ kids) : k.tree.WF :=
  h.kid (by rw [MRe.trees_eq]; exact List.mem_map_of_mem hk)

set_option maxHeartbeats 400000 in
theorem single1_of (m : MRe) (b : Bool) (w : World) (h : ∀ W, Keeps [] w W → Calls Tryz.prog 67 #[m.val] W fun e w' => e = .returned (.bool b) ∧ Keeps [] W w') :
    Calls Tryz.prog 84 #[m.val] w fun e w' => e = .returned (.bool (!b)) ∧ Keeps [] w w' := by
  have HH := Lib.hid h
  clear h
  obtain ⟨op1, sa1, sc1, set1, ka1, kc1, kids1, mn1, mx1, mode1, n1, neg1⟩ := m
  simp only [MRe.val] at HH ⊢
  have hnot : ∀ (x : Bool) (w : World), (Op.unary .not (.bool x)).run Tryz.prog w = .ok (.bool (!x)) w := fun _ _ => rfl
  go_enter Tryz.func84, Tryz.ntmps84
  go_wp2_with fail
  refine Calls.mono (HH.out _ (Keeps.a1 w _)) ?_
  rintro e w2 ⟨rfl, hk⟩
  have HK := Lib.hid ((Keeps.a1 w _).trans hk)
  clear hk
  go_wp2
  go_ret
  exact ⟨rfl, HK.out⟩

set_option maxRecDepth 100000 in
set_option maxHeartbeats 4000000 in
theorem single_any (m : MRe) : ∀ (w : World), m.OK w → m.tree.WF →
    Calls Tryz.prog 67 #[m.val] w fun e w' => e = .returned (.bool (singleT m.tree)) ∧ Keeps [] w w' := by
  induction m using MRe.induct with
  | h op sa sc set ka kc kids mn mx mode n neg ih =>
    intro w k1 hwf
    have hno := wf_node hwf
    have hT : singleT (MRe.node op sa sc set ka kc kids mn mx mode n neg).tree = singleT (.node op set (MRe.trees kids) mn mx mode n neg) := rfl
    rw [hT]
    have HI := Lib.hid (fun k (hk : k ∈ kids) W (h : Keeps [] w W) => ih k hk W ((k1.kid hk).keep h) (wf_kid hwf hk))
    have HK := Lib.hid k1.kids
    have HNO := Lib.hid hno
    have hcap := k1.nodes.cap
    have hle := k1.nodes.le
    unfold maxLen at hcap
    clear ih k1 hwf hno hT
    simp only [MRe.val]
    by_cases h3 : op = 3
    · have hR : singleT (.node op set (MRe.trees kids) mn mx mode n neg) = false := by rw [singleT, if_pos h3]
      rw [hR]
      subst h3
      clear hR
      go_enter Tryz.func67, Tryz.ntmps67
      go_wp2
      go_ret
      exact ⟨rfl, Keeps.a1 _ _⟩
    · by_cases h2 : op = 2 ∨ op = 10 ∨ op = 5
      · have hR : singleT (.node op set (MRe.trees kids) mn mx mode n neg) = !((MRe.trees kids).any fun t => !singleT t) := by rw [singleT, if_neg h3, if_pos h2, singleAll_any]
        rw [hR]
        have HC := Lib.hid (fun W (h : Keeps [] w W) => containsFunc_any 84 #[] (fun t => !singleT t) ka kc kids W enters_single1 (HK.out.keep h) fun k hk W' h' => single1_of k _ W' fun W2 h2 => HI.out k hk W2 ((h.trans h').trans h2))
        have hnot : ∀ (x : Bool) (w : World), (Op.unary .not (.bool x)).run Tryz.prog w = .ok (.bool (!x)) w := fun _ _ => rfl
        obtain ⟨q, hq⟩ : ∃ q, q = ((MRe.trees kids).any fun t => !singleT t) := ⟨_, rfl⟩
        rw [← hq] at HC ⊢
        clear hR hq HI h3
        rcases h2 with rfl | rfl | rfl
        all_goals
          go_enter Tryz.func67, Tryz.ntmps67
          go_wp2_with fail
          refine Calls.mono (HC.out _ (Keeps.a1 w _)) ?_
          rintro e w2 ⟨rfl, hk⟩
          have HK := Lib.hid ((Keeps.a1 w _).trans hk)
          clear hk
          go_wp2
          go_ret
          exact ⟨rfl, HK.out⟩
      · by_cases h4 : op = 4
        · have hlen : kids.length = 1 := HNO.out.hone (.inl h4)
          have hR : singleT (.node op set (MRe.trees kids) mn mx mode n neg) = (mode == 2 || (mn == mx && singleHd (MRe.trees kids))) := by rw [singleT, if_neg h3, if_neg h2, if_pos h4]
          rw [hR]
          subst h4
          by_cases hm : mode = 2
          · have hR2 : (mode == 2 || (mn == mx && singleHd (MRe.trees kids))) = true := by simp [hm]
            rw [hR2]
            clear hR hR2 h3 h2
            go_enter Tryz.func67, Tryz.ntmps67
            go_wp2
            go_ret
            exact ⟨by simp, Keeps.a1 _ _⟩
          · by_cases he : mn = mx
            · obtain ⟨b, off, rfl, hb, hx⟩ := HK.out.nodes.kid (by omega)
              have hx0 := hx 0 (by omega)
              have HC := Lib.hid (HI.out kids[0] (List.getElem_mem (by omega)))
              have hR2 : (mode == 2 || (mn == mx && singleHd (MRe.trees kids))) = singleT kids[0].tree := by
                have h1 : (mode == 2) = false := by simpa using hm
                have h2 : (mn == mx) = true := by simpa using he
                rw [h1, h2]
                match kids, hlen with
                | [x], _ => rfl
              rw [hR2]
              obtain ⟨q, hq⟩ : ∃ q, q = singleT kids[0].tree := ⟨_, rfl⟩
              rw [← hq] at HC ⊢
              generalize kids[0] = k0 at *
              obtain ⟨op1, sa1, sc1, set1, ka1, kc1, kids1, mn1, mx1, mode1, n1, neg1⟩ := k0
              have g := hx0.node
              rw [Nat.zero_mul, Nat.add_zero] at g
              have c0 := g.c0
              have c1 := g.c1
              have c2 := g.c2
              have c3 := g.c3
              have c4 := g.c4
              have c5 := g.c5
              have c6 := g.c6
              have c7 := g.c7
              simp only [MRe.val] at HC
              have hln : (kids.length : Int) = 1 := by omega
              clear g hx0 hx hR hR2 hq HI h3 h2
              go_enter Tryz.func67, Tryz.ntmps67
              go_wp2_with fail
              refine Calls.mono (HC.out _ (Keeps.a1 w _)) ?_
              rintro e w2 ⟨rfl, hk⟩
              have HK := Lib.hid ((Keeps.a1 w _).trans hk)
              clear hk
              go_wp2
              go_ret
              exact ⟨by simp [hm], HK.out⟩
            · have hR2 : (mode == 2 || (mn == mx && singleHd (MRe.trees kids))) = false := by simp [hm, he]
              rw [hR2]
              clear hR hR2 h3 h2
              go_enter Tryz.func67, Tryz.ntmps67
              go_wp2
              go_ret
              exact ⟨by simp [hm], Keeps.a1 _ _⟩
        · have hR : singleT (.node op set (MRe.trees kids) mn mx mode n neg) = true := by rw [singleT, if_neg h3, if_neg h2, if_neg h4]
          rw [hR]
          simp only [not_or] at h2
          obtain ⟨n2, n10, n5⟩ := h2
          clear hR
          go_enter Tryz.func67, Tryz.ntmps67
          go_wp2
          go_ret
          exact ⟨rfl, Keeps.a1 _ _⟩

end Go.Proofs.YtgdmkddegcecaaaGreat
