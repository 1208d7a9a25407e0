/- rules.peel. Conditions: the tree lies in memory, is formed well and is not very big. -/
import Derived.Test.YtgdmkddegcecaaaGreatPlainU
namespace Go.Proofs.YtgdmkddegcecaaaGreat
open Go.RowKit

def peelR : Tree → Option Tree
  | .node op _ kids _ _ _ _ neg =>
    if op = 7 ∧ neg = false ∧ (kids.getD 0 .nil).op = 2 ∧ plainP ((kids.getD 0 .nil).kids.getD ((kids.getD 0 .nil).kids.length - 1) .nil) = true ∧ nullP ((kids.getD 0 .nil).kids.getD ((kids.getD 0 .nil).kids.length - 1) .nil) = true
    then some (mkT 7 [naryT 2 ((kids.getD 0 .nil).kids.take ((kids.getD 0 .nil).kids.length - 1))]) else none
theorem peelR_none {op set kids mn mx mode n neg} (h : op = 7 → neg = false → (kids.getD 0 Tree.nil).op = 2 → plainP ((kids.getD 0 .nil).kids.getD ((kids.getD 0 .nil).kids.length - 1) .nil) = true → nullP ((kids.getD 0 .nil).kids.getD ((kids.getD 0 .nil).kids.length - 1) .nil) = true → False) : peelR (.node op set kids mn mx mode n neg) = none := by
  rw [peelR, if_neg]
  rintro ⟨h1, h2, h3, h4, h5⟩
  exact h h1 h2 h3 h4 h5

/-- A node of one kid, stored as a rule's result. -/
theorem rule_one {w X W : World} {B T : Nat} {op mn mx : Int} {s : MRe} {src : List Nat} (hB : B = w.heap.size) (kX : Keeps [] w X) (kW : Keeps [] X W) (hz : X.heap[B + 1]? = some (.cells #[.int .i64 0, .slice none 0 0, .slice none 0 0, .int .i64 0, .int .i64 0, .int .i64 0, .int .i64 0, .bool false] T (0, 0))) (hsz : B + 2 ≤ X.heap.size)
    (so : s.OK W) (sb : ∀ b ∈ s.blocks, b ∈ src) (hlt : ∀ b ∈ src, b < w.heap.size) (cs : Array Value) (hcs : cs.toList = s.row) :
    (set8 (W.alloc (.cells cs T)) (B + 1) (.int .i64 op) (.slice none 0 0) (.slice (some ⟨W.heap.size, 0, none⟩) 1 1) (.int .i64 mn) (.int .i64 mx) (.int .i64 0) (.int .i64 0) (.bool false)).heap[B + 1]? = some (.cells #[.int .i64 op, .slice none 0 0, .slice (some ⟨W.heap.size, 0, none⟩) 1 1, .int .i64 mn, .int .i64 mx, .int .i64 0, .int .i64 0, .bool false] T (0, 0)) ∧
    MRe.OK (set8 (W.alloc (.cells cs T)) (B + 1) (.int .i64 op) (.slice none 0 0) (.slice (some ⟨W.heap.size, 0, none⟩) 1 1) (.int .i64 mn) (.int .i64 mx) (.int .i64 0) (.int .i64 0) (.bool false)) (.node op none 0 [] (some ⟨W.heap.size, 0, none⟩) 1 [s] mn mx 0 0 false) ∧
    Keeps [] w (set8 (W.alloc (.cells cs T)) (B + 1) (.int .i64 op) (.slice none 0 0) (.slice (some ⟨W.heap.size, 0, none⟩) 1 1) (.int .i64 mn) (.int .i64 mx) (.int .i64 0) (.int .i64 0) (.bool false)) ∧
    From w.heap.size src (MRe.node op none 0 [] (some ⟨W.heap.size, 0, none⟩) 1 [s] mn mx 0 0 false).blocks := by
  have hz5 := (Keeps.a1 W (.cells cs T)).heap (kW.heap hz (by simp)) (by simp)
  have hk8 := set8_keeps (W.alloc (.cells cs T)) (B + 1) (.int .i64 op) (.slice none 0 0) (.slice (some ⟨W.heap.size, 0, none⟩) 1 1) (.int .i64 mn) (.int .i64 mx) (.int .i64 0) (.int .i64 0) (.bool false)
  have hs1 := kX.size
  have hs2 := kW.size
  refine ⟨set8_heap hz5 _ _ _ _ _ _ _ _, .of (SpansIn.nil _) ⟨NodesIn.of_block (kids := [s]) (hk8.heap (heap_alloc_new W _) (by simp; omega)) (by rw [hcs]; simp [flatK]) (by simp [maxLen]), ?_⟩, ((kX.trans kW).trans (Keeps.a1 W _)).after hk8 (by intro x hx; simp at hx; subst hx; exact .inr (by omega)), ?_⟩
  · intro x hx
    simp only [List.mem_cons, List.not_mem_nil, or_false] at hx
    subst hx
    exact (so.keep (Keeps.a1 _ _)).keepS hk8 fun b hb => by have := hlt b (sb b hb); simp; omega
  · intro b hb
    simp only [MRe.blocks, MRe.blocksL, List.mem_append, List.not_mem_nil, or_false] at hb
    rcases hb with hb | hb | hb
    · simp [blockIf] at hb
    · simp [blockIf] at hb; subst hb; exact .inr (by omega)
    · exact .inl (sb b hb)

set_option maxRecDepth 100000 in
set_option maxHeartbeats 8000000 in
theorem peel_any (m : MRe) (w : World) (k1 : m.OK w) (f1 : m.tree.WF) :
    Calls Tryz.prog 53 #[m.val] w (RulePost w m.blocks (peelR m.tree)) := by
  obtain ⟨m0, hm0⟩ : ∃ m0, m0 = m := ⟨_, rfl⟩
  have hm00 := hm0
  obtain ⟨op, sa, sc, set, ka, kc, kids, mn, mx, mode, n, neg⟩ := m
  have hno := wf_node f1
  obtain ⟨B, hBe⟩ : ∃ B, B = w.heap.size := ⟨_, rfl⟩
  obtain ⟨X, hXe, hb8, hz, hsz, hkX⟩ := ruleZ w (.node op sa sc set ka kc kids mn mx mode n neg) 64
  simp only [MRe.row] at hXe
  rw [← hBe] at hb8 hz hsz
  have HBE := Lib.hid hBe
  have HXE := Lib.hid hXe
  have HC := Lib.hid hb8
  have HZ := Lib.hid hz
  have HKX := Lib.hid hkX
  clear hBe hXe hb8 hz hkX
  have HM := Lib.hid hm00
  have HK := Lib.hid k1
  have hval : m0.val = .agg #[.int .i64 op, .slice sa set.length sc, .slice ka kids.length kc, .int .i64 mn, .int .i64 mx, .int .i64 mode, .int .i64 n, .bool neg] := by rw [hm0]; rfl
  have hT : peelR (MRe.tree (.node op sa sc set ka kc kids mn mx mode n neg)) = peelR (.node op set (MRe.trees kids) mn mx mode n neg) := rfl
  rw [hT]
  simp only [MRe.val]
  have HK0 := Lib.hid (Keeps.refl [] X)
  clear hm0 hm00 hval hT
  by_cases h7 : op = 7
  · subst h7
    have hlen0 : kids.length = 1 := hno.hone (by simp)
    have HLEN := Lib.hid hlen0
    have hln : (0 : Int) < (kids.length : Int) := by omega
    have hln0 : 0 < kids.length := by omega
    clear hlen0
    cases neg with
    | true =>
      have HR := Lib.hid (peelR_none (op := 7) (set := set) (kids := MRe.trees kids) (mn := mn) (mx := mx) (mode := mode) (n := n) (neg := true) (fun _ h => by cases h))
      obtain ⟨c0, c1, c2, c3, c4, c5, c6, c7⟩ := HC.out.cells0
      go_enter Tryz.func53, Tryz.ntmps53
      go_upto_region 1 with fail
      rw [← HXE.out, ← HBE.out]
      obtain ⟨z0, z1, z2, z3, z4, z5, z6, z7, zf⟩ := zero_cells (HK0.out.heap HZ.out (by simp))
      have HR2 := Lib.hid (set8_heap (HK0.out.heap HZ.out (by simp)) (.int .i64 0) (.slice none 0 0) (.slice none 0 0) (.int .i64 0) (.int .i64 0) (.int .i64 0) (.int .i64 0) (.bool false))
      have HK2 := Lib.hid ((HKX.out.trans HK0.out).after (set8_keeps _ (B + 1) (.int .i64 0) (.slice none 0 0) (.slice none 0 0) (.int .i64 0) (.int .i64 0) (.int .i64 0) (.int .i64 0) (.bool false)) (by intro x hx; simp at hx; subst hx; exact .inr (by rw [HBE.out]; omega)))
      go_wp2
      refine bodyPost_ret (results_row_tmp rfl _ _ (B + 1) 64 #[.int .i64 0, .slice none 0 0, .slice none 0 0, .int .i64 0, .int .i64 0, .int .i64 0, .int .i64 0, .bool false] (0, 0) _ rfl HR2.out Tryz.underlying64 rfl sizeRe) rfl ?_
      exact RulePost.of_none HR.out rfl HK2.out
    | false =>
      obtain ⟨b1, o1, k0, rfl, hk0m, hk00, hk0a, hk0o⟩ := k1.kids.head hln0
      obtain ⟨r, hr⟩ := trees_head hk00
      have hg : (MRe.trees kids).getD 0 .nil = k0.tree := by rw [hr]; rfl
      have f2 := wf_kid f1 hk0m
      have hb0 : ∀ q ∈ k0.blocks, q ∈ (MRe.node 7 sa sc set (some ⟨b1, o1, none⟩) kc kids mn mx mode n false).blocks := blocks_kid hk0m
      have hPR : peelR (.node 7 set (MRe.trees kids) mn mx mode n false) = if k0.tree.op = 2 ∧ plainP (k0.tree.kids.getD (k0.tree.kids.length - 1) .nil) = true ∧ nullP (k0.tree.kids.getD (k0.tree.kids.length - 1) .nil) = true then some (mkT 7 [naryT 2 (k0.tree.kids.take (k0.tree.kids.length - 1))]) else none := by
        rw [peelR, hg]; simp only [true_and]
      obtain ⟨op1, sa1, sc1, set1, ka1, kc1, kids1, mn1, mx1, mode1, n1, neg1⟩ := k0
      have g := hk0a.node
      have e0 := g.c0
      have e1 := g.c1
      have e2 := g.c2
      have e3 := g.c3
      have e4 := g.c4
      have e5 := g.c5
      have e6 := g.c6
      have e7 := g.c7
      have d0 := HKX.out.cell e0 (by simp)
      have d1 := HKX.out.cell e1 (by simp)
      have d2 := HKX.out.cell e2 (by simp)
      have d3 := HKX.out.cell e3 (by simp)
      have d4 := HKX.out.cell e4 (by simp)
      have d5 := HKX.out.cell e5 (by simp)
      have d6 := HKX.out.cell e6 (by simp)
      have d7 := HKX.out.cell e7 (by simp)
      clear g e0 e1 e2 e3 e4 e5 e6 e7
      have hX2 : (MRe.tree (.node op1 sa1 sc1 set1 ka1 kc1 kids1 mn1 mx1 mode1 n1 neg1)).kids = MRe.trees kids1 := rfl
      have hX3 : (MRe.tree (.node op1 sa1 sc1 set1 ka1 kc1 kids1 mn1 mx1 mode1 n1 neg1)).op = op1 := rfl
      rw [hX2, hX3] at hPR
      by_cases h2 : op1 = 2
      · subst h2
        have hl2 : 2 ≤ kids1.length := (wf_node f2).htwo (.inl rfl)
        obtain ⟨l, hl⟩ : ∃ l, kids1.length = l + 1 := ⟨kids1.length - 1, by omega⟩
        obtain ⟨b2, o2, rfl, hbb2, hx2⟩ := hk0o.nodes.kid (by omega)
        have ha2 := hx2 l (by omega)
        have hao := hk0o.kid (List.getElem_mem (n := l) (by omega))
        have hcap := hk0o.nodes.cap
        have hle := hk0o.nodes.le
        unfold maxLen at hcap
        have htl' : (MRe.trees kids1).length - 1 = l := by rw [MRe.trees_length]; omega
        have hgk : (MRe.trees kids1).getD ((MRe.trees kids1).length - 1) .nil = (kids1[l]'(by omega)).tree := by
          rw [htl', List.getD_eq_getElem?_getD, List.getElem?_eq_getElem (by rw [MRe.trees_length]; omega), Option.getD_some, trees_getElem]
        have htk : (MRe.trees kids1).take ((MRe.trees kids1).length - 1) = MRe.trees (kids1.take l) := by
          rw [htl', MRe.trees_eq, MRe.trees_eq, List.map_take]
        rw [hgk, htk] at hPR
        simp only [true_and] at hPR
        have htl : (kids1.take l).length = l := by rw [List.length_take]; omega
        have hki : KidsIn w (some ⟨b2, o2, none⟩) kc1 (kids1.take l) := ⟨hk0o.nodes.take l, fun x hx => hk0o.kid (List.mem_of_mem_take hx)⟩
        have HN := fun (W : World) (h : Keeps [] w W) => nary_any 2 (some ⟨b2, o2, none⟩) kc1 (kids1.take l) W (hki.keep h)
        rw [htl] at HN
        have HNA := Lib.hid HN
        have hblk : ∀ q ∈ blockIf l (some ⟨b2, o2, none⟩) ++ MRe.blocksL (kids1.take l), q ∈ (MRe.node 7 sa sc set (some ⟨b1, o1, none⟩) kc kids mn mx mode n false).blocks := fun q hq => hb0 q (by
          simp only [MRe.blocks, List.mem_append]
          rcases List.mem_append.1 hq with h | h
          · refine .inr (.inl ?_)
            unfold blockIf at h ⊢
            rw [if_neg (by omega)]
            split at h
            · simp at h
            · simpa using h
          · obtain ⟨y, hy, hqy⟩ := MRe.blocksL_mem h
            exact .inr (.inr (MRe.mem_blocksL (List.mem_of_mem_take hy) hqy)))
        have HBK := Lib.hid hblk
        have HLT := Lib.hid k1.block_lt
        have hsl : ∀ W : World, (Instr.sliceAt 62 (.slice (some ⟨b2, o2, none⟩) kids1.length kc1) none (some (.int .i64 l)) none).run Tryz.prog W = .ok (.slice (some ⟨b2, o2, none⟩) l kc1) W := by
          intro W
          have q1 : (l : Int) ≤ kc1 := by omega
          simp [go_sem, q1]
        have HPL := fun (W : World) (h : Keeps [] w W) => plain_any (kids1[l]'(by omega)) W (hao.keep h)
        have HNL := fun (W : World) (h : Keeps [] w W) => null_any (kids1[l]'(by omega)) W (hao.keep h)
        obtain ⟨p, hp⟩ : ∃ p, p = plainP (kids1[l]'(by omega)).tree := ⟨_, rfl⟩
        obtain ⟨q, hq⟩ : ∃ q, q = nullP (kids1[l]'(by omega)).tree := ⟨_, rfl⟩
        rw [← hp, ← hq] at hPR
        simp only [← hp] at HPL
        simp only [← hq] at HNL
        obtain ⟨k2, hk2⟩ : ∃ k2, k2 = (kids1[l]'(by omega)) := ⟨_, rfl⟩
        rw [← hk2] at ha2 hao
        simp only [← hk2] at HPL HNL
        obtain ⟨op2, sa2, sc2, set2, ka2, kc2, kids2, mn2, mx2, mode2, n2, neg2⟩ := k2
        have g := ha2.node
        have e0 := g.c0
        have e1 := g.c1
        have e2 := g.c2
        have e3 := g.c3
        have e4 := g.c4
        have e5 := g.c5
        have e6 := g.c6
        have e7 := g.c7
        have y0 := HKX.out.cell e0 (by simp)
        have y1 := HKX.out.cell e1 (by simp)
        have y2 := HKX.out.cell e2 (by simp)
        have y3 := HKX.out.cell e3 (by simp)
        have y4 := HKX.out.cell e4 (by simp)
        have y5 := HKX.out.cell e5 (by simp)
        have y6 := HKX.out.cell e6 (by simp)
        have y7 := HKX.out.cell e7 (by simp)
        clear g e0 e1 e2 e3 e4 e5 e6 e7
        simp only [MRe.val] at HPL HNL
        have HPL := Lib.hid HPL
        have HNL := Lib.hid HNL
        have hw1 : IntKind.i64.wrap ((kids1.length : Int) - 1) = (l : Int) := by rw [IntWalk.i64_in _ (by omega)]; omega
        have hlb : (0 : Int) ≤ (l : Int) := by omega
        have hlc : (l : Int) < (kids1.length : Int) := by omega
        have hlt' : l < kids1.length := by omega
        have hPR' := Lib.hid hPR
        clear hPR hX2 hX3 hg hr hk00 hk0m hk0a hk0o f2 f1 k1 hx2 ha2 hao hl hki htl hgk htk htl' hp hq hk2 hblk hb0 HN hl2
        obtain ⟨c0, c1, c2, c3, c4, c5, c6, c7⟩ := HC.out.cells0
        go_enter Tryz.func53, Tryz.ntmps53
        go_upto_region 1 with fail
        rw [← HXE.out, ← HBE.out]
        go_wp2_with fail
        refine Calls.mono (HPL.out _ HKX.out) ?_
        rintro e w3 ⟨rfl, hk3⟩
        have K3 := Lib.hid hk3
        have u0 := K3.out.cell y0 (by simp)
        have u1 := K3.out.cell y1 (by simp)
        have u2 := K3.out.cell y2 (by simp)
        have u3 := K3.out.cell y3 (by simp)
        have u4 := K3.out.cell y4 (by simp)
        have u5 := K3.out.cell y5 (by simp)
        have u6 := K3.out.cell y6 (by simp)
        have u7 := K3.out.cell y7 (by simp)
        clear hk3 c0 c1 c2 c3 c4 c5 c6 c7 d0 d1 d2 d3 d4 d5 d6 d7 y0 y1 y2 y3 y4 y5 y6 y7 HPL
        cases p with
        | false =>
          have HR := Lib.hid (show peelR (.node 7 set (MRe.trees kids) mn mx mode n false) = none by rw [hPR'.out, if_neg (fun h => by cases h.1)])
          obtain ⟨z0, z1, z2, z3, z4, z5, z6, z7, zf⟩ := zero_cells (K3.out.heap HZ.out (by simp))
          have HR2 := Lib.hid (set8_heap (K3.out.heap HZ.out (by simp)) (.int .i64 0) (.slice none 0 0) (.slice none 0 0) (.int .i64 0) (.int .i64 0) (.int .i64 0) (.int .i64 0) (.bool false))
          have HK2 := Lib.hid ((HKX.out.trans K3.out).after (set8_keeps _ (B + 1) (.int .i64 0) (.slice none 0 0) (.slice none 0 0) (.int .i64 0) (.int .i64 0) (.int .i64 0) (.int .i64 0) (.bool false)) (by intro x hx; simp at hx; subst hx; exact .inr (by rw [HBE.out]; omega)))
          go_wp2
          refine bodyPost_ret (results_row_tmp rfl _ _ (B + 1) 64 #[.int .i64 0, .slice none 0 0, .slice none 0 0, .int .i64 0, .int .i64 0, .int .i64 0, .int .i64 0, .bool false] (0, 0) _ rfl HR2.out Tryz.underlying64 rfl sizeRe) rfl ?_
          exact RulePost.of_none HR.out rfl HK2.out
        | true =>
          go_wp2_with fail
          refine Calls.mono (HNL.out _ (HKX.out.trans K3.out)) ?_
          rintro e w4 ⟨rfl, hk4⟩
          have K4 := Lib.hid (K3.out.trans hk4)
          clear hk4 u0 u1 u2 u3 u4 u5 u6 u7 HNL
          cases q with
          | false =>
            have HR := Lib.hid (show peelR (.node 7 set (MRe.trees kids) mn mx mode n false) = none by rw [hPR'.out, if_neg (fun h => by cases h.2)])
            obtain ⟨z0, z1, z2, z3, z4, z5, z6, z7, zf⟩ := zero_cells (K4.out.heap HZ.out (by simp))
            have HR2 := Lib.hid (set8_heap (K4.out.heap HZ.out (by simp)) (.int .i64 0) (.slice none 0 0) (.slice none 0 0) (.int .i64 0) (.int .i64 0) (.int .i64 0) (.int .i64 0) (.bool false))
            have HK2 := Lib.hid ((HKX.out.trans K4.out).after (set8_keeps _ (B + 1) (.int .i64 0) (.slice none 0 0) (.slice none 0 0) (.int .i64 0) (.int .i64 0) (.int .i64 0) (.int .i64 0) (.bool false)) (by intro x hx; simp at hx; subst hx; exact .inr (by rw [HBE.out]; omega)))
            go_wp2
            refine bodyPost_ret (results_row_tmp rfl _ _ (B + 1) 64 #[.int .i64 0, .slice none 0 0, .slice none 0 0, .int .i64 0, .int .i64 0, .int .i64 0, .int .i64 0, .bool false] (0, 0) _ rfl HR2.out Tryz.underlying64 rfl sizeRe) rfl ?_
            exact RulePost.of_none HR.out rfl HK2.out
          | true =>
            have HR := Lib.hid (show peelR (.node 7 set (MRe.trees kids) mn mx mode n false) = some (mkT 7 [naryT 2 (MRe.trees (kids1.take l))]) by rw [hPR'.out]; simp)
            go_wp2_with fail
            refine Calls.mono (HNA.out _ (HKX.out.trans K4.out)) ?_
            rintro e w5 ⟨s, rfl, hst, hso, hk5, hsb⟩
            have K5 := Lib.hid (K4.out.trans hk5)
            obtain ⟨s0, hs0⟩ : ∃ s0, s0 = s := ⟨_, rfl⟩
            rw [← hs0] at hst hso hsb
            have S0 := Lib.hid hs0
            have ST := Lib.hid hst
            have SO := Lib.hid hso
            have SB := Lib.hid hsb
            clear hk5 hs0 hst hso hsb
            obtain ⟨op9, sa9, sc9, set9, ka9, kc9, kids9, mn9, mx9, mode9, n9, neg9⟩ := s
            simp only [MRe.val]
            have hz5 := (Keeps.a1 w5 (.cells #[.int .i64 op9, .slice sa9 set9.length sc9, .slice ka9 kids9.length kc9, .int .i64 mn9, .int .i64 mx9, .int .i64 mode9, .int .i64 n9, .bool neg9] 64)).heap (K5.out.heap HZ.out (by simp)) (by simp)
            obtain ⟨z0, z1, z2, z3, z4, z5, z6, z7, zf⟩ := zero_cells hz5
            have HZ5 := Lib.hid hz5
            clear hz5
            go_wp2
            obtain ⟨hR, hok, hke, hfr⟩ := rule_one (op := 7) (mn := 0) (mx := 0) (T := 64) (s := s0) (src := (MRe.node 7 sa sc set (some ⟨b1, o1, none⟩) kc kids mn mx mode n false).blocks) HBE.out HKX.out K5.out HZ.out hsz SO.out (fun b hb => HBK.out b (SB.out b hb)) HLT.out #[.int .i64 op9, .slice sa9 set9.length sc9, .slice ka9 kids9.length kc9, .int .i64 mn9, .int .i64 mx9, .int .i64 mode9, .int .i64 n9, .bool neg9] (by rw [S0.out]; rfl)
            refine bodyPost_ret (results_row_tmp rfl _ _ (B + 1) 64 #[.int .i64 7, .slice none 0 0, .slice (some ⟨w5.heap.size, 0, none⟩) 1 1, .int .i64 0, .int .i64 0, .int .i64 0, .int .i64 0, .bool false] (0, 0) _ rfl hR Tryz.underlying64 rfl sizeRe) rfl ?_
            exact RulePost.of_some (.node 7 none 0 [] (some ⟨w5.heap.size, 0, none⟩) 1 [s0] 0 0 0 0 false) (by rw [HR.out]; simp only [MRe.tree, MRe.trees, ST.out]; rfl) rfl hok hke hfr
      · have h2b : (op1 != 2) = true := by simpa using h2
        have HR := Lib.hid (show peelR (.node 7 set (MRe.trees kids) mn mx mode n false) = none by rw [hPR, if_neg (fun h => h2 h.1)])
        clear hPR hX2 hX3 hg hr hk00 hk0m hk0a hk0o f2 f1 k1 hb0
        obtain ⟨c0, c1, c2, c3, c4, c5, c6, c7⟩ := HC.out.cells0
        go_enter Tryz.func53, Tryz.ntmps53
        go_upto_region 1 with fail
        rw [← HXE.out, ← HBE.out]
        obtain ⟨z0, z1, z2, z3, z4, z5, z6, z7, zf⟩ := zero_cells (HK0.out.heap HZ.out (by simp))
        have HR2 := Lib.hid (set8_heap (HK0.out.heap HZ.out (by simp)) (.int .i64 0) (.slice none 0 0) (.slice none 0 0) (.int .i64 0) (.int .i64 0) (.int .i64 0) (.int .i64 0) (.bool false))
        have HK2 := Lib.hid ((HKX.out.trans HK0.out).after (set8_keeps _ (B + 1) (.int .i64 0) (.slice none 0 0) (.slice none 0 0) (.int .i64 0) (.int .i64 0) (.int .i64 0) (.int .i64 0) (.bool false)) (by intro x hx; simp at hx; subst hx; exact .inr (by rw [HBE.out]; omega)))
        go_wp2
        refine bodyPost_ret (results_row_tmp rfl _ _ (B + 1) 64 #[.int .i64 0, .slice none 0 0, .slice none 0 0, .int .i64 0, .int .i64 0, .int .i64 0, .int .i64 0, .bool false] (0, 0) _ rfl HR2.out Tryz.underlying64 rfl sizeRe) rfl ?_
        exact RulePost.of_none HR.out rfl HK2.out
  · have HR := Lib.hid (peelR_none (op := op) (set := set) (kids := MRe.trees kids) (mn := mn) (mx := mx) (mode := mode) (n := n) (neg := neg) (fun h => absurd h h7))
    obtain ⟨c0, c1, c2, c3, c4, c5, c6, c7⟩ := HC.out.cells0
    go_enter Tryz.func53, Tryz.ntmps53
    go_upto_region 1 with fail
    rw [← HXE.out, ← HBE.out]
    obtain ⟨z0, z1, z2, z3, z4, z5, z6, z7, zf⟩ := zero_cells (HK0.out.heap HZ.out (by simp))
    have HR2 := Lib.hid (set8_heap (HK0.out.heap HZ.out (by simp)) (.int .i64 0) (.slice none 0 0) (.slice none 0 0) (.int .i64 0) (.int .i64 0) (.int .i64 0) (.int .i64 0) (.bool false))
    have HK2 := Lib.hid ((HKX.out.trans HK0.out).after (set8_keeps _ (B + 1) (.int .i64 0) (.slice none 0 0) (.slice none 0 0) (.int .i64 0) (.int .i64 0) (.int .i64 0) (.int .i64 0) (.bool false)) (by intro x hx; simp at hx; subst hx; exact .inr (by rw [HBE.out]; omega)))
    go_wp2
    refine bodyPost_ret (results_row_tmp rfl _ _ (B + 1) 64 #[.int .i64 0, .slice none 0 0, .slice none 0 0, .int .i64 0, .int .i64 0, .int .i64 0, .int .i64 0, .bool false] (0, 0) _ rfl HR2.out Tryz.underlying64 rfl sizeRe) rfl ?_
    exact RulePost.of_none HR.out rfl HK2.out

end Go.Proofs.YtgdmkddegcecaaaGreat
