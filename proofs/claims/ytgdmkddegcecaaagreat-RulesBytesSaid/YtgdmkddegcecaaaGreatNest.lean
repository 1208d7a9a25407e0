/- rules.nest. Conditions: the tree lies in memory, is formed well and is not very big. -/
import Derived.Test.YtgdmkddegcecaaaGreatPeel
namespace Go.Proofs.YtgdmkddegcecaaaGreat
open Go.RowKit

def gsB (t : Tree) : Bool := starB t || greedyB t.op t.mn t.mx t.mode 1 (-1)
def nestR : Tree → Option Tree
  | .node op set kids mn mx mode n neg =>
    if gsB (.node op set kids mn mx mode n neg) = true ∧ gsB (kids.getD 0 .nil) = true ∧ nullP ((kids.getD 0 .nil).kids.getD 0 .nil) = false
    then some (.node 4 [] (kids.getD 0 .nil).kids (min mn (kids.getD 0 .nil).mn) (-1) 0 0 false) else none
theorem gsB_op {t : Tree} (h : gsB t = true) : t.op = 4 := by
  simp only [gsB, starB, greedyB, Bool.or_eq_true, Bool.and_eq_true, beq_iff_eq] at h
  rcases h with h | h
  · exact h.1
  · exact h.1

set_option maxRecDepth 100000 in
set_option maxHeartbeats 8000000 in
theorem nest_any (m : MRe) (w : World) (k1 : m.OK w) (f1 : m.tree.WF) :
    Calls Tryz.prog 48 #[m.val] w (RulePost w m.blocks (nestR m.tree)) := by
  obtain ⟨m0, hm0⟩ : ∃ m0, m0 = m := ⟨_, rfl⟩
  have HS1 := fun W => star_any m W
  have HG1 := fun W => greedy_any m 1 (-1) W
  have hgs : gsB m.tree = (starB m.tree || greedyB m.tree.op m.tree.mn m.tree.mx m.tree.mode 1 (-1)) := rfl
  obtain ⟨s1, hs1⟩ : ∃ s1, s1 = starB m.tree := ⟨_, rfl⟩
  obtain ⟨g1, hg1⟩ : ∃ g1, g1 = greedyB m.tree.op m.tree.mn m.tree.mx m.tree.mode 1 (-1) := ⟨_, rfl⟩
  simp only [← hs1] at HS1
  simp only [← hg1] at HG1
  rw [← hs1, ← hg1] at hgs
  clear hs1 hg1
  obtain ⟨op, sa, sc, set, ka, kc, kids, mn, mx, mode, n, neg⟩ := m
  have hno := wf_node f1
  obtain ⟨B, hBe⟩ : ∃ B, B = w.heap.size := ⟨_, rfl⟩
  obtain ⟨X, hXe, hb8, hz, hsz, hkX⟩ := ruleZ w (.node op sa sc set ka kc kids mn mx mode n neg) 64
  simp only [MRe.row] at hXe
  rw [← hBe] at hb8 hz hsz
  have HBE := Lib.hid hBe
  have HXE := Lib.hid hXe
  have HC := Lib.hid hb8
  have HZ := Lib.hid hz
  have HKX := Lib.hid hkX
  clear hBe hXe hb8 hz hkX
  have hT : nestR (MRe.tree (.node op sa sc set ka kc kids mn mx mode n neg)) = nestR (.node op set (MRe.trees kids) mn mx mode n neg) := rfl
  have hT2 : gsB (MRe.tree (.node op sa sc set ka kc kids mn mx mode n neg)) = gsB (.node op set (MRe.trees kids) mn mx mode n neg) := rfl
  rw [hT]
  rw [hT2] at hgs
  simp only [MRe.val] at HS1 HG1 ⊢
  have HS1 := Lib.hid HS1
  have HG1 := Lib.hid HG1
  have HK0 := Lib.hid (Keeps.refl [] X)
  clear hT hT2 hm0
  have HGS := Lib.hid hgs
  by_cases hA : gsB (.node op set (MRe.trees kids) mn mx mode n neg) = true
  · have h4 : op = 4 := gsB_op hA
    subst h4
    have hlen0 : kids.length = 1 := hno.hone (by simp)
    have HLEN := Lib.hid hlen0
    have hln : (0 : Int) < (kids.length : Int) := by omega
    have hln0 : 0 < kids.length := by omega
    have hsg : (s1 || g1) = true := by rw [← hgs]; exact hA
    clear hlen0 hgs
    obtain ⟨b1, o1, k0, rfl, hk0m, hk00, hk0a, hk0o⟩ := k1.kids.head hln0
    obtain ⟨r, hr⟩ := trees_head hk00
    have hg : (MRe.trees kids).getD 0 .nil = k0.tree := by rw [hr]; rfl
    have f2 := wf_kid f1 hk0m
    have hb0 : ∀ q ∈ k0.blocks, q ∈ (MRe.node 4 sa sc set (some ⟨b1, o1, none⟩) kc kids mn mx mode n neg).blocks := blocks_kid hk0m
    have hPR : nestR (.node 4 set (MRe.trees kids) mn mx mode n neg) = if gsB k0.tree = true ∧ nullP (k0.tree.kids.getD 0 .nil) = false then some (.node 4 [] k0.tree.kids (min mn k0.tree.mn) (-1) 0 0 false) else none := by
      rw [nestR, hg, hA]; simp only [true_and]
    have HS2 := fun W => star_any k0 W
    have HG2 := fun W => greedy_any k0 1 (-1) W
    have hgs2 : gsB k0.tree = (starB k0.tree || greedyB k0.tree.op k0.tree.mn k0.tree.mx k0.tree.mode 1 (-1)) := rfl
    obtain ⟨s2, hs2⟩ : ∃ s2, s2 = starB k0.tree := ⟨_, rfl⟩
    obtain ⟨g2, hg2⟩ : ∃ g2, g2 = greedyB k0.tree.op k0.tree.mn k0.tree.mx k0.tree.mode 1 (-1) := ⟨_, rfl⟩
    simp only [← hs2] at HS2
    simp only [← hg2] at HG2
    rw [← hs2, ← hg2] at hgs2
    obtain ⟨k00, hk000⟩ : ∃ k00, k00 = k0 := ⟨_, rfl⟩
    have K00 := Lib.hid hk000
    have H4 := Lib.hid (fun (h : gsB k0.tree = true) => gsB_op h)
    have HF2 := Lib.hid f2
    have HO2 := Lib.hid hk0o
    have HB0 := Lib.hid hb0
    have HLT := Lib.hid k1.block_lt
    rw [← hk000] at hPR hgs2
    have HPR := Lib.hid hPR
    have HGS2 := Lib.hid hgs2
    obtain ⟨op1, sa1, sc1, set1, ka1, kc1, kids1, mn1, mx1, mode1, n1, neg1⟩ := k0
    have g := hk0a.node
    have e0 := g.c0
    have e1 := g.c1
    have e2 := g.c2
    have e3 := g.c3
    have e4 := g.c4
    have e5 := g.c5
    have e6 := g.c6
    have e7 := g.c7
    have d0 := HKX.out.cell e0 (by simp)
    have d1 := HKX.out.cell e1 (by simp)
    have d2 := HKX.out.cell e2 (by simp)
    have d3 := HKX.out.cell e3 (by simp)
    have d4 := HKX.out.cell e4 (by simp)
    have d5 := HKX.out.cell e5 (by simp)
    have d6 := HKX.out.cell e6 (by simp)
    have d7 := HKX.out.cell e7 (by simp)
    simp only [MRe.val] at HS2 HG2
    have HS2 := Lib.hid HS2
    have HG2 := Lib.hid HG2
    clear g e0 e1 e2 e3 e4 e5 e6 e7 hg hr hk00 hk0m hk0a hk0o f2 f1 k1 hb0 hPR hgs2 hs2 hg2 hk000 hno hA
    obtain ⟨c0, c1, c2, c3, c4, c5, c6, c7⟩ := HC.out.cells0
    go_enter Tryz.func48, Tryz.ntmps48
    go_upto_region 1 with fail
    rw [← HXE.out, ← HBE.out]
    go_cut [12] (fun s12 wx => s12 = .bool false ∧ ∃ W, W = wx ∧ Keeps [] X W)
    case first =>
      cases s1 with
      | true =>
        go_wp2_with fail
        refine Calls.mono (HS1.out _) ?_
        rintro e w2 ⟨rfl, hk2⟩
        have K2 := Lib.hid hk2
        clear hk2
        go_wp2
        go_meet
        exact ⟨rfl, _, rfl, K2.out⟩
      | false =>
        obtain rfl : g1 = true := by simpa using hsg
        go_wp2_with fail
        refine Calls.mono (HS1.out _) ?_
        rintro e w2 ⟨rfl, hk2⟩
        have K2 := Lib.hid hk2
        have u0 := K2.out.cell c0 (by simp)
        have u1 := K2.out.cell c1 (by simp)
        have u2 := K2.out.cell c2 (by simp)
        have u3 := K2.out.cell c3 (by simp)
        have u4 := K2.out.cell c4 (by simp)
        have u5 := K2.out.cell c5 (by simp)
        have u6 := K2.out.cell c6 (by simp)
        have u7 := K2.out.cell c7 (by simp)
        clear hk2 c0 c1 c2 c3 c4 c5 c6 c7
        go_wp2_with fail
        refine Calls.mono (HG1.out _) ?_
        rintro e w3 ⟨rfl, hk3⟩
        have K3 := Lib.hid (K2.out.trans hk3)
        clear hk3
        go_wp2
        go_meet
        exact ⟨rfl, _, rfl, K3.out⟩
    case rest =>
      obtain ⟨rfl, W, rfl, kW⟩ := hcut
      have KW := Lib.hid kW
      have t0 := KW.out.cell c0 (by simp)
      have t1 := KW.out.cell c1 (by simp)
      have t2 := KW.out.cell c2 (by simp)
      have t3 := KW.out.cell c3 (by simp)
      have t4 := KW.out.cell c4 (by simp)
      have t5 := KW.out.cell c5 (by simp)
      have t6 := KW.out.cell c6 (by simp)
      have t7 := KW.out.cell c7 (by simp)
      have v0 := KW.out.cell d0 (by simp)
      have v1 := KW.out.cell d1 (by simp)
      have v2 := KW.out.cell d2 (by simp)
      have v3 := KW.out.cell d3 (by simp)
      have v4 := KW.out.cell d4 (by simp)
      have v5 := KW.out.cell d5 (by simp)
      have v6 := KW.out.cell d6 (by simp)
      have v7 := KW.out.cell d7 (by simp)
      clear kW c0 c1 c2 c3 c4 c5 c6 c7 d0 d1 d2 d3 d4 d5 d6 d7 hsg
      go_upto_region 4 with fail
      obtain ⟨C, hCe⟩ : ∃ C, C = W.heap.size := ⟨_, rfl⟩
      obtain ⟨Y, hYe⟩ : ∃ Y, Y = W.alloc (.cells #[.int .i64 op1, .slice sa1 set1.length sc1, .slice ka1 kids1.length kc1, .int .i64 mn1, .int .i64 mx1, .int .i64 mode1, .int .i64 n1, .bool neg1] 64) := ⟨_, rfl⟩
      have hat : At8 Y C 0 (.node op1 sa1 sc1 set1 ka1 kc1 kids1 mn1 mx1 mode1 n1 neg1) := by rw [hYe, hCe]; exact At8.box rfl
      have hkY : Keeps [] W Y := by rw [hYe]; exact Keeps.a1 _ _
      rw [← hYe, ← hCe]
      have HCE := Lib.hid hCe
      have KY := Lib.hid (KW.out.trans hkY)
      have y0 := hkY.cell t0 (by simp)
      have y1 := hkY.cell t1 (by simp)
      have y2 := hkY.cell t2 (by simp)
      have y3 := hkY.cell t3 (by simp)
      have y4 := hkY.cell t4 (by simp)
      have y5 := hkY.cell t5 (by simp)
      have y6 := hkY.cell t6 (by simp)
      have y7 := hkY.cell t7 (by simp)
      obtain ⟨p0, p1, p2, p3, p4, p5, p6, p7⟩ := hat.cells0
      have hop1 : (MRe.tree (.node op1 sa1 sc1 set1 ka1 kc1 kids1 mn1 mx1 mode1 n1 neg1)).op = op1 := rfl
      have HOP1 := Lib.hid hop1
      clear hCe hYe hat hkY t0 t1 t2 t3 t4 t5 t6 t7 v0 v1 v2 v3 v4 v5 v6 v7 hop1
      by_cases hB : gsB k00.tree = true
      · have h4 : op1 = 4 := by have := H4.out (by rw [← K00.out]; exact hB); rw [HOP1.out] at this; exact this
        subst h4
        have hlen1 : kids1.length = 1 := (wf_node HF2.out).hone (by simp)
        have hlm : (0 : Int) < (kids1.length : Int) := by omega
        have hlm0 : 0 < kids1.length := by omega
        clear hlen1
        obtain ⟨b3, o3, k3, rfl, hk3m, hk30, hk3a, hk3o⟩ := HO2.out.kids.head hlm0
        obtain ⟨r3, hr3⟩ := trees_head hk30
        have hg3 : k00.tree.kids.getD 0 .nil = k3.tree := by
          have : k00.tree.kids = MRe.trees kids1 := by rw [K00.out]; rfl
          rw [this, hr3]; rfl
        have HNL := fun (V : World) (h : Keeps [] w V) => null_any k3 V (hk3o.keep h)
        obtain ⟨q, hq⟩ : ∃ q, q = nullP k3.tree := ⟨_, rfl⟩
        have hPR2 : nestR (.node 4 set (MRe.trees kids) mn mx mode n neg) = if q = false then some (.node 4 [] k00.tree.kids (min mn k00.tree.mn) (-1) 0 0 false) else none := by
          rw [HPR.out, hB, hg3, ← hq]; simp only [true_and]
        have HPR2 := Lib.hid hPR2
        simp only [← hq] at HNL
        have hsg2 : (s2 || g2) = true := by rw [← HGS2.out]; exact hB
        obtain ⟨op3, sa3, sc3, set3, ka3, kc3, kids3, mn3, mx3, mode3, n3, neg3⟩ := k3
        have g := hk3a.node
        have e0 := g.c0
        have e1 := g.c1
        have e2 := g.c2
        have e3 := g.c3
        have e4 := g.c4
        have e5 := g.c5
        have e6 := g.c6
        have e7 := g.c7
        have d0 := (HKX.out.trans KY.out).cell e0 (by simp)
        have d1 := (HKX.out.trans KY.out).cell e1 (by simp)
        have d2 := (HKX.out.trans KY.out).cell e2 (by simp)
        have d3 := (HKX.out.trans KY.out).cell e3 (by simp)
        have d4 := (HKX.out.trans KY.out).cell e4 (by simp)
        have d5 := (HKX.out.trans KY.out).cell e5 (by simp)
        have d6 := (HKX.out.trans KY.out).cell e6 (by simp)
        have d7 := (HKX.out.trans KY.out).cell e7 (by simp)
        simp only [MRe.val] at HNL
        have HNL := Lib.hid HNL
        clear g e0 e1 e2 e3 e4 e5 e6 e7 hk3m hk30 hk3a hk3o hr3 hg3 hq hPR2 hB
        go_cut [32] (fun s32 wx => s32 = .bool q ∧ ∃ V, V = wx ∧ Keeps [] Y V)
        case first =>
          cases s2 with
          | true =>
            go_wp2_with fail
            refine Calls.mono (HS2.out _) ?_
            rintro e w2 ⟨rfl, hk2⟩
            have K2 := Lib.hid hk2
            have u0 := K2.out.cell p0 (by simp)
            have u1 := K2.out.cell p1 (by simp)
            have u2 := K2.out.cell p2 (by simp)
            have u3 := K2.out.cell p3 (by simp)
            have u4 := K2.out.cell p4 (by simp)
            have u5 := K2.out.cell p5 (by simp)
            have u6 := K2.out.cell p6 (by simp)
            have u7 := K2.out.cell p7 (by simp)
            have t0 := K2.out.cell d0 (by simp)
            have t1 := K2.out.cell d1 (by simp)
            have t2 := K2.out.cell d2 (by simp)
            have t3 := K2.out.cell d3 (by simp)
            have t4 := K2.out.cell d4 (by simp)
            have t5 := K2.out.cell d5 (by simp)
            have t6 := K2.out.cell d6 (by simp)
            have t7 := K2.out.cell d7 (by simp)
            clear hk2 p0 p1 p2 p3 p4 p5 p6 p7 d0 d1 d2 d3 d4 d5 d6 d7
            go_wp2_with fail
            refine Calls.mono (HNL.out _ ((HKX.out.trans KY.out).trans K2.out)) ?_
            rintro e w3 ⟨rfl, hk3⟩
            have K3 := Lib.hid (K2.out.trans hk3)
            clear hk3
            go_wp2
            go_meet
            exact ⟨rfl, _, rfl, K3.out⟩
          | false =>
            obtain rfl : g2 = true := by simpa using hsg2
            go_wp2_with fail
            refine Calls.mono (HS2.out _) ?_
            rintro e w2 ⟨rfl, hk2⟩
            have K2 := Lib.hid hk2
            have u0 := K2.out.cell p0 (by simp)
            have u1 := K2.out.cell p1 (by simp)
            have u2 := K2.out.cell p2 (by simp)
            have u3 := K2.out.cell p3 (by simp)
            have u4 := K2.out.cell p4 (by simp)
            have u5 := K2.out.cell p5 (by simp)
            have u6 := K2.out.cell p6 (by simp)
            have u7 := K2.out.cell p7 (by simp)
            have t0 := K2.out.cell d0 (by simp)
            have t1 := K2.out.cell d1 (by simp)
            have t2 := K2.out.cell d2 (by simp)
            have t3 := K2.out.cell d3 (by simp)
            have t4 := K2.out.cell d4 (by simp)
            have t5 := K2.out.cell d5 (by simp)
            have t6 := K2.out.cell d6 (by simp)
            have t7 := K2.out.cell d7 (by simp)
            clear hk2 p0 p1 p2 p3 p4 p5 p6 p7 d0 d1 d2 d3 d4 d5 d6 d7
            go_wp2_with fail
            refine Calls.mono (HG2.out _) ?_
            rintro e w3 ⟨rfl, hk3⟩
            have K3 := Lib.hid (K2.out.trans hk3)
            have v0 := hk3.cell u0 (by simp)
            have v1 := hk3.cell u1 (by simp)
            have v2 := hk3.cell u2 (by simp)
            have v3 := hk3.cell u3 (by simp)
            have v4 := hk3.cell u4 (by simp)
            have v5 := hk3.cell u5 (by simp)
            have v6 := hk3.cell u6 (by simp)
            have v7 := hk3.cell u7 (by simp)
            have x0 := hk3.cell t0 (by simp)
            have x1 := hk3.cell t1 (by simp)
            have x2 := hk3.cell t2 (by simp)
            have x3 := hk3.cell t3 (by simp)
            have x4 := hk3.cell t4 (by simp)
            have x5 := hk3.cell t5 (by simp)
            have x6 := hk3.cell t6 (by simp)
            have x7 := hk3.cell t7 (by simp)
            clear hk3 u0 u1 u2 u3 u4 u5 u6 u7 t0 t1 t2 t3 t4 t5 t6 t7
            go_wp2_with fail
            refine Calls.mono (HNL.out _ ((HKX.out.trans KY.out).trans K3.out)) ?_
            rintro e w4 ⟨rfl, hk4⟩
            have K4 := Lib.hid (K3.out.trans hk4)
            clear hk4
            go_wp2
            go_meet
            exact ⟨rfl, _, rfl, K4.out⟩
        case rest =>
          obtain ⟨rfl, V, rfl, kV⟩ := hcut
          have KV := Lib.hid (KY.out.trans kV)
          have t0 := kV.cell y0 (by simp)
          have t1 := kV.cell y1 (by simp)
          have t2 := kV.cell y2 (by simp)
          have t3 := kV.cell y3 (by simp)
          have t4 := kV.cell y4 (by simp)
          have t5 := kV.cell y5 (by simp)
          have t6 := kV.cell y6 (by simp)
          have t7 := kV.cell y7 (by simp)
          have v0 := kV.cell p0 (by simp)
          have v1 := kV.cell p1 (by simp)
          have v2 := kV.cell p2 (by simp)
          have v3 := kV.cell p3 (by simp)
          have v4 := kV.cell p4 (by simp)
          have v5 := kV.cell p5 (by simp)
          have v6 := kV.cell p6 (by simp)
          have v7 := kV.cell p7 (by simp)
          clear kV y0 y1 y2 y3 y4 y5 y6 y7 p0 p1 p2 p3 p4 p5 p6 p7 d0 d1 d2 d3 d4 d5 d6 d7 hsg2
          cases q with
          | true =>
            have HR := Lib.hid (show nestR (.node 4 set (MRe.trees kids) mn mx mode n neg) = none by rw [HPR2.out, if_neg (by simp)])
            obtain ⟨z0, z1, z2, z3, z4, z5, z6, z7, zf⟩ := zero_cells (KV.out.heap HZ.out (by simp))
            have HR2 := Lib.hid (set8_heap (KV.out.heap HZ.out (by simp)) (.int .i64 0) (.slice none 0 0) (.slice none 0 0) (.int .i64 0) (.int .i64 0) (.int .i64 0) (.int .i64 0) (.bool false))
            have HK2 := Lib.hid ((HKX.out.trans KV.out).after (set8_keeps _ (B + 1) (.int .i64 0) (.slice none 0 0) (.slice none 0 0) (.int .i64 0) (.int .i64 0) (.int .i64 0) (.int .i64 0) (.bool false)) (by intro x hx; simp at hx; subst hx; exact .inr (by rw [HBE.out]; omega)))
            go_wp2
            refine bodyPost_ret (results_row_tmp rfl _ _ (B + 1) 64 #[.int .i64 0, .slice none 0 0, .slice none 0 0, .int .i64 0, .int .i64 0, .int .i64 0, .int .i64 0, .bool false] (0, 0) _ rfl HR2.out Tryz.underlying64 rfl sizeRe) rfl ?_
            exact RulePost.of_none HR.out rfl HK2.out
          | false =>
            have HR := Lib.hid (show nestR (.node 4 set (MRe.trees kids) mn mx mode n neg) = some (.node 4 [] k00.tree.kids (min mn k00.tree.mn) (-1) 0 0 false) by rw [HPR2.out, if_pos rfl])
            obtain ⟨z0, z1, z2, z3, z4, z5, z6, z7, zf⟩ := zero_cells (KV.out.heap HZ.out (by simp))
            go_wp2
            all_goals
              first
              | (have hM : mn = min mn mn1 := by omega
                 have hk8 := set8_keeps V (B + 1) (.int .i64 4) (.slice none 0 0) (.slice (some ⟨b3, o3, none⟩) kids1.length kc1) (.int .i64 mn) (.int .i64 (-1)) (.int .i64 0) (.int .i64 0) (.bool false)
                 have hR := set8_heap (KV.out.heap HZ.out (by simp)) (.int .i64 4) (.slice none 0 0) (.slice (some ⟨b3, o3, none⟩) kids1.length kc1) (.int .i64 mn) (.int .i64 (-1)) (.int .i64 0) (.int .i64 0) (.bool false)
                 refine bodyPost_ret (results_row_tmp rfl _ _ (B + 1) 64 #[.int .i64 4, .slice none 0 0, .slice (some ⟨b3, o3, none⟩) kids1.length kc1, .int .i64 mn, .int .i64 (-1), .int .i64 0, .int .i64 0, .bool false] (0, 0) _ rfl hR Tryz.underlying64 rfl sizeRe) rfl ?_
                 have hnb : ∀ q ∈ blockIf kids1.length (some ⟨b3, o3, none⟩) ++ MRe.blocksL kids1, q ∈ (MRe.node 4 sa sc set (some ⟨b1, o1, none⟩) kc kids mn mx mode n neg).blocks := fun q hq => HB0.out q (by simp only [MRe.blocks, List.mem_append] at hq ⊢; exact .inr hq)
                 refine RulePost.of_some (.node 4 none 0 [] (some ⟨b3, o3, none⟩) kc1 kids1 mn (-1) 0 0 false) (by rw [HR.out, K00.out]; show some (Tree.node 4 [] (MRe.trees kids1) (min mn mn1) (-1) 0 0 false) = some (Tree.node 4 [] (MRe.trees kids1) mn (-1) 0 0 false); rw [← hM]) rfl (.of (SpansIn.nil _) ((HO2.out.kids.keep (HKX.out.trans KV.out)).keepS hk8 fun q hq => ?_)) ((HKX.out.trans KV.out).after hk8 (by intro x hx; simp at hx; subst hx; exact .inr (by rw [HBE.out]; omega))) ?_
                 · have := HLT.out q (hnb q hq); have := HBE.out; simp; omega
                 · intro q hq
                   simp only [MRe.blocks, List.mem_append] at hq
                   rcases hq with hq | hq
                   · simp [blockIf] at hq
                   · exact .inl (hnb q (by simp only [List.mem_append]; exact hq)))
              | (have hM : mn1 = min mn mn1 := by omega
                 have hk8 := set8_keeps V (B + 1) (.int .i64 4) (.slice none 0 0) (.slice (some ⟨b3, o3, none⟩) kids1.length kc1) (.int .i64 mn1) (.int .i64 (-1)) (.int .i64 0) (.int .i64 0) (.bool false)
                 have hR := set8_heap (KV.out.heap HZ.out (by simp)) (.int .i64 4) (.slice none 0 0) (.slice (some ⟨b3, o3, none⟩) kids1.length kc1) (.int .i64 mn1) (.int .i64 (-1)) (.int .i64 0) (.int .i64 0) (.bool false)
                 refine bodyPost_ret (results_row_tmp rfl _ _ (B + 1) 64 #[.int .i64 4, .slice none 0 0, .slice (some ⟨b3, o3, none⟩) kids1.length kc1, .int .i64 mn1, .int .i64 (-1), .int .i64 0, .int .i64 0, .bool false] (0, 0) _ rfl hR Tryz.underlying64 rfl sizeRe) rfl ?_
                 have hnb : ∀ q ∈ blockIf kids1.length (some ⟨b3, o3, none⟩) ++ MRe.blocksL kids1, q ∈ (MRe.node 4 sa sc set (some ⟨b1, o1, none⟩) kc kids mn mx mode n neg).blocks := fun q hq => HB0.out q (by simp only [MRe.blocks, List.mem_append] at hq ⊢; exact .inr hq)
                 refine RulePost.of_some (.node 4 none 0 [] (some ⟨b3, o3, none⟩) kc1 kids1 mn1 (-1) 0 0 false) (by rw [HR.out, K00.out]; show some (Tree.node 4 [] (MRe.trees kids1) (min mn mn1) (-1) 0 0 false) = some (Tree.node 4 [] (MRe.trees kids1) mn1 (-1) 0 0 false); rw [← hM]) rfl (.of (SpansIn.nil _) ((HO2.out.kids.keep (HKX.out.trans KV.out)).keepS hk8 fun q hq => ?_)) ((HKX.out.trans KV.out).after hk8 (by intro x hx; simp at hx; subst hx; exact .inr (by rw [HBE.out]; omega))) ?_
                 · have := HLT.out q (hnb q hq); have := HBE.out; simp; omega
                 · intro q hq
                   simp only [MRe.blocks, List.mem_append] at hq
                   rcases hq with hq | hq
                   · simp [blockIf] at hq
                   · exact .inl (hnb q (by simp only [List.mem_append]; exact hq)))
      · have HR := Lib.hid (show nestR (.node 4 set (MRe.trees kids) mn mx mode n neg) = none by rw [HPR.out, if_neg (fun h => hB h.1)])
        have hsg2 : (s2 || g2) = false := by rw [← HGS2.out]; simpa using hB
        obtain ⟨rfl, rfl⟩ : s2 = false ∧ g2 = false := by simpa using hsg2
        clear hB hsg2
        go_wp2_with fail
        refine Calls.mono (HS2.out _) ?_
        rintro e w2 ⟨rfl, hk2⟩
        have K2 := Lib.hid hk2
        have u0 := K2.out.cell p0 (by simp)
        have u1 := K2.out.cell p1 (by simp)
        have u2 := K2.out.cell p2 (by simp)
        have u3 := K2.out.cell p3 (by simp)
        have u4 := K2.out.cell p4 (by simp)
        have u5 := K2.out.cell p5 (by simp)
        have u6 := K2.out.cell p6 (by simp)
        have u7 := K2.out.cell p7 (by simp)
        clear hk2 p0 p1 p2 p3 p4 p5 p6 p7 y0 y1 y2 y3 y4 y5 y6 y7
        go_wp2_with fail
        refine Calls.mono (HG2.out _) ?_
        rintro e w3 ⟨rfl, hk3⟩
        have K3 := Lib.hid (KY.out.trans (K2.out.trans hk3))
        clear hk3
        obtain ⟨z0, z1, z2, z3, z4, z5, z6, z7, zf⟩ := zero_cells (K3.out.heap HZ.out (by simp))
        have HR2 := Lib.hid (set8_heap (K3.out.heap HZ.out (by simp)) (.int .i64 0) (.slice none 0 0) (.slice none 0 0) (.int .i64 0) (.int .i64 0) (.int .i64 0) (.int .i64 0) (.bool false))
        have HK2 := Lib.hid ((HKX.out.trans K3.out).after (set8_keeps _ (B + 1) (.int .i64 0) (.slice none 0 0) (.slice none 0 0) (.int .i64 0) (.int .i64 0) (.int .i64 0) (.int .i64 0) (.bool false)) (by intro x hx; simp at hx; subst hx; exact .inr (by rw [HBE.out]; omega)))
        go_wp2
        refine bodyPost_ret (results_row_tmp rfl _ _ (B + 1) 64 #[.int .i64 0, .slice none 0 0, .slice none 0 0, .int .i64 0, .int .i64 0, .int .i64 0, .int .i64 0, .bool false] (0, 0) _ rfl HR2.out Tryz.underlying64 rfl sizeRe) rfl ?_
        exact RulePost.of_none HR.out rfl HK2.out
  · have HR := Lib.hid (show nestR (.node op set (MRe.trees kids) mn mx mode n neg) = none by rw [nestR, if_neg (fun h => hA h.1)])
    have hsg : (s1 || g1) = false := by rw [← hgs]; simpa using hA
    obtain ⟨rfl, rfl⟩ : s1 = false ∧ g1 = false := by simpa using hsg
    clear hgs hA hsg
    obtain ⟨c0, c1, c2, c3, c4, c5, c6, c7⟩ := HC.out.cells0
    go_enter Tryz.func48, Tryz.ntmps48
    go_upto_region 1 with fail
    rw [← HXE.out, ← HBE.out]
    go_wp2_with fail
    refine Calls.mono (HS1.out _) ?_
    rintro e w2 ⟨rfl, hk2⟩
    have K2 := Lib.hid hk2
    have u0 := K2.out.cell c0 (by simp)
    have u1 := K2.out.cell c1 (by simp)
    have u2 := K2.out.cell c2 (by simp)
    have u3 := K2.out.cell c3 (by simp)
    have u4 := K2.out.cell c4 (by simp)
    have u5 := K2.out.cell c5 (by simp)
    have u6 := K2.out.cell c6 (by simp)
    have u7 := K2.out.cell c7 (by simp)
    clear hk2 c0 c1 c2 c3 c4 c5 c6 c7
    go_wp2_with fail
    refine Calls.mono (HG1.out _) ?_
    rintro e w3 ⟨rfl, hk3⟩
    have K3 := Lib.hid (K2.out.trans hk3)
    clear hk3
    obtain ⟨z0, z1, z2, z3, z4, z5, z6, z7, zf⟩ := zero_cells (K3.out.heap HZ.out (by simp))
    have HR2 := Lib.hid (set8_heap (K3.out.heap HZ.out (by simp)) (.int .i64 0) (.slice none 0 0) (.slice none 0 0) (.int .i64 0) (.int .i64 0) (.int .i64 0) (.int .i64 0) (.bool false))
    have HK2 := Lib.hid ((HKX.out.trans K3.out).after (set8_keeps _ (B + 1) (.int .i64 0) (.slice none 0 0) (.slice none 0 0) (.int .i64 0) (.int .i64 0) (.int .i64 0) (.int .i64 0) (.bool false)) (by intro x hx; simp at hx; subst hx; exact .inr (by rw [HBE.out]; omega)))
    go_wp2
    refine bodyPost_ret (results_row_tmp rfl _ _ (B + 1) 64 #[.int .i64 0, .slice none 0 0, .slice none 0 0, .int .i64 0, .int .i64 0, .int .i64 0, .int .i64 0, .bool false] (0, 0) _ rfl HR2.out Tryz.underlying64 rfl sizeRe) rfl ?_
    exact RulePost.of_none HR.out rfl HK2.out

end Go.Proofs.YtgdmkddegcecaaaGreat
