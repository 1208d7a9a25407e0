/- sets.Union and rules.union. Conditions: the tree lies in memory, is formed well, is not very big, and its sets are not empty. -/
import Derived.Test.YtgdmkddegcecaaaGreatComb
namespace Go.Proofs.YtgdmkddegcecaaaGreat
open Go.RowKit

def unionP (A B : List (Int × Int)) : List (Int × Int) := combP (fun a b => a || b) A B
/-- What Union hands back. -/
def UnionPost (w : World) (r : List (Int × Int)) (e : Ending) (w' : World) : Prop :=
  ∃ (a : Option Nat) (c : Nat), (if r.length ≤ 64 then e = .returned (.tuple #[sv a r.length c, .int .i64 0]) else e = .returned (.tuple #[.slice none 0 0, .int .i64 4])) ∧ SliceAt w' 80 2 a r.length c (flatP r) ∧ Keeps [] w w' ∧ ∀ g, a = some g → w.heap.size ≤ g

theorem enters_either : Enters 86 := enters_of Tryz.func86 (by kernel_rfl) rfl

set_option maxRecDepth 100000 in
set_option maxHeartbeats 4000000 in
theorem spair_any (aa ba : Option Addr) (ac bc : Nat) (A B : List (Int × Int)) (w : World) (s0 : SpansIn w aa ac A) (s1 : SpansIn w ba bc B) (ha : SpansOK A) (hb : SpansOK B) (hal : A.length ≤ 64) (hbl : B.length ≤ 64) (hne : A ++ B ≠ []) :
    Calls Tryz.prog 85 #[.slice aa A.length ac, .slice ba B.length bc, .func (Fn.func 86) #[] #[]] w (UnionPost w (unionP A B)) := by
  have HV0 := Lib.hid (fun (W : World) (h : Keeps [] w W) => valid_any aa ac A W (s0.keep h) ha hal)
  have HV1 := Lib.hid (fun (W : World) (h : Keeps [] w W) => valid_any ba bc B W (s1.keep h) hb hbl)
  have HC := Lib.hid (fun (W : World) (G : Nat) (h : Lists W G aa ac A ba bc B) => combine_any 86 (fun a b => a || b) G aa ba ac bc A B W enters_either (fun g c b0 b1 W h0 h1 => either_any g b0 b1 c W h0 h1) h ha hb hal hbl hne)
  have HS0 := Lib.hid s0
  have HS1 := Lib.hid s1
  clear s0 s1 ha hb hal hbl hne
  go_enter Tryz.func85, Tryz.ntmps85
  go_wp2_with fail
  refine Calls.mono (HV0.out _ (Keeps.refl _ _)) ?_
  rintro e w2 ⟨rfl, hk2⟩
  have K2 := Lib.hid hk2
  clear hk2
  go_wp2_with fail
  refine Calls.mono (HV1.out _ K2.out) ?_
  rintro e w3 ⟨rfl, hk3⟩
  have K3 := Lib.hid (K2.out.trans hk3)
  clear hk3
  go_wp2_with fail
  refine Calls.mono (HC.out _ w3.heap.size ⟨by simp, by simp, HS0.out.keep (K3.out.alloc _), HS1.out.keep (K3.out.alloc _)⟩) ?_
  rintro e w4 ⟨a, c, rfl, hsl, hk4, hg⟩
  have HSL := Lib.hid hsl
  have K4 := Lib.hid ((K3.out.alloc _).trans hk4)
  have HG := Lib.hid (show ∀ g, a = some g → w.heap.size ≤ g from fun g h => by have h1 := hg g h; have h2 := (K3.out.alloc (.cells #[.slice aa A.length ac, .slice ba B.length bc] 61)).size; simp at h1 h2; omega)
  clear hsl hk4 hg
  obtain ⟨r, hr⟩ : ∃ r, r = combP (fun a b => a || b) A B := ⟨_, rfl⟩
  have hu : unionP A B = r := hr.symm
  rw [← hr] at HSL ⊢
  have HU := Lib.hid hu
  have HLI := limited_any (a.map fun g => ⟨g, 0, none⟩) r.length c w4
  have HLI := Lib.hid HLI
  clear hr hu
  go_wp2_with fail
  refine Calls.mono HLI.out ?_
  rintro e w5 ⟨he, rfl⟩
  by_cases hle : r.length ≤ 64
  · rw [if_pos hle] at he
    subst he
    go_wp2
    go_ret2
    rw [HU.out]
    exact ⟨a, c, by rw [if_pos hle]; rfl, HSL.out, K4.out, HG.out⟩
  · rw [if_neg hle] at he
    subst he
    go_wp2
    go_ret2
    rw [HU.out]
    exact ⟨a, c, by rw [if_neg hle]; rfl, HSL.out, K4.out, HG.out⟩

set_option maxHeartbeats 1000000 in
theorem sunion_any (aa ba : Option Addr) (ac bc : Nat) (A B : List (Int × Int)) (w : World) (s0 : SpansIn w aa ac A) (s1 : SpansIn w ba bc B) (ha : SpansOK A) (hb : SpansOK B) (hal : A.length ≤ 64) (hbl : B.length ≤ 64) (hne : A ++ B ≠ []) :
    Calls Tryz.prog 71 #[.slice aa A.length ac, .slice ba B.length bc] w (UnionPost w (unionP A B)) := by
  have HP := Lib.hid (spair_any aa ba ac bc A B w s0 s1 ha hb hal hbl hne)
  obtain ⟨r, hr⟩ : ∃ r, r = unionP A B := ⟨_, rfl⟩
  rw [← hr] at HP ⊢
  clear s0 s1 ha hb hal hbl hne hr
  go_enter Tryz.func71, Tryz.ntmps71
  go_wp2_with fail
  refine Calls.mono HP.out ?_
  rintro e w2 ⟨a, c, he, hsl, hk, hg⟩
  have HSL := Lib.hid hsl
  have HK := Lib.hid hk
  have HG := Lib.hid hg
  clear hsl hk hg HP
  by_cases hle : r.length ≤ 64
  · rw [if_pos hle] at he
    subst he
    go_wp2
    go_ret2
    exact ⟨a, c, by rw [if_pos hle]; rfl, HSL.out, HK.out, HG.out⟩
  · rw [if_neg hle] at he
    subst he
    go_wp2
    go_ret2
    exact ⟨a, c, by rw [if_neg hle]; rfl, HSL.out, HK.out, HG.out⟩

end Go.Proofs.YtgdmkddegcecaaaGreat

namespace Go.Proofs.YtgdmkddegcecaaaGreat
open Go.RowKit

def uT (a b : Tree) : Bool := a.op == 1 && (b.op == 1 && decide ((unionP a.set b.set).length ≤ 64))
/-- The variable of the union holds some slice. -/
def VarAt (w : World) (V : Nat) : Prop := ∃ (a : Option Addr) (n c : Nat), w.heap[V]? = some (.cells #[.slice a n c] 61 (0, 0))
/-- The variable of the union holds a new slice of these spans. -/
def VarIs (w : World) (V lo : Nat) (r : List (Int × Int)) : Prop := ∃ (a : Option Nat) (c : Nat), w.heap[V]? = some (.cells #[sv a r.length c] 61 (0, 0)) ∧ SliceAt w 80 2 a r.length c (flatP r) ∧ ∀ g, a = some g → lo ≤ g
/-- What the test leaves. -/
def UPost (W : World) (V : Nat) (t1 t2 : Tree) (e : Ending) (w' : World) : Prop :=
  e = .returned (.bool (uT t1 t2)) ∧ Keeps [V] W w' ∧ VarAt w' V ∧ (uT t1 t2 = true → VarIs w' V W.heap.size (unionP t1.set t2.set))

set_option maxRecDepth 100000 in
set_option maxHeartbeats 4000000 in
theorem union1_any (m1 m2 : MRe) (V : Nat) (w : World) (k1 : m1.OK w) (k2 : m2.OK w) (f1 : m1.tree.WF) (f2 : m2.tree.WF) (e1 : m1.tree.op = 1 → m1.tree.set ≠ []) (hv : VarAt w V) :
    Calls Tryz.prog 70 #[m1.val, m2.val, .pointer (some ⟨V, 0, none⟩)] w (UPost w V m1.tree m2.tree) := by
  obtain ⟨op1, sa1, sc1, set1, ka1, kc1, kids1, mn1, mx1, mode1, n1, neg1⟩ := m1
  obtain ⟨op2, sa2, sc2, set2, ka2, kc2, kids2, mn2, mx2, mode2, n2, neg2⟩ := m2
  have hT : ∀ e w', UPost w V (.node op1 set1 (MRe.trees kids1) mn1 mx1 mode1 n1 neg1) (.node op2 set2 (MRe.trees kids2) mn2 mx2 mode2 n2 neg2) e w' → UPost w V (MRe.tree (.node op1 sa1 sc1 set1 ka1 kc1 kids1 mn1 mx1 mode1 n1 neg1)) (MRe.tree (.node op2 sa2 sc2 set2 ka2 kc2 kids2 mn2 mx2 mode2 n2 neg2)) e w' := fun _ _ h => h
  refine Calls.mono ?_ hT
  have hu : uT (.node op1 set1 (MRe.trees kids1) mn1 mx1 mode1 n1 neg1) (.node op2 set2 (MRe.trees kids2) mn2 mx2 mode2 n2 neg2) = (op1 == 1 && (op2 == 1 && decide ((unionP set1 set2).length ≤ 64))) := rfl
  have hs : unionP (Tree.set (.node op1 set1 (MRe.trees kids1) mn1 mx1 mode1 n1 neg1)) (Tree.set (.node op2 set2 (MRe.trees kids2) mn2 mx2 mode2 n2 neg2)) = unionP set1 set2 := rfl
  have e1 : op1 = 1 → set1 ≠ [] := e1
  simp only [MRe.val]
  obtain ⟨B, hBe⟩ : ∃ B, B = w.heap.size := ⟨_, rfl⟩
  obtain ⟨Y, hYe⟩ : ∃ Y, Y = (w.alloc (.cells #[.int .i64 op1, .slice sa1 set1.length sc1, .slice ka1 kids1.length kc1, .int .i64 mn1, .int .i64 mx1, .int .i64 mode1, .int .i64 n1, .bool neg1] 64)).alloc (.cells #[.int .i64 op2, .slice sa2 set2.length sc2, .slice ka2 kids2.length kc2, .int .i64 mn2, .int .i64 mx2, .int .i64 mode2, .int .i64 n2, .bool neg2] 64) := ⟨_, rfl⟩
  have hkY : Keeps [] w Y := by rw [hYe]; exact Keeps.a2 _ _ _
  obtain ⟨c0, c1, c2, c3, c4, c5, c6, c7⟩ : Y.cell? ⟨B, 0, none⟩ = some (.int .i64 op1) ∧ Y.cell? ⟨B, 1, none⟩ = some (.slice sa1 set1.length sc1) ∧ Y.cell? ⟨B, 2, none⟩ = some (.slice ka1 kids1.length kc1) ∧ Y.cell? ⟨B, 3, none⟩ = some (.int .i64 mn1) ∧ Y.cell? ⟨B, 4, none⟩ = some (.int .i64 mx1) ∧ Y.cell? ⟨B, 5, none⟩ = some (.int .i64 mode1) ∧ Y.cell? ⟨B, 6, none⟩ = some (.int .i64 n1) ∧ Y.cell? ⟨B, 7, none⟩ = some (.bool neg1) := by rw [hYe, hBe]; exact ((At8.box (m := .node op1 sa1 sc1 set1 ka1 kc1 kids1 mn1 mx1 mode1 n1 neg1) (cs := #[.int .i64 op1, .slice sa1 set1.length sc1, .slice ka1 kids1.length kc1, .int .i64 mn1, .int .i64 mx1, .int .i64 mode1, .int .i64 n1, .bool neg1]) rfl).keep (Keeps.a1 _ _)).cells0
  obtain ⟨d0, d1, d2, d3, d4, d5, d6, d7⟩ : Y.cell? ⟨(B+1), 0, none⟩ = some (.int .i64 op2) ∧ Y.cell? ⟨(B+1), 1, none⟩ = some (.slice sa2 set2.length sc2) ∧ Y.cell? ⟨(B+1), 2, none⟩ = some (.slice ka2 kids2.length kc2) ∧ Y.cell? ⟨(B+1), 3, none⟩ = some (.int .i64 mn2) ∧ Y.cell? ⟨(B+1), 4, none⟩ = some (.int .i64 mx2) ∧ Y.cell? ⟨(B+1), 5, none⟩ = some (.int .i64 mode2) ∧ Y.cell? ⟨(B+1), 6, none⟩ = some (.int .i64 n2) ∧ Y.cell? ⟨(B+1), 7, none⟩ = some (.bool neg2) := by
    rw [hYe, hBe]
    have h := (At8.box (w := w.alloc (.cells #[.int .i64 op1, .slice sa1 set1.length sc1, .slice ka1 kids1.length kc1, .int .i64 mn1, .int .i64 mx1, .int .i64 mode1, .int .i64 n1, .bool neg1] 64)) (T := 64) (m := .node op2 sa2 sc2 set2 ka2 kc2 kids2 mn2 mx2 mode2 n2 neg2) (cs := #[.int .i64 op2, .slice sa2 set2.length sc2, .slice ka2 kids2.length kc2, .int .i64 mn2, .int .i64 mx2, .int .i64 mode2, .int .i64 n2, .bool neg2]) rfl)
    rw [show (w.alloc (.cells #[.int .i64 op1, .slice sa1 set1.length sc1, .slice ka1 kids1.length kc1, .int .i64 mn1, .int .i64 mx1, .int .i64 mode1, .int .i64 n1, .bool neg1] 64)).heap.size = w.heap.size + 1 by simp] at h
    exact h.cells0
  have HYE := Lib.hid hYe
  have HBE := Lib.hid hBe
  have KY := Lib.hid hkY
  have HU := Lib.hid hu
  have HSS := Lib.hid hs
  obtain ⟨a, n, c, hv⟩ := hv
  have HV := Lib.hid hv
  have S1 := Lib.hid k1.spans
  have S2 := Lib.hid k2.spans
  have N1 := Lib.hid (wf_node f1)
  have N2 := Lib.hid (wf_node f2)
  have E1 := Lib.hid e1
  clear hYe hBe hkY hu hs hv k1 k2 f1 f2 e1 hT
  by_cases a1 : op1 = 1
  · by_cases a2 : op2 = 1
    · subst a1
      subst a2
      have HUN := Lib.hid (sunion_any sa1 sa2 sc1 sc2 set1 set2 Y (S1.out.keep KY.out) (S2.out.keep KY.out) (N1.out.hset rfl).1 (N2.out.hset rfl).1 (N1.out.hset rfl).2 (N2.out.hset rfl).2 (fun h => E1.out rfl (List.append_eq_nil_iff.1 h).1))
      obtain ⟨r, hr⟩ : ∃ r, r = unionP set1 set2 := ⟨_, rfl⟩
      rw [← hr] at HUN HU HSS
      clear hr
      go_enter Tryz.func70, Tryz.ntmps70
      go_upto_region 1 with fail
      rw [← HYE.out, ← HBE.out]
      go_wp2_with fail
      refine Calls.mono HUN.out ?_
      rintro e w2 ⟨g, c', he, hsl, hk2, hg⟩
      have HSL := Lib.hid hsl
      have K2 := Lib.hid (KY.out.trans hk2)
      have HG := Lib.hid (show ∀ x, g = some x → w.heap.size ≤ x from fun x h => Nat.le_trans KY.out.size (hg x h))
      have HV2 := Lib.hid (K2.out.heap HV.out (by simp))
      have vf := row_frozen HV2.out
      have v0 := cell_of_row HV2.out
      clear hsl hk2 hg HUN c0 c1 c2 c3 c4 c5 c6 c7 d0 d1 d2 d3 d4 d5 d6 d7
      by_cases hle : r.length ≤ 64
      · rw [if_pos hle] at he
        subst he
        simp only [sv]
        go_wp2
        go_ret
        have hst := (Keeps.refl [V] w2).setCell (p := ⟨V, 0, none⟩) (.inl (by simp)) (sv g r.length c')
        refine ⟨by rw [HU.out]; simp [hle], (K2.out.mono (by simp)).trans hst, ⟨_, _, _, heap_setCell_same w2 V 0 _ _ _ HV2.out⟩, fun _ => ?_⟩
        rw [HSS.out]
        refine ⟨g, c', heap_setCell_same w2 V 0 _ _ _ HV2.out, HSL.out.keep hst (fun x hx => ?_), HG.out⟩
        have h1 := HG.out x hx
        have h2 := lt_of_block HV.out
        simp; omega
      · rw [if_neg hle] at he
        subst he
        go_wp2
        go_ret
        have hst := (Keeps.refl [V] w2).setCell (p := ⟨V, 0, none⟩) (.inl (by simp)) (.slice none 0 0)
        have hf : uT (.node 1 set1 (MRe.trees kids1) mn1 mx1 mode1 n1 neg1) (.node 1 set2 (MRe.trees kids2) mn2 mx2 mode2 n2 neg2) = false := by rw [HU.out]; simp [hle]
        exact ⟨by rw [hf]; rfl, (K2.out.mono (by simp)).trans hst, ⟨_, _, _, heap_setCell_same w2 V 0 _ _ _ HV2.out⟩, fun h => by rw [hf] at h; cases h⟩
    · have a2b : (op2 != 1) = true := by simpa using a2
      subst a1
      have HF := Lib.hid (show uT (.node 1 set1 (MRe.trees kids1) mn1 mx1 mode1 n1 neg1) (.node op2 set2 (MRe.trees kids2) mn2 mx2 mode2 n2 neg2) = false by rw [HU.out]; simp [a2])
      go_enter Tryz.func70, Tryz.ntmps70
      go_upto_region 1 with fail
      rw [← HYE.out, ← HBE.out]
      go_wp2
      go_ret
      exact ⟨by rw [HF.out]; rfl, KY.out.mono (by simp), ⟨_, _, _, KY.out.heap HV.out (by simp)⟩, fun h => by rw [HF.out] at h; cases h⟩
  · have a1b : (op1 != 1) = true := by simpa using a1
    have HF := Lib.hid (show uT (.node op1 set1 (MRe.trees kids1) mn1 mx1 mode1 n1 neg1) (.node op2 set2 (MRe.trees kids2) mn2 mx2 mode2 n2 neg2) = false by rw [HU.out]; simp [a1])
    go_enter Tryz.func70, Tryz.ntmps70
    go_upto_region 1 with fail
    rw [← HYE.out, ← HBE.out]
    go_wp2
    go_ret
    exact ⟨by rw [HF.out]; rfl, KY.out.mono (by simp), ⟨_, _, _, KY.out.heap HV.out (by simp)⟩, fun h => by rw [HF.out] at h; cases h⟩

end Go.Proofs.YtgdmkddegcecaaaGreat

namespace Go.Proofs.YtgdmkddegcecaaaGreat
open Go.RowKit

theorem trees_getD (l : List MRe) (i : Nat) : (MRe.trees l).getD i .nil = (l.getD i MRe.nil).tree := by
  rw [List.getD_eq_getElem?_getD, List.getD_eq_getElem?_getD, MRe.trees_eq, List.getElem?_map]
  cases l[i]? with
  | none => rfl
  | some x => rfl
def unionR (t : Tree) : Option Tree := (pairO uT 3 t).map fun i => swapT t.op t.kids i (i + 2) [.node 1 (unionP (t.kids.getD i .nil).set (t.kids.getD (i + 1) .nil).set) [] 0 0 0 0 false]

set_option maxRecDepth 100000 in
set_option maxHeartbeats 8000000 in
theorem union_any (m : MRe) (w : World) (k1 : m.OK w) (f1 : m.tree.WF) (hb : m.tree.bulk ≤ 100000) (hne : ∀ k ∈ m.kids, k.tree.op = 1 → k.tree.set ≠ []) :
    Calls Tryz.prog 46 #[m.val] w (RulePost w m.blocks (unionR m.tree)) := by
  have henter : Enters 70 := enters_of Tryz.func70 (by kernel_rfl) rfl
  obtain ⟨m0, hm0⟩ : ∃ m0, m0 = m := ⟨_, rfl⟩
  have HSW := Lib.hid (fun (W : World) (h : Keeps [] w W) (i : Nat) (la : Option Addr) (l : MRe) => swap_any m i (i + 2) la 1 [l] W (k1.keep h))
  have HLT := Lib.hid k1.block_lt
  have HP := Lib.hid (fun (V : Nat) (X1 : World) (hX : Keeps [] w X1) (hV : w.heap.size ≤ V) (hv : VarAt X1 V) => pair_any 70 #[.pointer (some ⟨V, 0, none⟩)] uT 3 m X1
    (fun W => Keeps [V] X1 W ∧ VarAt W V) (fun i W => Keeps [V] X1 W ∧ VarIs W V X1.heap.size (unionP (m.kids.getD i MRe.nil).tree.set (m.kids.getD (i + 1) MRe.nil).tree.set)) henter ⟨Keeps.refl _ _, hv⟩
    (fun W hW => (k1.keep hX).keepS hW.1 fun b hb => by have := k1.block_lt b hb; simp; omega) (fun _ W hW => (k1.keep hX).keepS hW.1 fun b hb => by have := k1.block_lt b hb; simp; omega)
    (fun W hW => ⟨hW.1.drew, hW.2⟩) (fun W o hW => ⟨hW.1.alloc o, by obtain ⟨a, n, c, h⟩ := hW.2; exact ⟨a, n, c, (Keeps.a1 W o).heap h (by simp)⟩⟩)
    (fun i hi W hW => by
      have hok := (k1.keep hX).keepS hW.1 fun b hb => (by have := k1.block_lt b hb; simp; omega : b ∉ [V])
      have hm1 : m.kids[i] ∈ m.kids := List.getElem_mem _
      have hm2 : m.kids[i + 1] ∈ m.kids := List.getElem_mem _
      have g1 : m.kids.getD i MRe.nil = m.kids[i] := by simp [List.getD_eq_getElem?_getD, List.getElem?_eq_getElem (show i < m.kids.length by omega)]
      have g2 : m.kids.getD (i + 1) MRe.nil = m.kids[i + 1] := by simp [List.getD_eq_getElem?_getD, List.getElem?_eq_getElem hi]
      have o1 : m.kids[i].OK W := by cases m with | node op sa sc set ka kc kids mn mx mode n neg => exact hok.kid hm1
      have o2 : m.kids[i + 1].OK W := by cases m with | node op sa sc set ka kc kids mn mx mode n neg => exact hok.kid hm2
      have w1 : m.kids[i].tree.WF := by cases m with | node op sa sc set ka kc kids mn mx mode n neg => exact wf_kid f1 hm1
      have w2 : m.kids[i + 1].tree.WF := by cases m with | node op sa sc set ka kc kids mn mx mode n neg => exact wf_kid f1 hm2
      refine Calls.mono (union1_any m.kids[i] m.kids[i + 1] V W o1 o2 w1 w2 (hne _ hm1) hW.2) ?_
      rintro e w' ⟨he, hk, hva, hvi⟩
      refine ⟨he, fun _ => ⟨hW.1.trans hk, hva⟩, fun h => ⟨hW.1.trans hk, ?_⟩⟩
      obtain ⟨a, c, h1, h2, h3⟩ := hvi h
      rw [g1, g2]
      exact ⟨a, c, h1, h2, fun g hg => Nat.le_trans hW.1.size (h3 g hg)⟩))
  have hbk : m.kids.length ≤ 100000 := by
    cases m with
    | node op sa sc set ka kc kids mn mx mode n neg => exact (kids_bulk hb).1
  obtain ⟨op, sa, sc, set, ka, kc, kids, mn, mx, mode, n, neg⟩ := m
  obtain ⟨B, hBe⟩ : ∃ B, B = w.heap.size := ⟨_, rfl⟩
  obtain ⟨X, hXe, hb8, hz, hsz, hkX⟩ := ruleZ w (.node op sa sc set ka kc kids mn mx mode n neg) 64
  simp only [MRe.row] at hXe
  rw [← hBe] at hb8 hz hsz
  have HBE := Lib.hid hBe
  have HXE := Lib.hid hXe
  have HC := Lib.hid hb8
  have HZ := Lib.hid hz
  have HKX := Lib.hid hkX
  clear hBe hXe hb8 hz hkX
  have HXS := Lib.hid hsz
  have HBK := Lib.hid (show kids.length ≤ 100000 from hbk)
  have HNO := Lib.hid (wf_node f1)
  have HM0 := Lib.hid hm0
  have hT : unionR (MRe.tree (.node op sa sc set ka kc kids mn mx mode n neg)) = (pairO uT 3 (MRe.tree (.node op sa sc set ka kc kids mn mx mode n neg))).map fun i => swapT op (MRe.trees kids) i (i + 2) [.node 1 (unionP ((MRe.trees kids).getD i .nil).set ((MRe.trees kids).getD (i + 1) .nil).set) [] 0 0 0 0 false] := rfl
  obtain ⟨po, hpo⟩ : ∃ po, po = pairO uT 3 (MRe.tree (.node op sa sc set ka kc kids mn mx mode n neg)) := ⟨_, rfl⟩
  rw [← hpo] at HP hT
  rw [hT]
  have HPO := Lib.hid hpo
  clear hT hb hne k1 f1 hbk hm0 hpo henter hsz
  obtain ⟨V, hVe⟩ : ∃ V, V = X.heap.size := ⟨_, rfl⟩
  obtain ⟨X1, hX1⟩ : ∃ X1, X1 = X.alloc (.cells #[.slice none 0 0] 61) := ⟨_, rfl⟩
  have hk1 : Keeps [] X X1 := by rw [hX1]; exact Keeps.a1 _ _
  have hv1 : X1.heap[V]? = some (.cells #[.slice none 0 0] 61 (0, 0)) := by rw [hX1, hVe]; exact heap_alloc_new X _
  have HV1 := Lib.hid (show V < X1.heap.size from lt_of_block hv1)
  have K1 := Lib.hid hk1
  have HVE := Lib.hid hVe
  have HX1 := Lib.hid hX1
  have hP := HP.out V X1 (HKX.out.trans hk1) (by rw [hVe]; exact HKX.out.size) ⟨_, _, _, hv1⟩
  simp only [MRe.val] at hP ⊢
  have HP2 := Lib.hid hP
  clear hVe hX1 hk1 hv1 hP HP
  obtain ⟨c0, c1, c2, c3, c4, c5, c6, c7⟩ := HC.out.cells0
  go_enter Tryz.func46, Tryz.ntmps46
  go_upto_region 1 with fail
  rw [← HXE.out, ← HBE.out]
  have d0 := K1.out.cell c0 (by simp)
  have d1 := K1.out.cell c1 (by simp)
  have d2 := K1.out.cell c2 (by simp)
  have d3 := K1.out.cell c3 (by simp)
  have d4 := K1.out.cell c4 (by simp)
  have d5 := K1.out.cell c5 (by simp)
  have d6 := K1.out.cell c6 (by simp)
  have d7 := K1.out.cell c7 (by simp)
  go_upto_region 2 with fail
  rw [← HX1.out, ← HVE.out]
  have hmf : ∀ (fn : Fn) (first cap : Array Value) (w : World), (Instr.makeFunc fn first cap).run Tryz.prog w = .ok (.func fn first cap) w := fun _ _ _ _ => rfl
  go_wp2_with fail
  refine Calls.mono HP2.out ?_
  intro e w2 hor
  have HZ1 := Lib.hid (K1.out.heap HZ.out (by simp))
  clear c0 c1 c2 c3 c4 c5 c6 c7
  cases po with
  | none =>
    obtain ⟨⟨x, rfl⟩, hk2, _⟩ := hor
    have K2 := Lib.hid (K1.out.after hk2 (by intro x hx; simp at hx; subst hx; exact .inr (by rw [HVE.out]; exact Nat.le_refl _)))
    have HR := Lib.hid (show (none : Option Nat).map (fun i => swapT op (MRe.trees kids) i (i + 2) [.node 1 (unionP ((MRe.trees kids).getD i .nil).set ((MRe.trees kids).getD (i + 1) .nil).set) [] 0 0 0 0 false]) = none from rfl)
    clear hk2 d0 d1 d2 d3 d4 d5 d6 d7
    obtain ⟨z0, z1, z2, z3, z4, z5, z6, z7, zf⟩ := zero_cells (K2.out.heap HZ.out (by simp))
    have HR2 := Lib.hid (set8_heap (K2.out.heap HZ.out (by simp)) (.int .i64 0) (.slice none 0 0) (.slice none 0 0) (.int .i64 0) (.int .i64 0) (.int .i64 0) (.int .i64 0) (.bool false))
    have HK2 := Lib.hid ((HKX.out.trans K2.out).after (set8_keeps _ (B + 1) (.int .i64 0) (.slice none 0 0) (.slice none 0 0) (.int .i64 0) (.int .i64 0) (.int .i64 0) (.int .i64 0) (.bool false)) (by intro x hx; simp at hx; subst hx; exact .inr (by rw [HBE.out]; omega)))
    go_wp2
    refine bodyPost_ret (results_row_tmp rfl _ _ (B + 1) 64 #[.int .i64 0, .slice none 0 0, .slice none 0 0, .int .i64 0, .int .i64 0, .int .i64 0, .int .i64 0, .bool false] (0, 0) _ rfl HR2.out Tryz.underlying64 rfl sizeRe) rfl ?_
    exact RulePost.of_none HR.out rfl HK2.out
  | some i =>
    obtain ⟨rfl, hk2, a, c, hv2, hsl, hfr⟩ := hor
    have K2 := Lib.hid (K1.out.after hk2 (by intro x hx; simp at hx; subst hx; exact .inr (by rw [HVE.out]; exact Nat.le_refl _)))
    obtain ⟨hop, hil, _⟩ := pairO_some HPO.out.symm
    have hop : op = 3 := hop
    subst hop
    have hil : i + 1 < (MRe.trees kids).length := hil
    rw [MRe.trees_length] at hil
    obtain ⟨r, hr⟩ : ∃ r, r = unionP (kids.getD i MRe.nil).tree.set (kids.getD (i + 1) MRe.nil).tree.set := ⟨_, rfl⟩
    have hR : (some i).map (fun i => swapT 3 (MRe.trees kids) i (i + 2) [.node 1 (unionP ((MRe.trees kids).getD i .nil).set ((MRe.trees kids).getD (i + 1) .nil).set) [] 0 0 0 0 false]) = some (swapT 3 (MRe.trees kids) i (i + 2) [.node 1 r [] 0 0 0 0 false]) := by
      simp only [Option.map_some, trees_getD]; rw [hr]
    simp only [MRe.kids] at hv2 hsl
    rw [← hr] at hv2 hsl
    have HR := Lib.hid hR
    have v0 := cell_of_row hv2
    simp only [sv] at v0
    have SP := Lib.hid (SpansIn.of_sl hsl)
    have HFR := Lib.hid hfr
    have hBV : B < V := by have h1 := HVE.out; have h2 := HXS.out; omega
    have hw1 : IntKind.i64.wrap ((i : Int) + 2) = (i : Int) + 2 := IntWalk.i64_in _ (by have := HBK.out; omega)
    have c0 := hk2.cell d0 (by simp; omega)
    have c1 := hk2.cell d1 (by simp; omega)
    have c2 := hk2.cell d2 (by simp; omega)
    have c3 := hk2.cell d3 (by simp; omega)
    have c4 := hk2.cell d4 (by simp; omega)
    have c5 := hk2.cell d5 (by simp; omega)
    have c6 := hk2.cell d6 (by simp; omega)
    have c7 := hk2.cell d7 (by simp; omega)
    clear hR hv2 hsl hfr hr hk2 d0 d1 d2 d3 d4 d5 d6 d7
    have kA := Keeps.a1 w2 (.cells #[.int .i64 1, .slice (a.map fun g => ⟨g, 0, none⟩) r.length c, .slice none 0 0, .int .i64 0, .int .i64 0, .int .i64 0, .int .i64 0, .bool false] 64)
    have KA := Lib.hid kA
    have KWA := Lib.hid ((HKX.out.trans K2.out).trans kA)
    have hkin : KidsIn (w2.alloc (.cells #[.int .i64 1, .slice (a.map fun g => ⟨g, 0, none⟩) r.length c, .slice none 0 0, .int .i64 0, .int .i64 0, .int .i64 0, .int .i64 0, .bool false] 64)) (some ⟨w2.heap.size, 0, none⟩) 1 [(.node 1 (a.map fun g => ⟨g, 0, none⟩) c r none 0 [] 0 0 0 0 false)] := by
      refine ⟨NodesIn.of_block (kids := [(.node 1 (a.map fun g => ⟨g, 0, none⟩) c r none 0 [] 0 0 0 0 false)]) (heap_alloc_new w2 _) rfl (by simp [maxLen]), fun x hx => ?_⟩
      simp only [List.mem_cons, List.not_mem_nil, or_false] at hx
      subst hx
      exact .of (SP.out.keep kA) (KidsIn.nil _)
    have hs := HSW.out _ KWA.out i (some ⟨w2.heap.size, 0, none⟩) (.node 1 (a.map fun g => ⟨g, 0, none⟩) c r none 0 [] 0 0 0 0 false) hkin (by omega) (by show i + 2 ≤ kids.length; omega) (by show 0 < kids.length; omega) (by show kids.length + 1 ≤ 1000000; have := HBK.out; omega)
    rw [show ((i + 2 : Nat) : Int) = (i : Int) + 2 by omega, List.length_singleton] at hs
    have HS := Lib.hid hs
    clear hs hkin kA
    go_wp2_with fail
    refine Calls.mono HS.out ?_
    rintro e w8 ⟨q, rfl, hqt, hqo, hk8, hqf⟩
    have K8 := Lib.hid (K2.out.trans (KA.out.trans hk8))
    have QT := Lib.hid hqt
    have QO := Lib.hid hqo
    have QF := Lib.hid hqf
    obtain ⟨q0, hq0⟩ : ∃ q0, q0 = q := ⟨_, rfl⟩
    rw [← hq0] at QT QO QF
    have Q0 := Lib.hid hq0
    clear hqt hqo hk8 hqf hq0 c0 c1 c2 c3 c4 c5 c6 c7 v0
    obtain ⟨op9, sa9, sc9, set9, ka9, kc9, kids9, mn9, mx9, mode9, n9, neg9⟩ := q
    simp only [MRe.val]
    obtain ⟨z0, z1, z2, z3, z4, z5, z6, z7, zf⟩ := zero_cells (K8.out.heap HZ.out (by simp))
    go_wp2
    have hfr : From (B + 2) (MRe.node 3 sa sc set ka kc kids mn mx mode n neg).blocks (.node op9 sa9 sc9 set9 ka9 kc9 kids9 mn9 mx9 mode9 n9 neg9 : MRe).blocks := by
      rw [← Q0.out]
      intro x hx
      have h1 := HXS.out
      have h2 := HV1.out
      have h3 := HVE.out
      rcases QF.out x hx with h | h
      · rcases List.mem_append.1 h with h | h
        · exact .inl h
        · refine .inr ?_
          simp only [MRe.blocksL, MRe.blocks, List.append_nil, List.mem_append] at h
          rcases h with h | h
          · have := Fresh.blockIf_map (n := r.length) (fun g hg => HFR.out g hg) x h
            omega
          · simp [blockIf] at h
      · exact .inr (by have := (K2.out.trans KA.out).size; omega)
    obtain ⟨hR, hok, hke, hfr2⟩ := rule_store HBE.out HKX.out K8.out HZ.out (by rw [← Q0.out]; exact QO.out) hfr HLT.out
    refine bodyPost_ret (results_row_tmp rfl _ _ (B + 1) 64 #[.int .i64 op9, .slice sa9 set9.length sc9, .slice ka9 kids9.length kc9, .int .i64 mn9, .int .i64 mx9, .int .i64 mode9, .int .i64 n9, .bool neg9] (0, 0) _ rfl hR Tryz.underlying64 rfl sizeRe) rfl ?_
    exact RulePost.of_some (.node op9 sa9 sc9 set9 ka9 kc9 kids9 mn9 mx9 mode9 n9 neg9) (by rw [HR.out, ← Q0.out, QT.out]; rfl) rfl hok hke hfr2

end Go.Proofs.YtgdmkddegcecaaaGreat
