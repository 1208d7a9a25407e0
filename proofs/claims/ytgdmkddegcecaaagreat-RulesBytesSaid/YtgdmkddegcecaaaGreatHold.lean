/- rules.hold. Conditions: the tree lies in memory, is formed well and is not very big. -/
import Derived.Test.YtgdmkddegcecaaaGreatNest
namespace Go.Proofs.YtgdmkddegcecaaaGreat
open Go.RowKit

def holdK (k : Tree) : Bool := k.op == 4 && (k.mode == 0 && (k.mn != k.mx && (k.kids.getD 0 .nil).op == 1))
def holdO : List Tree → Option Nat
  | [] => none
  | k :: ks => if (holdK k && (!nullAll ks && !beginsCat (k.kids.getD 0 .nil).set ks)) = true then some 0 else (holdO ks).map (· + 1)
/-- A tree that keeps what it took. -/
def heldT : Tree → Tree
  | .node op set kids mn mx _ n neg => .node op set kids mn mx 2 n neg
def holdR : Tree → Option Tree
  | .node op _ kids _ _ _ _ _ => if op = 2 then (holdO kids).map fun i => swapT 2 kids i (i + 1) [heldT (kids.getD i .nil)] else none
theorem holdO_step {l : List Tree} {k : Nat} {x : Tree} {r : List Tree} {o : Option Nat} (hd : l.drop k = x :: r) (hr : r = l.drop (k + 1)) (hn : (holdK x && (!nullAll r && !beginsCat (x.kids.getD 0 .nil).set r)) = false) (h : (holdO (l.drop k)).map (· + k) = o) : (holdO (l.drop (k + 1))).map (· + (k + 1)) = o := by
  rw [hd, holdO, if_neg (by rw [hn]; simp)] at h
  rw [← hr, ← h]
  cases holdO r with
  | none => rfl
  | some i => simp; omega
theorem holdO_at {l : List Tree} {k : Nat} {x : Tree} {r : List Tree} {o : Option Nat} (hd : l.drop k = x :: r) (hn : (holdK x && (!nullAll r && !beginsCat (x.kids.getD 0 .nil).set r)) = true) (h : (holdO (l.drop k)).map (· + k) = o) : o = some k := by
  rw [hd, holdO, if_pos hn] at h
  rw [← h]; simp

theorem row_cells {w : World} {g T : Nat} {v0 v1 v2 v3 v4 v5 v6 v7 : Value} (h : w.heap[g]? = some (.cells #[v0, v1, v2, v3, v4, v5, v6, v7] T (0, 0))) :
    w.cell? ⟨g, 0, none⟩ = some v0 ∧ w.cell? ⟨g, 1, none⟩ = some v1 ∧ w.cell? ⟨g, 2, none⟩ = some v2 ∧ w.cell? ⟨g, 3, none⟩ = some v3 ∧ w.cell? ⟨g, 4, none⟩ = some v4 ∧ w.cell? ⟨g, 5, none⟩ = some v5 ∧ w.cell? ⟨g, 6, none⟩ = some v6 ∧ w.cell? ⟨g, 7, none⟩ = some v7 := by
  simp [World.cell?, h]
theorem row_frozen {w : World} {g T : Nat} {cs : Array Value} (h : w.heap[g]? = some (.cells cs T (0, 0))) (o : Nat) : w.frozen? ⟨g, o, none⟩ = false := by
  simp [World.frozen?, h]
/-- A tree stored as a rule's result. -/
theorem rule_store {w X W : World} {B T : Nat} {src : List Nat} {op sa sc set ka kc kids mn mx mode n neg} (hB : B = w.heap.size) (kX : Keeps [] w X) (kW : Keeps [] X W) (hz : X.heap[B + 1]? = some (.cells #[.int .i64 0, .slice none 0 0, .slice none 0 0, .int .i64 0, .int .i64 0, .int .i64 0, .int .i64 0, .bool false] T (0, 0)))
    (qo : MRe.OK W (.node op sa sc set ka kc kids mn mx mode n neg)) (qf : From (B + 2) src (MRe.node op sa sc set ka kc kids mn mx mode n neg).blocks) (hlt : ∀ b ∈ src, b < w.heap.size) :
    (set8 W (B + 1) (.int .i64 op) (.slice sa set.length sc) (.slice ka kids.length kc) (.int .i64 mn) (.int .i64 mx) (.int .i64 mode) (.int .i64 n) (.bool neg)).heap[B + 1]? = some (.cells #[.int .i64 op, .slice sa set.length sc, .slice ka kids.length kc, .int .i64 mn, .int .i64 mx, .int .i64 mode, .int .i64 n, .bool neg] T (0, 0)) ∧
    MRe.OK (set8 W (B + 1) (.int .i64 op) (.slice sa set.length sc) (.slice ka kids.length kc) (.int .i64 mn) (.int .i64 mx) (.int .i64 mode) (.int .i64 n) (.bool neg)) (.node op sa sc set ka kc kids mn mx mode n neg) ∧
    Keeps [] w (set8 W (B + 1) (.int .i64 op) (.slice sa set.length sc) (.slice ka kids.length kc) (.int .i64 mn) (.int .i64 mx) (.int .i64 mode) (.int .i64 n) (.bool neg)) ∧
    From w.heap.size src (MRe.node op sa sc set ka kc kids mn mx mode n neg).blocks := by
  have hk8 := set8_keeps W (B + 1) (.int .i64 op) (.slice sa set.length sc) (.slice ka kids.length kc) (.int .i64 mn) (.int .i64 mx) (.int .i64 mode) (.int .i64 n) (.bool neg)
  refine ⟨set8_heap (kW.heap hz (by simp)) _ _ _ _ _ _ _ _, qo.keepS hk8 fun b hb => ?_, (kX.trans kW).after hk8 (by intro x hx; simp at hx; subst hx; exact .inr (by omega)), fun b hb => ?_⟩
  · rcases qf b hb with h | h
    · have := hlt b h; simp; omega
    · simp; omega
  · rcases qf b hb with h | h
    · exact .inl h
    · exact .inr (by omega)

set_option maxRecDepth 100000 in
set_option maxHeartbeats 16000000 in
theorem hold_any (m : MRe) (w : World) (k1 : m.OK w) (f1 : m.tree.WF) (hb : m.tree.bulk ≤ 100000) :
    Calls Tryz.prog 52 #[m.val] w (RulePost w m.blocks (holdR m.tree)) := by
  have hswap := fun (W : World) (h : Keeps [] w W) (i : Nat) (la : Option Addr) (l : MRe) => swap_any m i (i + 1) la 1 [l] W (k1.keep h)
  obtain ⟨op, sa, sc, set, ka, kc, kids, mn, mx, mode, n, neg⟩ := m
  have hbk := (kids_bulk hb).1
  have hno := wf_node f1
  obtain ⟨B, hBe⟩ : ∃ B, B = w.heap.size := ⟨_, rfl⟩
  obtain ⟨X, hXe, hb8, hz, hsz, hkX⟩ := ruleZ w (.node op sa sc set ka kc kids mn mx mode n neg) 64
  simp only [MRe.row] at hXe
  rw [← hBe] at hb8 hz hsz
  have HBE := Lib.hid hBe
  have HXE := Lib.hid hXe
  have HC := Lib.hid hb8
  have HZ := Lib.hid hz
  have HKX := Lib.hid hkX
  clear hBe hXe hb8 hz hkX
  have HK0 := Lib.hid (Keeps.refl [] X)
  have HXS := Lib.hid hsz
  have HSW := Lib.hid hswap
  have HLT := Lib.hid k1.block_lt
  have hT : holdR (MRe.tree (.node op sa sc set ka kc kids mn mx mode n neg)) = holdR (.node op set (MRe.trees kids) mn mx mode n neg) := rfl
  rw [hT]
  simp only [MRe.val]
  clear hT hb hswap
  by_cases h2 : op = 2
  · subst h2
    have hlen := hno.htwo (by simp)
    have hR : holdR (.node 2 set (MRe.trees kids) mn mx mode n neg) = (holdO (MRe.trees kids)).map fun i => swapT 2 (MRe.trees kids) i (i + 1) [heldT ((MRe.trees kids).getD i .nil)] := by rw [holdR, if_pos rfl]
    have HRR := Lib.hid hR
    obtain ⟨b, off, rfl, hbb, hx⟩ := k1.nodes.kid (by omega)
    have hcap := k1.nodes.cap
    have hle := k1.nodes.le
    unfold maxLen at hcap
    have HX := Lib.hid hx
    have HK1 := Lib.hid k1
    have HF1 := Lib.hid f1
    clear hR hx k1 f1 hno hbb
    obtain ⟨c0, c1, c2, c3, c4, c5, c6, c7⟩ := HC.out.cells0
    go_enter Tryz.func52, Tryz.ntmps52
    go_upto_region 1 with fail
    rw [← HXE.out, ← HBE.out]
    go_wp2
    go_loopw [14] (fun i wr => ∃ k : Nat, k ≤ kids.length ∧ i = .int .i64 k ∧ (holdO ((MRe.trees kids).drop k)).map (· + k) = holdO (MRe.trees kids) ∧ Keeps [] X wr) (fun i _ => kids.length - (intOf i).toNat)
    case atStart => exact ⟨0, Nat.zero_le _, rfl, by rw [List.drop_zero]; cases holdO (MRe.trees kids) <;> rfl, Keeps.refl _ _⟩
    case round =>
      obtain ⟨k, hk, rfl, hl, hkp⟩ := hrel
      have HL := Lib.hid hl
      have HKP := Lib.hid hkp
      have t0 := hkp.cell c0 (by simp)
      have t1 := hkp.cell c1 (by simp)
      have t2 := hkp.cell c2 (by simp)
      have t3 := hkp.cell c3 (by simp)
      have t4 := hkp.cell c4 (by simp)
      have t5 := hkp.cell c5 (by simp)
      have t6 := hkp.cell c6 (by simp)
      have t7 := hkp.cell c7 (by simp)
      clear hl hkp c0 c1 c2 c3 c4 c5 c6 c7
      by_cases hlt : k < kids.length
      · have hd := trees_drop kids k hlt
        have HD := Lib.hid hd
        have hak := HX.out k hlt
        have hok := HK1.out.kid (List.getElem_mem hlt)
        have hfk := wf_kid HF1.out (List.getElem_mem hlt)
        have hbl := blocks_kid (op := 2) (sa := sa) (sc := sc) (set := set) (ka := some ⟨b, off, none⟩) (kc := kc) (mn := mn) (mx := mx) (mode := mode) (n := n) (neg := neg) (List.getElem_mem hlt)
        have hgk : (MRe.trees kids).getD k .nil = kids[k].tree := by rw [List.getD_eq_getElem?_getD, List.getElem?_eq_getElem (by rw [MRe.trees_length]; omega), Option.getD_some, trees_getElem]
        obtain ⟨k0, hk0⟩ : ∃ k0, k0 = kids[k] := ⟨_, rfl⟩
        rw [← hk0] at hak hok hfk hbl hgk hd
        have HD := Lib.hid hd
        have HOK := Lib.hid hok
        have HFK := Lib.hid hfk
        have HBL := Lib.hid hbl
        have HGK := Lib.hid hgk
        obtain ⟨k00, hk00⟩ : ∃ k00, k00 = k0 := ⟨_, rfl⟩
        have K00 := Lib.hid hk00
        rw [← hk00] at HD HGK
        clear hk0 hd hok hfk hbl hgk hk00
        obtain ⟨op1, sa1, sc1, set1, ka1, kc1, kids1, mn1, mx1, mode1, n1, neg1⟩ := k0
        have g := hak.node
        have e0 := g.c0
        have e1 := g.c1
        have e2 := g.c2
        have e3 := g.c3
        have e4 := g.c4
        have e5 := g.c5
        have e6 := g.c6
        have e7 := g.c7
        have d0 := (HKX.out.trans HKP.out).cell e0 (by simp)
        have d1 := (HKX.out.trans HKP.out).cell e1 (by simp)
        have d2 := (HKX.out.trans HKP.out).cell e2 (by simp)
        have d3 := (HKX.out.trans HKP.out).cell e3 (by simp)
        have d4 := (HKX.out.trans HKP.out).cell e4 (by simp)
        have d5 := (HKX.out.trans HKP.out).cell e5 (by simp)
        have d6 := (HKX.out.trans HKP.out).cell e6 (by simp)
        have d7 := (HKX.out.trans HKP.out).cell e7 (by simp)
        clear g e0 e1 e2 e3 e4 e5 e6 e7 hak
        go_upto_region 6 with fail
        obtain ⟨C, hCe⟩ : ∃ C, C = wr.heap.size := ⟨_, rfl⟩
        obtain ⟨Y, hYe⟩ : ∃ Y, Y = wr.alloc (.cells #[.int .i64 op1, .slice sa1 set1.length sc1, .slice ka1 kids1.length kc1, .int .i64 mn1, .int .i64 mx1, .int .i64 mode1, .int .i64 n1, .bool neg1] 64) := ⟨_, rfl⟩
        have hkY : Keeps [] wr Y := by rw [hYe]; exact Keeps.a1 _ _
        have hCH : Y.heap[C]? = some (.cells #[.int .i64 op1, .slice sa1 set1.length sc1, .slice ka1 kids1.length kc1, .int .i64 mn1, .int .i64 mx1, .int .i64 mode1, .int .i64 n1, .bool neg1] 64 (0, 0)) := by rw [hYe, hCe]; exact heap_alloc_new wr _
        rw [← hYe, ← hCe]
        have hXC : X.heap.size ≤ C := by rw [hCe]; exact HKP.out.size
        have hCB : B + 2 ≤ C := Nat.le_trans hsz hXC
        have HXC := Lib.hid hXC
        clear hXC
        have KY := Lib.hid (HKP.out.trans hkY)
        have y0 := hkY.cell t0 (by simp)
        have y1 := hkY.cell t1 (by simp)
        have y2 := hkY.cell t2 (by simp)
        have y3 := hkY.cell t3 (by simp)
        have y4 := hkY.cell t4 (by simp)
        have y5 := hkY.cell t5 (by simp)
        have y6 := hkY.cell t6 (by simp)
        have y7 := hkY.cell t7 (by simp)
        obtain ⟨p0, p1, p2, p3, p4, p5, p6, p7⟩ := (At8.of_block (m := .node op1 sa1 sc1 set1 ka1 kc1 kids1 mn1 mx1 mode1 n1 neg1) hCH rfl).cells0
        have HCH := Lib.hid hCH
        clear hCe hYe hkY hCH t0 t1 t2 t3 t4 t5 t6 t7 d0 d1 d2 d3 d4 d5 d6 d7
        have hHK : holdK k00.tree = (op1 == 4 && (mode1 == 0 && (mn1 != mx1 && ((MRe.trees kids1).getD 0 .nil).op == 1))) := by rw [K00.out]; rfl
        have HHK := Lib.hid hHK
        obtain ⟨z, hz⟩ : ∃ z, z = holdK k00.tree := ⟨_, rfl⟩
        rw [← hz] at hHK
        have HZZ := Lib.hid hz
        clear hz
        go_cut [41] (fun s41 wx => s41 = .bool (!z) ∧ Y = wx)
        case first =>
          by_cases a4 : op1 = 4
          · subst a4
            by_cases a0 : mode1 = 0
            · subst a0
              by_cases ae : mn1 = mx1
              · subst ae
                obtain rfl : z = false := by rw [hHK]; simp
                clear hHK
                go_wp2
                go_meet
                exact ⟨rfl, rfl⟩
              · have hl1 : 0 < kids1.length := by rw [(wf_node HFK.out).hone (by simp)]; omega
                have hl1i : (0 : Int) < (kids1.length : Int) := by omega
                obtain ⟨b3, o3, k3, rfl, hk3m, hk30, hk3a, hk3o⟩ := HOK.out.kids.head hl1
                obtain ⟨r3, hr3⟩ := trees_head hk30
                rw [hr3] at hHK
                have hz3 : z = (k3.tree.op == 1) := by rw [hHK]; simp [ae]
                have hae : (mn1 == mx1) = false := by simpa using ae
                obtain ⟨op3, sa3, sc3, set3, ka3, kc3, kids3, mn3, mx3, mode3, n3, neg3⟩ := k3
                have x0 := (HKX.out.trans KY.out).cell hk3a.node.c0 (by simp)
                have hz4 : z = (op3 == 1) := hz3
                clear hHK hz3 hr3 hk3m hk30 hk3a hk3o
                by_cases a1 : op3 = 1
                · subst a1
                  obtain rfl : z = true := by rw [hz4]; rfl
                  clear hz4
                  go_wp2
                  go_meet
                  exact ⟨rfl, rfl⟩
                · have ha1 : (op3 != 1) = true := by simpa using a1
                  obtain rfl : z = false := by rw [hz4]; simpa using a1
                  clear hz4
                  go_wp2
                  go_meet
                  exact ⟨rfl, rfl⟩
            · have ha0 : (mode1 != 0) = true := by simpa using a0
              obtain rfl : z = false := by rw [hHK]; simp [a0]
              clear hHK
              go_wp2
              go_meet
              exact ⟨rfl, rfl⟩
          · have ha4 : (op1 != 4) = true := by simpa using a4
            obtain rfl : z = false := by rw [hHK]; simp [a4]
            clear hHK
            go_wp2
            go_meet
            exact ⟨rfl, rfl⟩
        case rest =>
          obtain ⟨rfl, rfl⟩ := hcut
          clear hHK
          cases z with
          | false =>
            have hst := holdO_step HD.out rfl (by rw [← HZZ.out]; rfl) HL.out
            have HST := Lib.hid hst
            clear hst
            go_wp2
            go_roundw
            case rel => exact ⟨k + 1, by omega, by go_num, HST.out, KY.out⟩
            case measure => simp [intOf]; omega
          | true =>
            have hh : op1 = 4 ∧ mode1 = 0 ∧ mn1 ≠ mx1 ∧ ((MRe.trees kids1).getD 0 .nil).op = 1 := by
              have := HHK.out
              rw [← HZZ.out] at this
              simpa using this.symm
            obtain ⟨rfl, rfl, ae, a1⟩ := hh
            have hl1 : 0 < kids1.length := by rw [(wf_node HFK.out).hone (by simp)]; omega
            have hl1i : (0 : Int) < (kids1.length : Int) := by omega
            obtain ⟨b3, o3, k3, rfl, hk3m, hk30, hk3a, hk3o⟩ := HOK.out.kids.head hl1
            obtain ⟨r3, hr3⟩ := trees_head hk30
            have hset0 : (k00.tree.kids.getD 0 .nil).set = k3.tree.set := by
              rw [K00.out]
              show ((MRe.trees kids1).getD 0 .nil).set = _
              rw [hr3]; rfl
            obtain ⟨op3, sa3, sc3, set3, ka3, kc3, kids3, mn3, mx3, mode3, n3, neg3⟩ := k3
            have hset : (k00.tree.kids.getD 0 .nil).set = set3 := hset0
            have hx1 := hk3a.node.c1
            have hsp := hk3o.spans
            have hdn := HK1.out.nodes.drop (k + 1) (by omega)
            obtain ⟨RA, hRA⟩ : ∃ RA, RA = (if kc = k + 1 then some (⟨b, off, none⟩ : Addr) else some ⟨b, off + (k + 1) * 8, none⟩) := ⟨_, rfl⟩
            obtain ⟨RC, hRC⟩ : ∃ RC, RC = kc - (k + 1) := ⟨_, rfl⟩
            have hsl : ∀ W : World, (Instr.sliceAt 62 (.slice (some ⟨b, off, none⟩) kids.length kc) (some (.int .i64 ((k : Int) + 1))) none none).run Tryz.prog W = .ok (.slice RA (kids.length - (k + 1)) RC) W := by
              intro W
              have q1 : (k : Int) + 1 ≤ kids.length := by omega
              have q0 : (0 : Int) ≤ (k : Int) + 1 := by omega
              have q3 : ((k : Int) + 1).toNat = k + 1 := by omega
              rw [hRA, hRC]
              by_cases q2 : kc = k + 1
              · simp [go_sem, q1, q0, q3, q2]
              · simp [go_sem, q1, q0, q3, q2]
            rw [← hRA, ← hRC] at hdn
            have hro : MRe.OK w (.node 2 none 0 [] RA RC (kids.drop (k + 1)) 0 0 0 0 false) := .of (SpansIn.nil _) ⟨hdn, fun x hx => HK1.out.kid (List.mem_of_mem_drop hx)⟩
            have HN := fun (W : World) (h : Keeps [] w W) => null_any (.node 2 none 0 [] RA RC (kids.drop (k + 1)) 0 0 0 0 false) W (hro.keep h)
            have HBG := fun (W : World) (h : Keeps [] w W) => begins_any sa3 sc3 set3 (.node 2 none 0 [] RA RC (kids.drop (k + 1)) 0 0 0 0 false) W (hro.keep h) (hsp.keep h)
            have hn1 : nullP (MRe.tree (.node 2 none 0 [] RA RC (kids.drop (k + 1)) 0 0 0 0 false)) = nullAll ((MRe.trees kids).drop (k + 1)) := by
              rw [MRe.trees_eq, ← List.map_drop, ← MRe.trees_eq]; rfl
            have hn2 : beginsT set3 (MRe.tree (.node 2 none 0 [] RA RC (kids.drop (k + 1)) 0 0 0 0 false)) = beginsCat set3 ((MRe.trees kids).drop (k + 1)) := by
              rw [MRe.trees_eq, ← List.map_drop, ← MRe.trees_eq]; rfl
            simp only [hn1, MRe.val, List.length_drop, List.length_nil] at HN
            simp only [hn2, MRe.val, List.length_drop, List.length_nil] at HBG
            obtain ⟨q1, hq1⟩ : ∃ q, q = nullAll ((MRe.trees kids).drop (k + 1)) := ⟨_, rfl⟩
            obtain ⟨q2, hq2⟩ : ∃ q, q = beginsCat set3 ((MRe.trees kids).drop (k + 1)) := ⟨_, rfl⟩
            simp only [← hq1] at HN
            simp only [← hq2] at HBG
            have hcond : (holdK k00.tree && (!nullAll ((MRe.trees kids).drop (k + 1)) && !beginsCat (k00.tree.kids.getD 0 .nil).set ((MRe.trees kids).drop (k + 1)))) = (!q1 && !q2) := by rw [← HZZ.out, hset, ← hq1, ← hq2]; rfl
            have HCO := Lib.hid hcond
            have HN := Lib.hid HN
            have HBG := Lib.hid HBG
            have x1 := (HKX.out.trans KY.out).cell hx1 (by simp)
            have hw1 : IntKind.i64.wrap ((k : Int) + 1) = (k : Int) + 1 := IntWalk.i64_in _ (by omega)
            clear hset hset0 hx1 hsp hdn hRA hRC hro hn1 hn2 hq1 hq2 hcond hr3 hk3m hk30 hk3a hk3o a1 ae
            go_upto_region 8 with fail
            obtain ⟨D, hDe⟩ : ∃ D, D = Y.heap.size := ⟨_, rfl⟩
            obtain ⟨Z, hZe⟩ : ∃ Z, Z = Y.alloc (.cells #[.int .i64 2, .slice none 0 0, .slice RA (kids.length - (k + 1)) RC, .int .i64 0, .int .i64 0, .int .i64 0, .int .i64 0, .bool false] 64) := ⟨_, rfl⟩
            have hkZ : Keeps [] Y Z := by rw [hZe]; exact Keeps.a1 _ _
            have hDH : Z.heap[D]? = some (.cells #[.int .i64 2, .slice none 0 0, .slice RA (kids.length - (k + 1)) RC, .int .i64 0, .int .i64 0, .int .i64 0, .int .i64 0, .bool false] 64 (0, 0)) := by rw [hZe, hDe]; exact heap_alloc_new Y _
            rw [← hZe, ← hDe]
            have KZ := Lib.hid (KY.out.trans hkZ)
            obtain ⟨r0, r1, r2, r3, r4, r5, r6, r7⟩ := row_cells hDH
            have v2 := hkZ.cell p2 (by simp)
            have x2 := hkZ.cell x1 (by simp)
            have s0 := hkZ.cell y0 (by simp)
            have s1 := hkZ.cell y1 (by simp)
            have s2 := hkZ.cell y2 (by simp)
            have s3 := hkZ.cell y3 (by simp)
            have s4 := hkZ.cell y4 (by simp)
            have s5 := hkZ.cell y5 (by simp)
            have s6 := hkZ.cell y6 (by simp)
            have s7 := hkZ.cell y7 (by simp)
            have HCZ := Lib.hid (hkZ.heap HCH.out (by simp))
            clear hDe hZe hkZ hDH p0 p1 p2 p3 p4 p5 p6 p7 y0 y1 y2 y3 y4 y5 y6 y7 x1
            refine wp_region_held_drew (S := fun w' => (w'.cell? ⟨D, 0, none⟩ = some (.int .i64 2) ∧ w'.cell? ⟨D, 1, none⟩ = some (.slice none 0 0) ∧ w'.cell? ⟨D, 2, none⟩ = some (.slice RA (kids.length - (k + 1)) RC) ∧ w'.cell? ⟨D, 3, none⟩ = some (.int .i64 0) ∧ w'.cell? ⟨D, 4, none⟩ = some (.int .i64 0) ∧ w'.cell? ⟨D, 5, none⟩ = some (.int .i64 0) ∧ w'.cell? ⟨D, 6, none⟩ = some (.int .i64 0) ∧ w'.cell? ⟨D, 7, none⟩ = some (.bool false)) ∧ w'.cell? ⟨C, 2, none⟩ = some (.slice (some ⟨b3, o3, none⟩) kids1.length kc1) ∧ w'.cell? ⟨b3, o3 + 1, none⟩ = some (.slice sa3 set3.length sc3)) (by kernel_rfl) ⟨⟨r0, r1, r2, r3, r4, r5, r6, r7⟩, v2, x2⟩ (fun hHeld => ?_)
            refine take_on (i := 0) (v := ?_) rfl (by kernel_rfl) (by kernel_rfl) (by kernel_rfl) (fun _ _ _ h => h) (by rfl) (by assumption) ?_ ?_
            rotate_left
            · ((intro w hSw; (try dsimp only at hSw); go_simp <;> with_reducible rfl); done)
            try simp only [Act.put, List.setIfInBounds_toArray, List.set_cons_zero, List.set_cons_succ]
            refine branch_one (i := 1) rfl (by kernel_rfl) (by rfl) (fun K hK => ?_)
            go_simp
            go_at_call 74
            refine Calls.mono (HN.out _ ((HKX.out.trans KZ.out).drew)) ?_
            rintro e w3 ⟨rfl, hk3⟩
            have K3 := Lib.hid (((Keeps.refl [] Z).drew).trans hk3)
            clear hk3
            refine hK.out _ _ (⟨⟨K3.out.cell r0 (by simp), K3.out.cell r1 (by simp), K3.out.cell r2 (by simp), K3.out.cell r3 (by simp), K3.out.cell r4 (by simp), K3.out.cell r5 (by simp), K3.out.cell r6 (by simp), K3.out.cell r7 (by simp)⟩, K3.out.cell v2 (by simp), K3.out.cell x2 (by simp)⟩) (fun hHeld => ?_)
            clear hK K
            try simp only [Act.put, List.setIfInBounds_toArray, List.set_cons_zero, List.set_cons_succ]
            refine take_on (i := 2) (v := ?_) rfl (by kernel_rfl) (by kernel_rfl) (by kernel_rfl) (fun _ _ _ h => h) (by rfl) (by assumption) ?_ ?_
            rotate_left
            · ((intro w hSw; (try dsimp only at hSw); go_simp <;> with_reducible rfl); done)
            try simp only [Act.put, List.setIfInBounds_toArray, List.set_cons_zero, List.set_cons_succ]
            refine take_on (i := 3) (v := ?_) rfl (by kernel_rfl) (by kernel_rfl) (by kernel_rfl) (fun _ _ _ h => h) (by rfl) (by assumption) ?_ ?_
            rotate_left
            · ((intro w hSw; (try dsimp only at hSw); go_simp <;> with_reducible rfl); done)
            try simp only [Act.put, List.setIfInBounds_toArray, List.set_cons_zero, List.set_cons_succ]
            cases q1 with
            | true =>
              refine take_off (i := 4) rfl (by kernel_rfl) (by kernel_rfl) (by kernel_rfl) (fun _ _ _ h => h) (by rfl) (by assumption) ?_
              try simp only [Act.put, List.setIfInBounds_toArray, List.set_cons_zero, List.set_cons_succ]
              refine take_off (i := 5) rfl (by kernel_rfl) (by kernel_rfl) (by kernel_rfl) (fun _ _ _ h => h) (by rfl) (by assumption) ?_
              try simp only [Act.put, List.setIfInBounds_toArray, List.set_cons_zero, List.set_cons_succ]
              refine take_off (i := 6) rfl (by kernel_rfl) (by kernel_rfl) (by kernel_rfl) (fun _ _ _ h => h) (by rfl) (by assumption) ?_
              try simp only [Act.put, List.setIfInBounds_toArray, List.set_cons_zero, List.set_cons_succ]
              refine take_off (i := 7) rfl (by kernel_rfl) (by kernel_rfl) (by kernel_rfl) (fun _ _ _ h => h) (by rfl) (by assumption) ?_
              try simp only [Act.put, List.setIfInBounds_toArray, List.set_cons_zero, List.set_cons_succ]
              refine take_off (i := 8) rfl (by kernel_rfl) (by kernel_rfl) (by kernel_rfl) (fun _ _ _ h => h) (by rfl) (by assumption) ?_
              try simp only [Act.put, List.setIfInBounds_toArray, List.set_cons_zero, List.set_cons_succ]
              refine take_off (i := 9) rfl (by kernel_rfl) (by kernel_rfl) (by kernel_rfl) (fun _ _ _ h => h) (by rfl) (by assumption) ?_
              try simp only [Act.put, List.setIfInBounds_toArray, List.set_cons_zero, List.set_cons_succ]
              refine branch_off (i := 10) rfl (by kernel_rfl) (by rfl) (by assumption) ?_
              try simp only [Act.put, List.setIfInBounds_toArray, List.set_cons_zero, List.set_cons_succ]
              refine take_off (i := 11) rfl (by kernel_rfl) (by kernel_rfl) (by kernel_rfl) (fun _ _ _ h => h) (by rfl) (by assumption) ?_
              try simp only [Act.put, List.setIfInBounds_toArray, List.set_cons_zero, List.set_cons_succ]
              refine take_on (i := 12) (v := ?_) rfl (by kernel_rfl) (by kernel_rfl) (by kernel_rfl) (fun _ _ _ h => h) (by rfl) (by assumption) ?_ ?_
              rotate_left
              · ((intro w hSw; (try dsimp only at hSw); go_simp <;> with_reducible rfl); done)
              try simp only [Act.put, List.setIfInBounds_toArray, List.set_cons_zero, List.set_cons_succ]
              refine wpAnyH_done (by kernel_rfl) ?_ _
              have hst := holdO_step HD.out rfl (by rw [HCO.out]; rfl) HL.out
              have HST := Lib.hid hst
              have KR := Lib.hid (KZ.out.trans K3.out)
              clear hst r0 r1 r2 r3 r4 r5 r6 r7 v2 x2 s0 s1 s2 s3 s4 s5 s6 s7 hHeld
              go_wp2
              go_roundw
              case rel => exact ⟨k + 1, by omega, by go_num, HST.out, KR.out⟩
              case measure => simp [intOf]; omega
            | false =>
              refine take_on (i := 4) (v := ?_) rfl (by kernel_rfl) (by kernel_rfl) (by kernel_rfl) (fun _ _ _ h => h) (by rfl) (by assumption) ?_ ?_
              rotate_left
              · ((intro w hSw; (try dsimp only at hSw); go_simp <;> with_reducible rfl); done)
              try simp only [Act.put, List.setIfInBounds_toArray, List.set_cons_zero, List.set_cons_succ]
              refine take_on (i := 5) (v := ?_) rfl (by kernel_rfl) (by kernel_rfl) (by kernel_rfl) (fun _ _ _ h => h) (by rfl) (by assumption) ?_ ?_
              rotate_left
              · ((intro w hSw; (try dsimp only at hSw); go_simp <;> with_reducible rfl); done)
              try simp only [Act.put, List.setIfInBounds_toArray, List.set_cons_zero, List.set_cons_succ]
              refine take_on (i := 6) (v := ?_) rfl (by kernel_rfl) (by kernel_rfl) (by kernel_rfl) (fun _ _ _ h => h) (by rfl) (by assumption) ?_ ?_
              rotate_left
              · ((intro w hSw; (try dsimp only at hSw); go_simp <;> with_reducible rfl); done)
              try simp only [Act.put, List.setIfInBounds_toArray, List.set_cons_zero, List.set_cons_succ]
              refine take_on (i := 7) (v := ?_) rfl (by kernel_rfl) (by kernel_rfl) (by kernel_rfl) (fun _ _ _ h => h) (by rfl) (by assumption) ?_ ?_
              rotate_left
              · ((intro w hSw; (try dsimp only at hSw); go_simp <;> with_reducible rfl); done)
              try simp only [Act.put, List.setIfInBounds_toArray, List.set_cons_zero, List.set_cons_succ]
              refine take_on (i := 8) (v := ?_) rfl (by kernel_rfl) (by kernel_rfl) (by kernel_rfl) (fun _ _ _ h => h) (by rfl) (by assumption) ?_ ?_
              rotate_left
              · ((intro w hSw; (try dsimp only at hSw); go_simp <;> with_reducible rfl); done)
              try simp only [Act.put, List.setIfInBounds_toArray, List.set_cons_zero, List.set_cons_succ]
              refine take_on (i := 9) (v := ?_) rfl (by kernel_rfl) (by kernel_rfl) (by kernel_rfl) (fun _ _ _ h => h) (by rfl) (by assumption) ?_ ?_
              rotate_left
              · ((intro w hSw; (try dsimp only at hSw); go_simp <;> with_reducible rfl); done)
              try simp only [Act.put, List.setIfInBounds_toArray, List.set_cons_zero, List.set_cons_succ]
              refine branch_one (i := 10) rfl (by kernel_rfl) (by rfl) (fun K hK => ?_)
              go_simp
              go_at_call 78
              refine Calls.mono (HBG.out _ ((HKX.out.trans KZ.out).trans K3.out)) ?_
              rintro e w4 ⟨rfl, hk4⟩
              have K4 := Lib.hid (K3.out.trans hk4)
              clear hk4
              refine hK.out _ _ (⟨⟨K4.out.cell r0 (by simp), K4.out.cell r1 (by simp), K4.out.cell r2 (by simp), K4.out.cell r3 (by simp), K4.out.cell r4 (by simp), K4.out.cell r5 (by simp), K4.out.cell r6 (by simp), K4.out.cell r7 (by simp)⟩, K4.out.cell v2 (by simp), K4.out.cell x2 (by simp)⟩) (fun hHeld => ?_)
              clear hK K
              try simp only [Act.put, List.setIfInBounds_toArray, List.set_cons_zero, List.set_cons_succ]
              refine take_on (i := 11) (v := ?_) rfl (by kernel_rfl) (by kernel_rfl) (by kernel_rfl) (fun _ _ _ h => h) (by rfl) (by assumption) ?_ ?_
              rotate_left
              · ((intro w hSw; (try dsimp only at hSw); go_simp <;> with_reducible rfl); done)
              try simp only [Act.put, List.setIfInBounds_toArray, List.set_cons_zero, List.set_cons_succ]
              refine take_on (i := 12) (v := ?_) rfl (by kernel_rfl) (by kernel_rfl) (by kernel_rfl) (fun _ _ _ h => h) (by rfl) (by assumption) ?_ ?_
              rotate_left
              · ((intro w hSw; (try dsimp only at hSw); go_simp <;> with_reducible rfl); done)
              try simp only [Act.put, List.setIfInBounds_toArray, List.set_cons_zero, List.set_cons_succ]
              refine wpAnyH_done (by kernel_rfl) ?_ _
              have KR := Lib.hid (KZ.out.trans K4.out)
              have t0 := K4.out.cell s0 (by simp)
              have t1 := K4.out.cell s1 (by simp)
              have t2 := K4.out.cell s2 (by simp)
              have t3 := K4.out.cell s3 (by simp)
              have t4 := K4.out.cell s4 (by simp)
              have t5 := K4.out.cell s5 (by simp)
              have t6 := K4.out.cell s6 (by simp)
              have t7 := K4.out.cell s7 (by simp)
              have HC4 := Lib.hid (K4.out.heap HCZ.out (by simp))
              clear r0 r1 r2 r3 r4 r5 r6 r7 v2 x2 s0 s1 s2 s3 s4 s5 s6 s7 hHeld
              cases q2 with
              | true =>
                have hst := holdO_step HD.out rfl (by rw [HCO.out]; rfl) HL.out
                have HST := Lib.hid hst
                clear hst t0 t1 t2 t3 t4 t5 t6 t7
                go_wp2
                go_roundw
                case rel => exact ⟨k + 1, by omega, by go_num, HST.out, KR.out⟩
                case measure => simp [intOf]; omega
              | false =>
                have hO := holdO_at HD.out (by rw [HCO.out]; rfl) HL.out
                have HR := Lib.hid (show holdR (.node 2 set (MRe.trees kids) mn mx mode n neg) = some (swapT 2 (MRe.trees kids) k (k + 1) [heldT k00.tree]) by rw [HRR.out, hO, Option.map_some, HGK.out])
                obtain ⟨p0, p1, p2, p3, p4, p5, p6, p7⟩ := row_cells HC4.out
                have pf := row_frozen HC4.out
                clear hO
                go_upto_region 10 with fail
                obtain ⟨V, hVe⟩ : ∃ V, V = w4.setCell ⟨C, 5, none⟩ (.int .i64 2) := ⟨_, rfl⟩
                have hkV : Keeps [C] w4 V := by rw [hVe]; exact (Keeps.refl [C] w4).setCell (p := ⟨C, 5, none⟩) (.inl (by simp)) _
                have hVC : V.heap[C]? = some (.cells #[.int .i64 4, .slice sa1 set1.length sc1, .slice (some ⟨b3, o3, none⟩) kids1.length kc1, .int .i64 mn1, .int .i64 mx1, .int .i64 2, .int .i64 n1, .bool neg1] 64 (0, 0)) := by rw [hVe]; exact heap_setCell_same _ C 5 _ _ _ HC4.out
                rw [← hVe]
                obtain ⟨a0, a1, a2, a3, a4, a5, a6, a7⟩ := row_cells hVC
                have c0 := hkV.cell t0 (by simp; omega)
                have c1 := hkV.cell t1 (by simp; omega)
                have c2 := hkV.cell t2 (by simp; omega)
                have c3 := hkV.cell t3 (by simp; omega)
                have c4 := hkV.cell t4 (by simp; omega)
                have c5 := hkV.cell t5 (by simp; omega)
                have c6 := hkV.cell t6 (by simp; omega)
                have c7 := hkV.cell t7 (by simp; omega)
                have HCB := Lib.hid hCB
                have hXV : Keeps [] X V := (KR.out).after hkV (by intro x hx; simp at hx; subst hx; exact .inr HXC.out)
                have KV := Lib.hid hXV
                have kA := Keeps.a1 V (.cells #[.int .i64 4, .slice sa1 set1.length sc1, .slice (some ⟨b3, o3, none⟩) kids1.length kc1, .int .i64 mn1, .int .i64 mx1, .int .i64 2, .int .i64 n1, .bool neg1] 64)
                have KA := Lib.hid kA
                have hkin : KidsIn (V.alloc (.cells #[.int .i64 4, .slice sa1 set1.length sc1, .slice (some ⟨b3, o3, none⟩) kids1.length kc1, .int .i64 mn1, .int .i64 mx1, .int .i64 2, .int .i64 n1, .bool neg1] 64)) (some ⟨V.heap.size, 0, none⟩) 1 [(.node 4 sa1 sc1 set1 (some ⟨b3, o3, none⟩) kc1 kids1 mn1 mx1 2 n1 neg1)] := by
                  refine ⟨NodesIn.of_block (kids := [(.node 4 sa1 sc1 set1 (some ⟨b3, o3, none⟩) kc1 kids1 mn1 mx1 2 n1 neg1)]) (heap_alloc_new V _) rfl (by simp [maxLen]), fun x hx => ?_⟩
                  simp only [List.mem_cons, List.not_mem_nil, or_false] at hx
                  subst hx
                  exact .of (HOK.out.spans.keep ((HKX.out.trans KV.out).trans kA)) (HOK.out.kids.keep ((HKX.out.trans KV.out).trans kA))
                have hs := HSW.out _ ((HKX.out.trans KV.out).trans kA) k (some ⟨V.heap.size, 0, none⟩) (.node 4 sa1 sc1 set1 (some ⟨b3, o3, none⟩) kc1 kids1 mn1 mx1 2 n1 neg1) hkin (by omega) (by show k + 1 ≤ kids.length; omega) (by show 0 < kids.length; omega) (by show kids.length + 1 ≤ 1000000; omega)
                rw [show ((k + 1 : Nat) : Int) = (k : Int) + 1 by omega, List.length_singleton] at hs
                have HS := Lib.hid hs
                clear hs hkin kA hXV hVe hkV hVC t0 t1 t2 t3 t4 t5 t6 t7 p0 p1 p2 p3 p4 p5 p6 p7 pf
                go_wp2_with fail
                refine Calls.mono HS.out ?_
                rintro e w8 ⟨q, rfl, hqt, hqo, hk8, hqf⟩
                have K8 := Lib.hid (KV.out.trans (KA.out.trans hk8))
                have QT := Lib.hid hqt
                have QO := Lib.hid hqo
                have QF := Lib.hid hqf
                obtain ⟨q0, hq0⟩ : ∃ q0, q0 = q := ⟨_, rfl⟩
                rw [← hq0] at QT QO QF
                have Q0 := Lib.hid hq0
                clear hqt hqo hk8 hqf hq0 a0 a1 a2 a3 a4 a5 a6 a7 c0 c1 c2 c3 c4 c5 c6 c7
                obtain ⟨op9, sa9, sc9, set9, ka9, kc9, kids9, mn9, mx9, mode9, n9, neg9⟩ := q
                simp only [MRe.val]
                obtain ⟨z0, z1, z2, z3, z4, z5, z6, z7, zf⟩ := zero_cells (K8.out.heap HZ.out (by simp))
                go_wp2
                have hfr : From (B + 2) (MRe.node 2 sa sc set (some ⟨b, off, none⟩) kc kids mn mx mode n neg).blocks (.node op9 sa9 sc9 set9 ka9 kc9 kids9 mn9 mx9 mode9 n9 neg9 : MRe).blocks := by
                  rw [← Q0.out]
                  intro x hx
                  rcases QF.out x hx with h | h
                  · rcases List.mem_append.1 h with h | h
                    · exact .inl h
                    · refine .inl (HBL.out x ?_)
                      simp only [MRe.blocksL, List.append_nil] at h
                      exact h
                  · exact .inr (Nat.le_trans HXS.out (Nat.le_trans (KV.out.trans KA.out).size h))
                obtain ⟨hR, hok, hke, hfr2⟩ := rule_store HBE.out HKX.out K8.out HZ.out (by rw [← Q0.out]; exact QO.out) hfr HLT.out
                refine bodyPost_ret (results_row_tmp rfl _ _ (B + 1) 64 #[.int .i64 op9, .slice sa9 set9.length sc9, .slice ka9 kids9.length kc9, .int .i64 mn9, .int .i64 mx9, .int .i64 mode9, .int .i64 n9, .bool neg9] (0, 0) _ rfl hR Tryz.underlying64 rfl sizeRe) rfl ?_
                exact RulePost.of_some (.node op9 sa9 sc9 set9 ka9 kc9 kids9 mn9 mx9 mode9 n9 neg9) (by rw [HR.out, ← Q0.out, QT.out, K00.out]; rfl) rfl hok hke hfr2
      · obtain rfl : k = kids.length := by omega
        have h0 : holdO (MRe.trees kids) = none := by rw [← HL.out, List.drop_of_length_le (by rw [MRe.trees_length]; omega)]; rfl
        have HR := Lib.hid (show holdR (.node 2 set (MRe.trees kids) mn mx mode n neg) = none by rw [HRR.out, h0]; rfl)
        clear h0
        obtain ⟨z0, z1, z2, z3, z4, z5, z6, z7, zf⟩ := zero_cells (HKP.out.heap HZ.out (by simp))
        have HR2 := Lib.hid (set8_heap (HKP.out.heap HZ.out (by simp)) (.int .i64 0) (.slice none 0 0) (.slice none 0 0) (.int .i64 0) (.int .i64 0) (.int .i64 0) (.int .i64 0) (.bool false))
        have HK2 := Lib.hid ((HKX.out.trans HKP.out).after (set8_keeps _ (B + 1) (.int .i64 0) (.slice none 0 0) (.slice none 0 0) (.int .i64 0) (.int .i64 0) (.int .i64 0) (.int .i64 0) (.bool false)) (by intro x hx; simp at hx; subst hx; exact .inr (by rw [HBE.out]; omega)))
        go_wp2
        refine bodyPost_ret (results_row_tmp rfl _ _ (B + 1) 64 #[.int .i64 0, .slice none 0 0, .slice none 0 0, .int .i64 0, .int .i64 0, .int .i64 0, .int .i64 0, .bool false] (0, 0) _ rfl HR2.out Tryz.underlying64 rfl sizeRe) rfl ?_
        exact RulePost.of_none HR.out rfl HK2.out
  · have h2b : (op != 2) = true := by simpa using h2
    have HR := Lib.hid (show holdR (.node op set (MRe.trees kids) mn mx mode n neg) = none by rw [holdR, if_neg h2])
    obtain ⟨c0, c1, c2, c3, c4, c5, c6, c7⟩ := HC.out.cells0
    go_enter Tryz.func52, Tryz.ntmps52
    go_upto_region 1 with fail
    rw [← HXE.out, ← HBE.out]
    obtain ⟨z0, z1, z2, z3, z4, z5, z6, z7, zf⟩ := zero_cells (HK0.out.heap HZ.out (by simp))
    have HR2 := Lib.hid (set8_heap (HK0.out.heap HZ.out (by simp)) (.int .i64 0) (.slice none 0 0) (.slice none 0 0) (.int .i64 0) (.int .i64 0) (.int .i64 0) (.int .i64 0) (.bool false))
    have HK2 := Lib.hid ((HKX.out.trans HK0.out).after (set8_keeps _ (B + 1) (.int .i64 0) (.slice none 0 0) (.slice none 0 0) (.int .i64 0) (.int .i64 0) (.int .i64 0) (.int .i64 0) (.bool false)) (by intro x hx; simp at hx; subst hx; exact .inr (by rw [HBE.out]; omega)))
    go_wp2
    refine bodyPost_ret (results_row_tmp rfl _ _ (B + 1) 64 #[.int .i64 0, .slice none 0 0, .slice none 0 0, .int .i64 0, .int .i64 0, .int .i64 0, .int .i64 0, .bool false] (0, 0) _ rfl HR2.out Tryz.underlying64 rfl sizeRe) rfl ?_
    exact RulePost.of_none HR.out rfl HK2.out

end Go.Proofs.YtgdmkddegcecaaaGreat
