/- rexmillref05.order, rexmillref05.Compare over trees in memory. Conditions: the trees lie in memory and are not very big. -/
import Derived.Test.YtgdmkddegcecaaaGreatClone
import Derived.Test.YtgdmkddegcecaaaGreatBox
import Derived.Test.YtgdmkddegcecaaaGreatAppend
import Derived.Deep.DeepCutAuto
import Derived.Test.YtgdmkddegcecaaaGreatSame
import Derived.Deep.RegionHeld3
namespace Go.Proofs.YtgdmkddegcecaaaGreat
open Go.RowKit

/-- The numbers of a node in the order in which they are compared. -/
def nums (t : Tree) : List Int := [t.op, (t.set.length : Int)] ++ (t.set.flatMap fun s => [s.1, s.2]) ++ [t.mn, t.mx, t.mode, t.n, digitI t.neg, (t.kids.length : Int)]
/-- The first comparison of numbers that differ. -/
def lexL : List Int → List Int → Int
  | a :: r, b :: s => if a < b then -1 else if b < a then 1 else lexL r s
  | _, _ => 0
theorem lexL_zip (l m : List Int) : lexL l m = lexP (l.zip m) := by
  induction l generalizing m with
  | nil => simp [lexL, lexP]
  | cons x xs ih =>
    cases m with
    | nil => simp [lexL, lexP]
    | cons y ys => simp only [lexL, List.zip_cons_cons, lexP, ih]
theorem lexL_append {a b c d : List Int} (h : a.length = b.length) : lexL (a ++ c) (b ++ d) = if lexL a b ≠ 0 then lexL a b else lexL c d := by
  rw [lexL_zip, lexL_zip, lexL_zip, List.zip_append h, lexP_append]
theorem flat2_length (l : List (Int × Int)) : (l.flatMap fun s => [s.1, s.2]).length = 2 * l.length := by
  induction l with
  | nil => rfl
  | cons x xs ih => simp only [List.flatMap_cons, List.length_append, List.length_cons, List.length_nil, ih]; omega
theorem lexL_spans : ∀ (l m : List (Int × Int)), l.length = m.length → lexL (l.flatMap fun s => [s.1, s.2]) (m.flatMap fun s => [s.1, s.2]) = lexP (spansN l m)
  | [], [], _ => rfl
  | x :: xs, y :: ys, h => by
    simp only [List.flatMap_cons, spansN]
    rw [lexL_append (by simp), lexP_append, lexL_spans xs ys (by simpa using h)]
    have : lexL [x.1, x.2] [y.1, y.2] = lexP (spanN x y) := by simp [lexL, lexP, spanN]
    rw [this]
  | [], y :: ys, h => by simp at h
  | x :: xs, [], h => by simp at h
theorem lexL_nums (a b : Tree) : lexL (nums a) (nums b) = lexP (nodeN a b) := by
  unfold nums nodeN
  by_cases h : a.set.length = b.set.length
  · rw [List.append_assoc, List.append_assoc, lexL_append (by simp), lexP_append, lexL_append (by rw [flat2_length, flat2_length, h]), lexP_append, lexL_spans _ _ h]
    have e1 : lexL [a.op, (a.set.length : Int)] [b.op, (b.set.length : Int)] = lexP (headN a b) := by simp [lexL, lexP, headN]
    have e2 : lexL [a.mn, a.mx, a.mode, a.n, digitI a.neg, (a.kids.length : Int)] [b.mn, b.mx, b.mode, b.n, digitI b.neg, (b.kids.length : Int)] = lexP (pairsN a b) := by simp [lexL, lexP, pairsN]
    rw [e1, e2]
  · have h1 : lexP (headN a b) ≠ 0 := fun h0 => h (by
      have := lexP_zero h0 ((a.set.length : Int), (b.set.length : Int)) (by simp [headN])
      simp only at this
      omega)
    rw [List.append_assoc, List.append_assoc, lexL_append (by simp), lexP_append]
    have e1 : lexL [a.op, (a.set.length : Int)] [b.op, (b.set.length : Int)] = lexP (headN a b) := by simp [lexL, lexP, headN]
    rw [e1, if_pos h1, if_pos h1]
theorem nums_length (t : Tree) : (nums t).length = 8 + 2 * t.set.length := by unfold nums; simp only [List.length_append, flat2_length, List.length_cons, List.length_nil]; omega

theorem news_drew (w : World) (xs : List Value) (t : Nat) : ∀ j u, xs[j]? = some u → (w.alloc (.cells xs.toArray t)).drew.cell? ((⟨w.heap.size, 0, none⟩ : Addr).add j) = some u := news_row w xs t
theorem At8.keepR {S : List Nat} {w w' : World} {b o : Nat} {m : MRe} (h : At8 w b o m) (k : Keeps S w w') (hs : b ∉ S) : At8 w' b o m := fun j hj => k.cell (h j hj) hs
theorem lt_of_cell_b {w : World} {b o : Nat} {v : Value} (h : w.cell? ⟨b, o, none⟩ = some v) : b < w.heap.size := World.block_lt_of_cell? w _ h
theorem infoInt : (Tryz.prog.info? 3).map (fun i => (i.zero, i.size, i.bytes)) = some (some (.int .i64 0), 1, 8) := by kernel_rfl

set_option maxRecDepth 100000 in
set_option maxHeartbeats 4000000 in
theorem rorder_any (m : MRe) (w : World) (k1 : m.OK w) (hb : m.tree.bulk ≤ 100000) :
    Calls Tryz.prog 39 #[m.val] w fun e w' => ∃ a c, e = .returned (sv a (nums m.tree).length c) ∧ SliceAt w' 3 1 a (nums m.tree).length c ((nums m.tree).map (Value.int .i64)) ∧ Keeps [] w w' := by
  obtain ⟨i0, hi, hz0, hz1, hz2⟩ := info_parts infoInt
  have Hi := Lib.hid hi
  have Hz0 := Lib.hid hz0
  have Hz1 := Lib.hid hz1
  have Hz2 := Lib.hid hz2
  obtain ⟨op, sa, sc, set, ka, kc, kids, mn, mx, mode, n, neg⟩ := m
  obtain ⟨hbl, hbs, -⟩ := kids_bulk hb
  have hsp := k1.spans
  have hcap := hsp.cap
  have hle := hsp.le
  have hkc := k1.nodes.cap
  have hkl := k1.nodes.le
  unfold maxLen at hcap hkc
  have HS := Lib.hid hsp
  have hN : nums (MRe.tree (.node op sa sc set ka kc kids mn mx mode n neg)) = [op, (set.length : Int)] ++ (set.flatMap fun s => [s.1, s.2]) ++ [mn, mx, mode, n, digitI neg, (kids.length : Int)] := by simp [nums, MRe.tree, Tree.op, Tree.set, Tree.mn, Tree.mx, Tree.mode, Tree.n, Tree.neg, Tree.kids, MRe.trees_length]
  have hNl := nums_length (MRe.tree (.node op sa sc set ka kc kids mn mx mode n neg))
  have hNs : (MRe.tree (.node op sa sc set ka kc kids mn mx mode n neg)).set = set := rfl
  rw [hNs] at hNl
  rw [hN] at hNl ⊢
  rw [hNl]
  simp only [MRe.val]
  have hbx := box1 w (.node op sa sc set ka kc kids mn mx mode n neg) 64
  obtain ⟨B, hBe⟩ : ∃ B, B = w.heap.size := ⟨_, rfl⟩
  clear hi hz0 hz1 hz2 k1 hb hsp hN hNs hNl
  cases neg
  · go_enter Tryz.func39, Tryz.ntmps39
    go_upto_region 5 with fail
    simp only [MRe.row] at hbx
    have kX := Keeps.a1 (w.alloc (.cells #[.int .i64 op, .slice sa set.length sc, .slice ka kids.length kc, .int .i64 mn, .int .i64 mx, .int .i64 mode, .int .i64 n, .bool false] 64)) (.cells #[.int .i64 op, .int .i64 set.length] 3)
    have hbX := hbx.keep kX
    have slX : SliceAt ((w.alloc (.cells #[.int .i64 op, .slice sa set.length sc, .slice ka kids.length kc, .int .i64 mn, .int .i64 mx, .int .i64 mode, .int .i64 n, .bool false] 64)).alloc (.cells #[.int .i64 op, .int .i64 set.length] 3)) 3 1 (some (w.heap.size + 1)) 2 2 [.int .i64 op, .int .i64 set.length] :=
      SliceAt.of_row (cur := #[.int .i64 op, .int .i64 set.length]) (heap_alloc2_new w _ _) rfl (by unfold maxLen; omega)
    have kwX := Keeps.a2 w (.cells #[.int .i64 op, .slice sa set.length sc, .slice ka kids.length kc, .int .i64 mn, .int .i64 mx, .int .i64 mode, .int .i64 n, .bool false] 64) (.cells #[.int .i64 op, .int .i64 set.length] 3)
    rw [← hBe] at hbX slX ⊢
    have HBX := Lib.hid hbX
    have HSL := Lib.hid slX
    have HKX := Lib.hid kwX
    have HBE := Lib.hid hBe
    clear hbX slX kwX kX hbx hBe
    generalize (w.alloc (.cells #[.int .i64 op, .slice sa set.length sc, .slice ka kids.length kc, .int .i64 mn, .int .i64 mx, .int .i64 mode, .int .i64 n, .bool false] 64)).alloc (.cells #[.int .i64 op, .int .i64 set.length] 3) = X at *
    go_wp2
    go_loopw [4, 5] (fun v i wr => ∃ (k : Nat) (g c : Nat), k ≤ set.length ∧ i = .int .i64 k ∧ v = .slice (some ⟨g, 0, none⟩) (2 + 2 * k) c ∧ SliceAt wr 3 1 (some g) (2 + 2 * k) c ([.int .i64 op, .int .i64 set.length] ++ flatP (set.take k)) ∧ B + 1 ≤ g ∧ At8 wr B 0 (.node op sa sc set ka kc kids mn mx mode n false) ∧ Keeps [] w wr) (fun _ i _ => set.length - (intOf i).toNat)
    case atStart => exact ⟨0, B + 1, 2, Nat.zero_le _, rfl, rfl, HSL.out, Nat.le_refl _, HBX.out, HKX.out⟩
    case round =>
      obtain ⟨k, g, c, hk, rfl, rfl, hsl, hgB, h8, hkp⟩ := hrel
      have HSR := Lib.hid hsl
      have H8 := Lib.hid h8
      have HKP := Lib.hid hkp
      have hwb := HBE.out
      have hgw : w.heap.size ≤ g := by omega
      obtain ⟨x0, x1, x2, x3, x4, x5, x6, x7⟩ := h8.cells0
      clear hwb
      by_cases hlt : k < set.length
      · obtain ⟨b, off, rfl, hbb, hc⟩ := (HS.out.keep hkp).at_ (by omega)
        obtain ⟨c0, c1⟩ := hc k hlt
        have hft : set.take (k + 1) = set.take k ++ [set[k]] := List.take_succ_eq_append_getElem hlt
        have hbw := HS.out.block_lt
        have hbg : b ≠ g := fun h => by
          have h1 := hbw b (by unfold blockIf; rw [if_neg (by omega)]; simp)
          omega
        generalize set[k] = s at *
        obtain ⟨p, q⟩ := s
        simp only at c0 c1
        have HFT := Lib.hid hft
        have hi1 : (k : Int) < (set.length : Int) := by omega
        have hi0 : (0 : Int) ≤ (k : Int) := by omega
        have hw0 : IntKind.i64.wrap (k : Int) = (k : Int) := IntWalk.i64_in _ (by omega)
        have hBg : ¬ B = g := by omega
        clear hc hft hbw hsl h8 hkp
        go_wp2
        go_region_held3 (fun w' => w'.cell? ⟨B, 1, none⟩ = some (.slice (some ⟨b, off, none⟩) set.length sc) ∧ w'.cell? ⟨b, off + k * 2, none⟩ = some (.int .i64 p) ∧ w'.cell? ⟨b, off + k * 2 + 1, none⟩ = some (.int .i64 q))
          (with_reducible first | exact ⟨((Keeps.refl [] wr).drew).cell x1 (by simp), ((Keeps.refl [] wr).drew).cell c0 (by simp), ((Keeps.refl [] wr).drew).cell c1 (by simp)⟩ | exact ⟨((Keeps.a1 wr _).drew).cell x1 (by simp), ((Keeps.a1 wr _).drew).cell c0 (by simp), ((Keeps.a1 wr _).drew).cell c1 (by simp)⟩ | exact ⟨E1.out.cell x1 (by simp; exact hBg), E1.out.cell c0 (by simp; exact hbg), E1.out.cell c1 (by simp; exact hbg)⟩ | fail)
          (first
            | (refine stepd_append_sl rfl (.tmp 21) (.tmp 34) 22 rfl 3 i0 _ 1 8 Tryz.underlying22 Hi.out Hz0.out Hz1.out Hz2.out rfl (by decide) (some g) (2 + 2 * k) c _ rfl (HSR.out.keep ((Keeps.a1 wr _).drew) (by simp)) ⟨wr.heap.size, 0, none⟩ 2 2 [.int .i64 p, .int .i64 q] rfl rfl (news_drew wr [.int .i64 p, .int .i64 q] 3) (by intro u hu; simp at hu; rcases hu with rfl | rfl <;> rfl) (by decide) (by omega) (by omega) ?_; intro g3 c3 w3 hsl3 hk3 hg3; have E1 := Lib.hid (show Keeps [g] wr w3 from ((Keeps.a1 wr _).drew.mono (by simp)).trans (by simpa using hk3)); have HS3 := Lib.hid hsl3; have HG3 := Lib.hid hg3; clear hsl3 hk3 hg3))
        have hs1 := E1.out.size
        have hgw3 : B + 1 ≤ g3 := by
          rcases HG3.out with h | h
          · cases h; exact hgB
          · have h2 : wr.heap.size ≤ (wr.alloc (.cells #[.int .i64 p, .int .i64 q] 3)).drew.heap.size := (Keeps.a1 wr _).drew.size
            have h3 := HKP.out.size
            have h4 := HBE.out
            have h5 := lt_of_cell_b x0
            omega
        have h83 := At8.keepR H8.out E1.out (by simp; exact hBg)
        have hkp3 := HKP.out.after E1.out (by intro x hx; simp at hx; subst hx; exact .inr hgw)
        have hsl3 : SliceAt w3 3 1 (some g3) (2 + 2 * (k + 1)) c3 ([.int .i64 op, .int .i64 set.length] ++ flatP (set.take (k + 1))) := by
          rw [HFT.out, flatP_append, ← List.append_assoc, show 2 + 2 * (k + 1) = 2 + 2 * k + 2 by omega]
          exact HS3.out
        have H83 := Lib.hid h83
        have HKP3 := Lib.hid hkp3
        have HSL3 := Lib.hid hsl3
        clear h83 hkp3 hsl3 x0 x1 x2 x3 x4 x5 x6 x7 c0 c1 E1 hs1
        go_wp2
        go_roundw
        case rel => exact ⟨k + 1, g3, c3, by omega, by go_num, by rw [show 2 + 2 * (k + 1) = 2 + 2 * k + 2 by omega], HSL3.out, hgw3, H83.out, HKP3.out⟩
        case measure => simp [intOf]; omega
      · obtain rfl : k = set.length := by omega
        rw [List.take_length] at HSR
        clear hsl h8 hkp
        go_wp2_with (at_builtin; refine wpList_append_sl rfl (.tmp 36) (.tmp 49) 22 rfl 3 i0 _ 1 8 Tryz.underlying22 Hi.out Hz0.out Hz1.out Hz2.out rfl (by decide) (some g) (2 + 2 * set.length) c _ rfl (HSR.out.alloc _) ⟨wr.heap.size, 0, none⟩ 6 6 [.int .i64 mn, .int .i64 mx, .int .i64 mode, .int .i64 n, .int .i64 0, .int .i64 kids.length] rfl rfl (news_row' _ _ _ _ rfl) (by intro u hu; simp at hu; rcases hu with rfl | rfl | rfl | rfl | rfl | rfl <;> rfl) (by decide) (by omega) (by omega) ?hk)
        case hk =>
          intro g4 c4 w4 hsl4 hk4 hg4
          have hkp4 := (HKP.out.alloc _).after hk4 (by intro x hx; simp at hx; subst hx; exact .inr hgw)
          have HSL4 := Lib.hid hsl4
          have HKP4 := Lib.hid hkp4
          clear hsl4 hk4 hg4 hkp4 x0 x1 x2 x3 x4 x5 x6 x7
          go_wp2
          go_ret
          refine ⟨some g4, c4, by rw [show 8 + 2 * set.length = 2 + 2 * set.length + 6 by omega]; rfl, ?_, HKP4.out⟩
          have h := HSL4.out
          rw [show 2 + 2 * set.length + 6 = 8 + 2 * set.length by omega] at h
          simpa [flatP, List.map_flatMap, digitI] using h
  · go_enter Tryz.func39, Tryz.ntmps39
    go_upto_region 5 with fail
    simp only [MRe.row] at hbx
    have kX := Keeps.a1 (w.alloc (.cells #[.int .i64 op, .slice sa set.length sc, .slice ka kids.length kc, .int .i64 mn, .int .i64 mx, .int .i64 mode, .int .i64 n, .bool true] 64)) (.cells #[.int .i64 op, .int .i64 set.length] 3)
    have hbX := hbx.keep kX
    have slX : SliceAt ((w.alloc (.cells #[.int .i64 op, .slice sa set.length sc, .slice ka kids.length kc, .int .i64 mn, .int .i64 mx, .int .i64 mode, .int .i64 n, .bool true] 64)).alloc (.cells #[.int .i64 op, .int .i64 set.length] 3)) 3 1 (some (w.heap.size + 1)) 2 2 [.int .i64 op, .int .i64 set.length] :=
      SliceAt.of_row (cur := #[.int .i64 op, .int .i64 set.length]) (heap_alloc2_new w _ _) rfl (by unfold maxLen; omega)
    have kwX := Keeps.a2 w (.cells #[.int .i64 op, .slice sa set.length sc, .slice ka kids.length kc, .int .i64 mn, .int .i64 mx, .int .i64 mode, .int .i64 n, .bool true] 64) (.cells #[.int .i64 op, .int .i64 set.length] 3)
    rw [← hBe] at hbX slX ⊢
    have HBX := Lib.hid hbX
    have HSL := Lib.hid slX
    have HKX := Lib.hid kwX
    have HBE := Lib.hid hBe
    clear hbX slX kwX kX hbx hBe
    generalize (w.alloc (.cells #[.int .i64 op, .slice sa set.length sc, .slice ka kids.length kc, .int .i64 mn, .int .i64 mx, .int .i64 mode, .int .i64 n, .bool true] 64)).alloc (.cells #[.int .i64 op, .int .i64 set.length] 3) = X at *
    go_wp2
    go_loopw [4, 5] (fun v i wr => ∃ (k : Nat) (g c : Nat), k ≤ set.length ∧ i = .int .i64 k ∧ v = .slice (some ⟨g, 0, none⟩) (2 + 2 * k) c ∧ SliceAt wr 3 1 (some g) (2 + 2 * k) c ([.int .i64 op, .int .i64 set.length] ++ flatP (set.take k)) ∧ B + 1 ≤ g ∧ At8 wr B 0 (.node op sa sc set ka kc kids mn mx mode n true) ∧ Keeps [] w wr) (fun _ i _ => set.length - (intOf i).toNat)
    case atStart => exact ⟨0, B + 1, 2, Nat.zero_le _, rfl, rfl, HSL.out, Nat.le_refl _, HBX.out, HKX.out⟩
    case round =>
      obtain ⟨k, g, c, hk, rfl, rfl, hsl, hgB, h8, hkp⟩ := hrel
      have HSR := Lib.hid hsl
      have H8 := Lib.hid h8
      have HKP := Lib.hid hkp
      have hwb := HBE.out
      have hgw : w.heap.size ≤ g := by omega
      obtain ⟨x0, x1, x2, x3, x4, x5, x6, x7⟩ := h8.cells0
      clear hwb
      by_cases hlt : k < set.length
      · obtain ⟨b, off, rfl, hbb, hc⟩ := (HS.out.keep hkp).at_ (by omega)
        obtain ⟨c0, c1⟩ := hc k hlt
        have hft : set.take (k + 1) = set.take k ++ [set[k]] := List.take_succ_eq_append_getElem hlt
        have hbw := HS.out.block_lt
        have hbg : b ≠ g := fun h => by
          have h1 := hbw b (by unfold blockIf; rw [if_neg (by omega)]; simp)
          omega
        generalize set[k] = s at *
        obtain ⟨p, q⟩ := s
        simp only at c0 c1
        have HFT := Lib.hid hft
        have hi1 : (k : Int) < (set.length : Int) := by omega
        have hi0 : (0 : Int) ≤ (k : Int) := by omega
        have hw0 : IntKind.i64.wrap (k : Int) = (k : Int) := IntWalk.i64_in _ (by omega)
        have hBg : ¬ B = g := by omega
        clear hc hft hbw hsl h8 hkp
        go_wp2
        go_region_held3 (fun w' => w'.cell? ⟨B, 1, none⟩ = some (.slice (some ⟨b, off, none⟩) set.length sc) ∧ w'.cell? ⟨b, off + k * 2, none⟩ = some (.int .i64 p) ∧ w'.cell? ⟨b, off + k * 2 + 1, none⟩ = some (.int .i64 q))
          (with_reducible first | exact ⟨((Keeps.refl [] wr).drew).cell x1 (by simp), ((Keeps.refl [] wr).drew).cell c0 (by simp), ((Keeps.refl [] wr).drew).cell c1 (by simp)⟩ | exact ⟨((Keeps.a1 wr _).drew).cell x1 (by simp), ((Keeps.a1 wr _).drew).cell c0 (by simp), ((Keeps.a1 wr _).drew).cell c1 (by simp)⟩ | exact ⟨E1.out.cell x1 (by simp; exact hBg), E1.out.cell c0 (by simp; exact hbg), E1.out.cell c1 (by simp; exact hbg)⟩ | fail)
          (first
            | (refine stepd_append_sl rfl (.tmp 21) (.tmp 34) 22 rfl 3 i0 _ 1 8 Tryz.underlying22 Hi.out Hz0.out Hz1.out Hz2.out rfl (by decide) (some g) (2 + 2 * k) c _ rfl (HSR.out.keep ((Keeps.a1 wr _).drew) (by simp)) ⟨wr.heap.size, 0, none⟩ 2 2 [.int .i64 p, .int .i64 q] rfl rfl (news_drew wr [.int .i64 p, .int .i64 q] 3) (by intro u hu; simp at hu; rcases hu with rfl | rfl <;> rfl) (by decide) (by omega) (by omega) ?_; intro g3 c3 w3 hsl3 hk3 hg3; have E1 := Lib.hid (show Keeps [g] wr w3 from ((Keeps.a1 wr _).drew.mono (by simp)).trans (by simpa using hk3)); have HS3 := Lib.hid hsl3; have HG3 := Lib.hid hg3; clear hsl3 hk3 hg3))
        have hs1 := E1.out.size
        have hgw3 : B + 1 ≤ g3 := by
          rcases HG3.out with h | h
          · cases h; exact hgB
          · have h2 : wr.heap.size ≤ (wr.alloc (.cells #[.int .i64 p, .int .i64 q] 3)).drew.heap.size := (Keeps.a1 wr _).drew.size
            have h3 := HKP.out.size
            have h4 := HBE.out
            have h5 := lt_of_cell_b x0
            omega
        have h83 := At8.keepR H8.out E1.out (by simp; exact hBg)
        have hkp3 := HKP.out.after E1.out (by intro x hx; simp at hx; subst hx; exact .inr hgw)
        have hsl3 : SliceAt w3 3 1 (some g3) (2 + 2 * (k + 1)) c3 ([.int .i64 op, .int .i64 set.length] ++ flatP (set.take (k + 1))) := by
          rw [HFT.out, flatP_append, ← List.append_assoc, show 2 + 2 * (k + 1) = 2 + 2 * k + 2 by omega]
          exact HS3.out
        have H83 := Lib.hid h83
        have HKP3 := Lib.hid hkp3
        have HSL3 := Lib.hid hsl3
        clear h83 hkp3 hsl3 x0 x1 x2 x3 x4 x5 x6 x7 c0 c1 E1 hs1
        go_wp2
        go_roundw
        case rel => exact ⟨k + 1, g3, c3, by omega, by go_num, by rw [show 2 + 2 * (k + 1) = 2 + 2 * k + 2 by omega], HSL3.out, hgw3, H83.out, HKP3.out⟩
        case measure => simp [intOf]; omega
      · obtain rfl : k = set.length := by omega
        rw [List.take_length] at HSR
        clear hsl h8 hkp
        go_wp2_with (at_builtin; refine wpList_append_sl rfl (.tmp 36) (.tmp 49) 22 rfl 3 i0 _ 1 8 Tryz.underlying22 Hi.out Hz0.out Hz1.out Hz2.out rfl (by decide) (some g) (2 + 2 * set.length) c _ rfl (HSR.out.alloc _) ⟨wr.heap.size, 0, none⟩ 6 6 [.int .i64 mn, .int .i64 mx, .int .i64 mode, .int .i64 n, .int .i64 1, .int .i64 kids.length] rfl rfl (news_row' _ _ _ _ rfl) (by intro u hu; simp at hu; rcases hu with rfl | rfl | rfl | rfl | rfl | rfl <;> rfl) (by decide) (by omega) (by omega) ?hk)
        case hk =>
          intro g4 c4 w4 hsl4 hk4 hg4
          have hkp4 := (HKP.out.alloc _).after hk4 (by intro x hx; simp at hx; subst hx; exact .inr hgw)
          have HSL4 := Lib.hid hsl4
          have HKP4 := Lib.hid hkp4
          clear hsl4 hk4 hg4 hkp4 x0 x1 x2 x3 x4 x5 x6 x7
          go_wp2
          go_ret
          refine ⟨some g4, c4, by rw [show 8 + 2 * set.length = 2 + 2 * set.length + 6 by omega]; rfl, ?_, HKP4.out⟩
          have h := HSL4.out
          rw [show 2 + 2 * set.length + 6 = 8 + 2 * set.length by omega] at h
          simpa [flatP, List.map_flatMap, digitI] using h

end Go.Proofs.YtgdmkddegcecaaaGreat
