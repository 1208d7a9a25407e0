/- slices.Clone of spans; rules.clone. Conditions: the tree lies in memory and is not very big. -/
import Derived.Test.YtgdmkddegcecaaaGreatAppend0
import Derived.Test.YtgdmkddegcecaaaGreatCompare
import Derived.Test.YtgdmkddegcecaaaGreatBlocks
import Derived.Laws.Tables
namespace Go.Proofs.YtgdmkddegcecaaaGreat
open Go.RowKit

theorem infoSpan : (Tryz.prog.info? 80).map (fun i => (i.zero, i.size, i.bytes)) = some (some (.agg #[.int .i64 0, .int .i64 0]), 2, 16) := by kernel_rfl

theorem row8_one (op : Int) (sa : Option Addr) (ns sc : Nat) (ka : Option Addr) (nk kc : Nat) (mn mx mode n : Int) (neg : Bool) : (#[Value.int .i64 op, .slice sa ns sc, .slice ka nk kc, .int .i64 mn, .int .i64 mx, .int .i64 mode, .int .i64 n, .bool neg].all (·.oneCell')) = true := by simp [Value.oneCell']

/-- An empty literal of spans. -/
theorem SliceAt.empty (w : World) (e size : Nat) : SliceAt (w.alloc (.cells #[] e)) e size (some w.heap.size) 0 0 [] :=
  ⟨by simp, #[], heap_alloc_new w _, Nat.le_refl _, by unfold maxLen; omega, by simp, by simp⟩

set_option maxRecDepth 100000 in
set_option maxHeartbeats 400000 in
theorem spanClone_any (sa : Option Addr) (sc : Nat) (set : List (Int × Int)) (w : World) (h : SpansIn w sa sc set) (hb : set.length ≤ 1000000) :
    Calls Tryz.prog 57 #[.slice sa set.length sc] w fun e w' => ∃ sa' sc', e = .returned (.slice sa' set.length sc') ∧ SpansIn w' sa' sc' set ∧ Keeps [] w w' ∧ Fresh w.heap.size (blockIf set.length sa') := by
  obtain ⟨i0, hi, hz0, hz1, hz2⟩ := info_parts infoSpan
  have Hi := Lib.hid hi
  have Hz0 := Lib.hid hz0
  have Hz1 := Lib.hid hz1
  have Hz2 := Lib.hid hz2
  have HS := Lib.hid h
  clear hi hz0 hz1 hz2 h
  have hnil : ∀ (w : World) (a : Option Addr) (n c n' c' : Nat), (binOp .eql 61 (.slice a n c) (.slice none n' c')).run Tryz.prog w = .ok (.bool a.isNone) w := fun w a n c n' c' => Lib.run_eql_slice_nil w _ _ a n c n' c' Tryz.underlying61
  cases sa with
  | none =>
    have h0 : set.length = 0 := by have := HS.out.nil_ rfl; have := HS.out.le; omega
    go_enter Tryz.func57, Tryz.ntmps57
    go_wp2
    go_ret
    refine ⟨none, 0, by rw [h0]; rfl, ?_, Keeps.refl _ _, by rw [h0, blockIf_nil]; exact Fresh.nil _⟩
    have : set = [] := List.eq_nil_of_length_eq_zero h0
    subst this
    exact SpansIn.nil w
  | some a =>
    go_enter Tryz.func57, Tryz.ntmps57
    go_wp2_with (at_builtin; refine wpList_append_any rfl (.tmp 5) (.tmp 6) 61 rfl 80 i0 _ 2 16 Tryz.underlying61 Hi.out Hz0.out Hz1.out Hz2.out rfl (by decide) (some w.heap.size) 0 0 [] rfl (SliceAt.empty w _ _) (some a) set.length sc (flatP set) rfl (flatP_length set) (HS.out.keep ((Keeps.refl [] w).alloc _)).src (flatP_one set) (by omega) (by omega) ?hk)
    case hk =>
      intro a' c' w' hsl hk ha
      have HSL := Lib.hid hsl
      have HK := Lib.hid (show Keeps [] w w' from ((Keeps.refl [] w).alloc _).after hk (by intro x hx; simp at hx; exact .inr (by omega)))
      have HA := Lib.hid (show ∀ g, a' = some g → w.heap.size ≤ g by
        intro g hg
        rcases ha with h | ⟨g', h, h2⟩
        · rw [hg] at h; cases h; exact Nat.le_refl _
        · rw [hg] at h; cases h; have : w.heap.size ≤ (w.alloc (.cells #[] 80)).heap.size := by simp
          omega)
      clear hsl hk ha
      go_wp2
      go_ret
      exact ⟨_, _, rfl, SpansIn.of_sl HSL.out, HK.out, Fresh.blockIf_map HA.out⟩

theorem bulks_mono {l : List Tree} {k : Nat} : Tree.bulks (l.take k) ≤ Tree.bulks l := by have := Tree.bulks_take_drop l k; omega
theorem trees_take (l : List MRe) (k : Nat) : MRe.trees (l.take k) = (MRe.trees l).take k := by rw [MRe.trees_eq, MRe.trees_eq, List.map_take]
theorem trees_append (a b : List MRe) : MRe.trees (a ++ b) = MRe.trees a ++ MRe.trees b := by rw [MRe.trees_eq, MRe.trees_eq, MRe.trees_eq, List.map_append]
theorem kids_bulk {op sa sc set ka kc kids mn mx mode n neg} {B : Nat} (h : (MRe.node op sa sc set ka kc kids mn mx mode n neg).tree.bulk ≤ B) : kids.length ≤ B ∧ set.length ≤ B ∧ ∀ k ∈ kids, k.tree.bulk ≤ B := by
  simp only [MRe.tree, Tree.bulk] at h
  refine ⟨?_, by omega, fun k hk => ?_⟩
  · have := Tree.length_le_bulks (MRe.trees kids); rw [MRe.trees_length] at this; omega
  · have : k.tree ∈ MRe.trees kids := by rw [MRe.trees_eq]; exact List.mem_map_of_mem hk
    have := Tree.bulks_mem this
    omega

set_option maxRecDepth 100000 in
set_option maxHeartbeats 4000000 in
theorem rclone_any (m : MRe) : ∀ (w : World), m.OK w → m.tree.bulk ≤ 1000000 →
    Calls Tryz.prog 38 #[m.val] w fun e w' => ∃ m' : MRe, e = .returned m'.val ∧ m'.tree = m.tree ∧ m'.OK w' ∧ Keeps [] w w' ∧ Fresh w.heap.size m'.blocks := by
  induction m using MRe.induct with
  | h op sa sc set ka kc kids mn mx mode n neg ih =>
    intro w k1 hbk
    obtain ⟨hbl, hbs, hbm⟩ := kids_bulk hbk
    obtain ⟨i0, hi, hz0, hz1, hz2⟩ := info_parts infoRe
    have Hi := Lib.hid hi
    have Hz0 := Lib.hid hz0
    have Hz1 := Lib.hid hz1
    have Hz2 := Lib.hid hz2
    have HSC := Lib.hid (fun W (h : Keeps [] w W) => spanClone_any sa sc set W (k1.spans.keep h) hbs)
    have hcap := k1.nodes.cap
    have hle := k1.nodes.le
    unfold maxLen at hcap
    have HK1 := Lib.hid k1.kids
    have HI := Lib.hid ih
    have HBM := Lib.hid hbm
    have hmk : ∀ w : World, (Instr.makeSlice 62 (.int .i64 0) (.int .i64 kids.length)).run Tryz.prog w = .ok (.slice (some ⟨w.heap.size, 0, none⟩) 0 kids.length) (w.alloc (.cells (madeCells #[.int .i64 0, .slice none 0 0, .slice none 0 0, .int .i64 0, .int .i64 0, .int .i64 0, .int .i64 0, .bool false] (kids.length * 8)) 64)) := fun w => by
      have h := run_make (P := Tryz.prog) w 62 64 i0 _ Tryz.underlying62 hi hz0 .i64 .i64 0 kids.length (by omega) (by omega) (by rw [hz2]; omega) (by omega)
      rw [hz1] at h
      exact h
    clear hi hz0 hz1 hz2 ih k1 hbk hbm
    simp only [MRe.val]
    go_enter Tryz.func38, Tryz.ntmps38
    go_wp2_with fail
    refine Calls.mono (HSC.out _ (Keeps.a2 w _ _)) ?_
    rintro e w3 ⟨sa', sc', rfl, hsp, hk3, hfr⟩
    have hbox : w3.heap[w.heap.size]? = some (.cells #[.int .i64 op, .slice sa set.length sc, .slice ka kids.length kc, .int .i64 mn, .int .i64 mx, .int .i64 mode, .int .i64 n, .bool neg] 64 (0, 0)) :=
      hk3.heap (((Keeps.a1 _ _).heap (heap_alloc_new w _) (by simp))) (by simp)
    have hres : w3.heap[w.heap.size + 1]? = some (.cells #[.int .i64 0, .slice none 0 0, .slice none 0 0, .int .i64 0, .int .i64 0, .int .i64 0, .int .i64 0, .bool false] 64 (0, 0)) :=
      hk3.heap (heap_alloc2_new w _ _) (by simp)
    have hsz : w.heap.size + 2 ≤ w3.heap.size := by have := hk3.size; simp at this; omega
    have hfr' : Fresh (w.heap.size + 2) (blockIf set.length sa') := hfr.mono (by simp only [World.alloc, Array.size_push]; omega)
    obtain ⟨B, hB⟩ : ∃ B, B = w.heap.size := ⟨_, rfl⟩
    have HK3 := Lib.hid ((Keeps.a2 w _ _).trans hk3)
    rw [← hB] at hbox hres hfr' hsz
    rw [← hB]
    have hBw : w.heap.size ≤ B := by omega
    have e1 : w3.cell? ⟨B, 2, none⟩ = some (.slice ka kids.length kc) := by simp [World.cell?, hbox]
    have e2 : w3.frozen? ⟨B, 1, none⟩ = false := by simp [World.frozen?, hbox]
    have e3 : w3.cell? ⟨B, 1, none⟩ = some (.slice sa set.length sc) := by simp [World.cell?, hbox]
    have HSP := Lib.hid hsp
    have HFR := Lib.hid hfr'
    have HBOX := Lib.hid hbox
    have HRES := Lib.hid hres
    clear hB hbox hres hfr hfr' hsp hk3
    go_upto_region 2 with fail
    have hboxX : (w3.setCell ⟨B, 1, none⟩ (.slice sa' set.length sc')).heap[B]? = some (.cells #[.int .i64 op, .slice sa' set.length sc', .slice ka kids.length kc, .int .i64 mn, .int .i64 mx, .int .i64 mode, .int .i64 n, .bool neg] 64 (0, 0)) := heap_setCell_same w3 B 1 _ 64 _ HBOX.out
    have hresX := (heap_setCell_other w3 ⟨B, 1, none⟩ (B + 1) (.slice sa' set.length sc') (by simp)).trans HRES.out
    have kX : Keeps [B] w3 (w3.setCell ⟨B, 1, none⟩ (.slice sa' set.length sc')) := (Keeps.refl _ _).setCell (.inl (by simp)) _
    have hspX := HSP.out.keepS kX (fun b hb => by have := HFR.out b hb; simp; omega)
    have HKX := Lib.hid (HK3.out.after kX (by intro x hx; simp at hx; subst hx; exact .inr hBw))
    have hszX : B + 2 ≤ (w3.setCell ⟨B, 1, none⟩ (.slice sa' set.length sc')).heap.size := by have := kX.size; omega
    clear e1 e2 e3 HBOX HRES HSP HK3 kX hsz
    generalize w3.setCell ⟨B, 1, none⟩ (.slice sa' set.length sc') = X at *
    have e1 : X.cell? ⟨B, 2, none⟩ = some (.slice ka kids.length kc) := by simp [World.cell?, hboxX]
    have HBX := Lib.hid hboxX
    have HRX := Lib.hid hresX
    have HSX := Lib.hid hspX
    clear hboxX hresX hspX
    go_upto_region 3 with fail
    have kY := Keeps.a1 X (.cells (madeCells #[.int .i64 0, .slice none 0 0, .slice none 0 0, .int .i64 0, .int .i64 0, .int .i64 0, .int .i64 0, .bool false] (kids.length * 8)) 64)
    have slY : SliceAt (X.alloc (.cells (madeCells #[.int .i64 0, .slice none 0 0, .slice none 0 0, .int .i64 0, .int .i64 0, .int .i64 0, .int .i64 0, .bool false] (kids.length * 8)) 64)) 64 8 (some X.heap.size) 0 kids.length [] :=
      ⟨by simp, _, heap_alloc_new X _, by omega, by unfold maxLen; omega, size_madeCells _ _, by simp⟩
    have f1 := kY.cell e1 (by simp)
    have HBY := Lib.hid (kY.heap HBX.out (by simp))
    have HRY := Lib.hid (kY.heap HRX.out (by simp))
    have HSY := Lib.hid (HSX.out.keep kY)
    have HKY := Lib.hid (HKX.out.trans kY)
    have hlt := HSX.out.block_lt
    obtain ⟨G, hG⟩ : ∃ G, G = X.heap.size := ⟨_, rfl⟩
    rw [← hG] at slY hlt ⊢
    have HLT := Lib.hid hlt
    clear hlt
    have hGB : B + 2 ≤ G := by omega
    have HSL := Lib.hid slY
    clear e1 kY slY HBX HRX HSX HKX hG hszX
    generalize X.alloc (.cells (madeCells #[.int .i64 0, .slice none 0 0, .slice none 0 0, .int .i64 0, .int .i64 0, .int .i64 0, .int .i64 0, .bool false] (kids.length * 8)) 64) = Y at *
    go_wp2
    go_loopw [3, 17] (fun v i wr => ∃ (k : Nat) (a' : Option Nat) (c' : Nat) (ks : List MRe), k ≤ kids.length ∧ i = .int .i64 k ∧ v = sv a' k c' ∧ ks.length = k ∧ SliceAt wr 64 8 a' k c' (flatK ks) ∧ MRe.trees ks = (MRe.trees kids).take k ∧ (∀ x ∈ ks, x.OK wr ∧ ∀ b ∈ x.blocks, B + 2 ≤ b ∧ a' ≠ some b) ∧ (∀ g, a' = some g → B + 2 ≤ g) ∧
      wr.heap[B]? = some (.cells #[.int .i64 op, .slice sa' set.length sc', .slice ka kids.length kc, .int .i64 mn, .int .i64 mx, .int .i64 mode, .int .i64 n, .bool neg] 64 (0, 0)) ∧ wr.heap[B + 1]? = some (.cells #[.int .i64 0, .slice none 0 0, .slice none 0 0, .int .i64 0, .int .i64 0, .int .i64 0, .int .i64 0, .bool false] 64 (0, 0)) ∧ (SpansIn wr sa' sc' set ∧ ∀ b ∈ blockIf set.length sa', a' ≠ some b) ∧ Keeps [] w wr) (fun _ i _ => kids.length - (intOf i).toNat)
    case atStart => exact ⟨0, some G, kids.length, [], Nat.zero_le _, rfl, rfl, rfl, HSL.out, rfl, by simp, by simpa using hGB, HBY.out, HRY.out, ⟨HSY.out, fun b hb h => by have := HLT.out b hb; cases h; omega⟩, HKY.out⟩
    case round =>
      obtain ⟨k, a', c', ks, hk, rfl, rfl, hkl, hsl, htr, hks, hag, hbox, hres, ⟨hsp, hspb⟩, hkp⟩ := hrel
      have HKP := Lib.hid hkp
      have HSLr := Lib.hid hsl
      have HKL := Lib.hid hkl
      have HTR := Lib.hid htr
      have HKS := Lib.hid hks
      have HAG := Lib.hid hag
      have HBR := Lib.hid hbox
      have HRR := Lib.hid hres
      have HSPR := Lib.hid hsp
      have HSPB := Lib.hid hspb
      clear hsl htr hks hag hbox hres hsp hspb hkl
      by_cases hlt : k < kids.length
      · obtain ⟨b, off, rfl, hb, hx⟩ := (HK1.out.keep hkp).nodes.kid (by omega)
        have hxk := hx k hlt
        have hok := (HK1.out.keep hkp).all kids[k] (List.getElem_mem hlt)
        have HCALL := Lib.hid (fun W (h : Keeps [] wr W) => HI.out kids[k] (List.getElem_mem hlt) W (hok.keep h) (HBM.out _ (List.getElem_mem hlt)))
        have hnext : (MRe.trees kids).take (k + 1) = (MRe.trees kids).take k ++ [kids[k].tree] := by
          rw [List.take_succ_eq_append_getElem (by rw [MRe.trees_length]; exact hlt)]; simp [MRe.trees_eq]
        have HNX := Lib.hid hnext
        generalize kids[k] = kk at *
        obtain ⟨op1, sa1, sc1, set1, ka1, kc1, kids1, mn1, mx1, mode1, n1, neg1⟩ := kk
        have g := hxk.node
        have c0 := g.c0
        have c1 := g.c1
        have c2 := g.c2
        have c3 := g.c3
        have c4 := g.c4
        have c5 := g.c5
        have c6 := g.c6
        have c7 := g.c7
        simp only [MRe.val] at HCALL
        clear g hx hxk hok hkp hnext HI HBM
        go_wp2_with fail
        refine Calls.mono (HCALL.out _ (Keeps.a1 wr _)) ?_
        rintro e w5 ⟨m', rfl, ht5, ho5, hk5, hf5⟩
        have hkk : Keeps [] wr w5 := (Keeps.a1 wr _).trans hk5
        have hs5 := hkk.size
        have HO5 := Lib.hid ho5
        have HT5 := Lib.hid ht5
        have hf5' : Fresh (wr.heap.size + 1) m'.blocks := hf5.mono (by simp)
        have HF5 := Lib.hid hf5'
        have HK5 := Lib.hid hkk
        have hrow : m'.row = flatK [m'] := by simp [flatK]
        have hone := flatK_one [m']
        rw [← hrow] at hone
        obtain ⟨m0, hm0⟩ : ∃ m0, m0 = m' := ⟨_, rfl⟩
        have HM0 := Lib.hid hm0
        obtain ⟨op2, sa2, sc2, set2, ka2, kc2, kids2, mn2, mx2, mode2, n2, neg2⟩ := m'
        simp only [MRe.row] at hone
        dsimp only
        have HONE := Lib.hid hone
        clear ho5 ht5 hf5 hf5' hkk hrow hone hm0 c0 c1 c2 c3 c4 c5 c6 c7 HCALL hk5
        go_wp2_with (at_builtin; refine wpList_append_sl rfl (.tmp 21) (.tmp 24) 62 rfl 64 i0 _ 8 96 Tryz.underlying62 Hi.out Hz0.out Hz1.out Hz2.out rfl (by decide) a' k c' _ rfl ((HSLr.out.keep HK5.out (by simp)).alloc _) ⟨w5.heap.size, 0, none⟩ 1 1 [.int .i64 op2, .slice sa2 set2.length sc2, .slice ka2 kids2.length kc2, .int .i64 mn2, .int .i64 mx2, .int .i64 mode2, .int .i64 n2, .bool neg2] rfl rfl (news_row' _ _ _ _ rfl) HONE.out (by decide) (by omega) (by omega) ?hk)
        case hk =>
          intro g6 c6 w6 hsl6 hk6 hg6
          have kk6 : Keeps a'.toList wr w6 := ((HK5.out.alloc _).mono (by simp)).trans hk6
          have hwr : B + 1 < wr.heap.size := lt_of_block HRR.out
          have hal : ∀ y, a' = some y → y < wr.heap.size := fun y hy => by subst hy; exact HSLr.out.lt
          have hg7 : a' = some g6 ∨ w5.heap.size + 1 ≤ g6 := by
            rcases hg6 with h | h
            · exact .inl h
            · right; simpa using h
          have hel : ∀ x ∈ ks ++ [m0], x.OK w6 ∧ ∀ b ∈ x.blocks, B + 2 ≤ b ∧ some g6 ≠ some b := by
            intro x hx
            rcases List.mem_append.1 hx with hx | hx
            · obtain ⟨h1, h2⟩ := HKS.out x hx
              refine ⟨h1.keepS kk6 fun b hb h => (h2 b hb).2 (by simpa using h), fun b hb => ⟨(h2 b hb).1, fun h => ?_⟩⟩
              have h3 := h1.block_lt b hb
              rcases hg7 with h7 | h7
              · exact (h2 b hb).2 (by rw [h7, h])
              · cases h; omega
            · simp at hx
              subst hx
              rw [HM0.out]
              refine ⟨(HO5.out.keep (Keeps.a1 w5 _)).keepS hk6 fun b hb h => ?_, fun b hb => ?_⟩
              · have h3 := HF5.out b hb
                have h4 := hal b (by simpa using h)
                omega
              · have h3 := HF5.out b hb
                have h4 := HO5.out.block_lt b hb
                refine ⟨by omega, fun h => ?_⟩
                cases h
                rcases hg7 with h7 | h7
                · have := hal _ h7; omega
                · omega
          have hag6 : ∀ z, some g6 = some z → B + 2 ≤ z := by
            intro z hz
            cases hz
            rcases hg7 with h7 | h7
            · exact HAG.out _ h7
            · omega
          have hnB : B ∉ a'.toList := fun h => by have := HAG.out B (by simpa using h); omega
          have hnB1 : B + 1 ∉ a'.toList := fun h => by have := HAG.out (B + 1) (by simpa using h); omega
          have hb6 := kk6.heap HBR.out hnB
          have hr6 := kk6.heap HRR.out hnB1
          have hs6 := HSPR.out.keepS kk6 (fun b hb h => HSPB.out b hb (by simpa using h))
          have hsb6 : ∀ b ∈ blockIf set.length sa', some g6 ≠ some b := by
            intro b hb h
            rcases hg7 with h7 | h7
            · exact HSPB.out b hb (by rw [h7, h])
            · have := HSPR.out.block_lt b hb; cases h; omega
          have hkp6 : Keeps [] w w6 := HKP.out.after kk6 (by intro x hx; simp at hx; have := HAG.out x hx; exact .inr (by omega))
          have htr6 : MRe.trees (ks ++ [m0]) = (MRe.trees kids).take (k + 1) := by
            rw [trees_append, HTR.out, HNX.out]
            congr 1
            simp only [MRe.trees, HM0.out, HT5.out]
          have hsl7 : SliceAt w6 64 8 (some g6) (k + 1) c6 (flatK (ks ++ [m0])) := by
            rw [flatK_append]
            have : flatK [m0] = [.int .i64 op2, .slice sa2 set2.length sc2, .slice ka2 kids2.length kc2, .int .i64 mn2, .int .i64 mx2, .int .i64 mode2, .int .i64 n2, .bool neg2] := by rw [HM0.out]; rfl
            rw [this]
            exact hsl6
          have HEL := Lib.hid hel
          have HAG6 := Lib.hid hag6
          have HB6 := Lib.hid hb6
          have HR6 := Lib.hid hr6
          have HS6 := Lib.hid hs6
          have HSB6 := Lib.hid hsb6
          have HKP6 := Lib.hid hkp6
          have HTR6 := Lib.hid htr6
          have HSL7 := Lib.hid hsl7
          clear hel hag6 hb6 hr6 hs6 hsb6 hkp6 htr6 hsl7 hsl6 hk6 hg6 hg7 kk6 hal hwr hnB hnB1
          go_wp2
          go_roundw
          case rel => exact ⟨k + 1, some g6, c6, ks ++ [m0], by omega, by go_num, rfl, by rw [List.length_append, HKL.out]; rfl, HSL7.out, HTR6.out, HEL.out, HAG6.out, HB6.out, HR6.out, ⟨HS6.out, HSB6.out⟩, HKP6.out⟩
          case measure => simp [intOf]; omega
      · obtain rfl : k = kids.length := by omega
        clear hkp HI
        have e2 : wr.frozen? ⟨B, 2, none⟩ = false := by simp [World.frozen?, HBR.out]
        have e3 : wr.cell? ⟨B, 2, none⟩ = some (.slice ka kids.length kc) := by simp [World.cell?, HBR.out]
        simp only [sv]
        go_upto_region 9 with fail
        have kX : Keeps [B] wr (wr.setCell ⟨B, 2, none⟩ (.slice (a'.map fun g => ⟨g, 0, none⟩) kids.length c')) := (Keeps.refl _ _).setCell (.inl (by simp)) _
        have hbX : (wr.setCell ⟨B, 2, none⟩ (.slice (a'.map fun g => ⟨g, 0, none⟩) kids.length c')).heap[B]? = some (.cells #[.int .i64 op, .slice sa' set.length sc', .slice (a'.map fun g => ⟨g, 0, none⟩) kids.length c', .int .i64 mn, .int .i64 mx, .int .i64 mode, .int .i64 n, .bool neg] 64 (0, 0)) := heap_setCell_same wr B 2 _ 64 _ HBR.out
        have hrX := kX.heap HRR.out (by simp)
        have hkX : KidsIn (wr.setCell ⟨B, 2, none⟩ (.slice (a'.map fun g => ⟨g, 0, none⟩) kids.length c')) (a'.map fun g => ⟨g, 0, none⟩) c' ks :=
          ⟨(NodesIn.of_sl HSLr.out).keepS kX (fun b hb => by have := (Fresh.blockIf_map HAG.out) b hb; simp; omega), fun x hx => (HKS.out x hx).1.keepS kX (fun b hb => by have := ((HKS.out x hx).2 b hb).1; simp; omega)⟩
        have hsX := HSPR.out.keepS kX (fun b hb => by have := HFR.out b hb; simp; omega)
        have hkpX := HKP.out.after kX (by intro x hx; simp at hx; subst hx; exact .inr hBw)
        have HBX := Lib.hid hbX
        have HRX := Lib.hid hrX
        have HKX := Lib.hid hkX
        have HSX := Lib.hid hsX
        have HKPX := Lib.hid hkpX
        clear e2 e3 kX hbX hrX hkX hsX hkpX HBR HRR HSPR HKP
        generalize wr.setCell ⟨B, 2, none⟩ (.slice (a'.map fun g => ⟨g, 0, none⟩) kids.length c') = X at *
        have d0 : X.cell? ⟨B, 0, none⟩ = some (.int .i64 op) := by simp [World.cell?, HBX.out]
        have d1 : X.cell? ⟨B, 1, none⟩ = some (.slice sa' set.length sc') := by simp [World.cell?, HBX.out]
        have d2 : X.cell? ⟨B, 2, none⟩ = some (.slice (a'.map fun g => ⟨g, 0, none⟩) kids.length c') := by simp [World.cell?, HBX.out]
        have d3 : X.cell? ⟨B, 3, none⟩ = some (.int .i64 mn) := by simp [World.cell?, HBX.out]
        have d4 : X.cell? ⟨B, 4, none⟩ = some (.int .i64 mx) := by simp [World.cell?, HBX.out]
        have d5 : X.cell? ⟨B, 5, none⟩ = some (.int .i64 mode) := by simp [World.cell?, HBX.out]
        have d6 : X.cell? ⟨B, 6, none⟩ = some (.int .i64 n) := by simp [World.cell?, HBX.out]
        have d7 : X.cell? ⟨B, 7, none⟩ = some (.bool neg) := by simp [World.cell?, HBX.out]
        have HLTX := Lib.hid (lt_of_block HRX.out)
        by_cases hz : kids.length = 0
        · have hkz : kids = [] := List.eq_nil_of_length_eq_zero hz
          subst hkz
          have f2 : X.frozen? ⟨B, 2, none⟩ = false := by simp [World.frozen?, HBX.out]
          go_upto_region 11 with fail
          have hbZ : (X.setCell ⟨B, 2, none⟩ (.slice none 0 0)).heap[B]? = some (.cells #[.int .i64 op, .slice sa' set.length sc', .slice none 0 0, .int .i64 mn, .int .i64 mx, .int .i64 mode, .int .i64 n, .bool neg] 64 (0, 0)) := heap_setCell_same X B 2 _ 64 _ HBX.out
          have kZ : Keeps [B] X (X.setCell ⟨B, 2, none⟩ (.slice none 0 0)) := (Keeps.refl _ _).setCell (.inl (by simp)) _
          have hrZ := kZ.heap HRX.out (by simp)
          have hsZ := HSX.out.keepS kZ (fun b hb => by have := HFR.out b hb; simp; omega)
          have HKZ := Lib.hid (HKPX.out.after kZ (by intro x hx; simp at hx; subst hx; exact .inr hBw))
          have HBZ := Lib.hid hbZ
          have HRZ := Lib.hid hrZ
          have HSZ := Lib.hid hsZ
          clear d0 d1 d2 d3 d4 d5 d6 d7 f2 kZ hbZ hrZ hsZ HBX HRX HSX HKPX
          generalize X.setCell ⟨B, 2, none⟩ (.slice none 0 0) = Z at *
          go_wp2_with ((refine wpList_load_row rfl 64 (.tmp 1) rfl B rfl 64 #[.int .i64 op, .slice sa' set.length sc', .slice none 0 0, .int .i64 mn, .int .i64 mx, .int .i64 mode, .int .i64 n, .bool neg] (0, 0) _ HBZ.out Tryz.underlying64 rfl sizeRe (wpList_store_row rfl 64 (.tmp 2) (.tmp 33) rfl (B + 1) #[.int .i64 op, .slice sa' set.length sc', .slice none 0 0, .int .i64 mn, .int .i64 mx, .int .i64 mode, .int .i64 n, .bool neg] rfl rfl 64 _ HRZ.out sizeRe rfl (row8_one _ _ _ _ _ _ _ _ _ _ _ _) ?_)))
          have hR := setRow_heap Z (B + 1) _ #[.int .i64 op, .slice sa' set.length sc', .slice none 0 0, .int .i64 mn, .int .i64 mx, .int .i64 mode, .int .i64 n, .bool neg] 64 (0, 0) HRZ.out
          have kR : Keeps [B + 1] Z (Z.setRow (B + 1) #[.int .i64 op, .slice sa' set.length sc', .slice none 0 0, .int .i64 mn, .int .i64 mx, .int .i64 mode, .int .i64 n, .bool neg]) := (Keeps.refl _ _).setRow (.inl (by simp)) _
          refine bodyPost_ret (results_cell_row rfl _ _ (B + 1) 64 #[.int .i64 op, .slice sa' set.length sc', .slice none 0 0, .int .i64 mn, .int .i64 mx, .int .i64 mode, .int .i64 n, .bool neg] (0, 0) _ rfl hR Tryz.underlying64 rfl sizeRe) rfl ?_
          refine ⟨.node op sa' sc' set none 0 [] mn mx mode n neg, rfl, rfl, ?_, HKZ.out.after kR (by intro x hx; simp at hx; subst hx; exact .inr (by omega)), ?_⟩
          · exact .of (HSZ.out.keepS kR (fun b hb => by have := HFR.out b hb; simp; omega)) (KidsIn.nil _)
          · exact (HFR.out.mono (by omega)).append ((Fresh.nil _).append (Fresh.nil _))
        · go_wp2_with ((refine wpList_load_row rfl 64 (.tmp 1) rfl B rfl 64 #[.int .i64 op, .slice sa' set.length sc', .slice (a'.map fun g => ⟨g, 0, none⟩) kids.length c', .int .i64 mn, .int .i64 mx, .int .i64 mode, .int .i64 n, .bool neg] (0, 0) _ HBX.out Tryz.underlying64 rfl sizeRe (wpList_store_row rfl 64 (.tmp 2) (.tmp 33) rfl (B + 1) #[.int .i64 op, .slice sa' set.length sc', .slice (a'.map fun g => ⟨g, 0, none⟩) kids.length c', .int .i64 mn, .int .i64 mx, .int .i64 mode, .int .i64 n, .bool neg] rfl rfl 64 _ HRX.out sizeRe rfl (row8_one _ _ _ _ _ _ _ _ _ _ _ _) ?_)))
          have hR := setRow_heap X (B + 1) _ #[.int .i64 op, .slice sa' set.length sc', .slice (a'.map fun g => ⟨g, 0, none⟩) kids.length c', .int .i64 mn, .int .i64 mx, .int .i64 mode, .int .i64 n, .bool neg] 64 (0, 0) HRX.out
          have kR : Keeps [B + 1] X (X.setRow (B + 1) #[.int .i64 op, .slice sa' set.length sc', .slice (a'.map fun g => ⟨g, 0, none⟩) kids.length c', .int .i64 mn, .int .i64 mx, .int .i64 mode, .int .i64 n, .bool neg]) := (Keeps.refl _ _).setRow (.inl (by simp)) _
          have hfb := Fresh.blockIf_map (n := ks.length) HAG.out
          have hfk : Fresh (B + 2) (MRe.blocksL ks) := fun b hb => by
            obtain ⟨x, hx, hbx⟩ := MRe.blocksL_mem hb
            exact ((HKS.out x hx).2 b hbx).1
          refine bodyPost_ret (results_cell_row rfl _ _ (B + 1) 64 #[.int .i64 op, .slice sa' set.length sc', .slice (a'.map fun g => ⟨g, 0, none⟩) kids.length c', .int .i64 mn, .int .i64 mx, .int .i64 mode, .int .i64 n, .bool neg] (0, 0) _ rfl hR Tryz.underlying64 rfl sizeRe) rfl ?_
          refine ⟨.node op sa' sc' set (a'.map fun g => ⟨g, 0, none⟩) c' ks mn mx mode n neg, by simp only [HKL.out], ?_, ?_, HKPX.out.after kR (by intro x hx; simp at hx; subst hx; exact .inr (by omega)), ?_⟩
          · simp only [MRe.tree, HTR.out]
            rw [← MRe.trees_length, List.take_length]
          · exact .of (HSX.out.keepS kR (fun b hb => by have := HFR.out b hb; simp; omega)) (HKX.out.keepS kR (fun b hb => by have := (hfb.append hfk) b hb; simp; omega))
          · exact (HFR.out.mono (by omega)).append ((hfb.mono (by omega)).append (hfk.mono (by omega)))

end Go.Proofs.YtgdmkddegcecaaaGreat
