/- Part 41 of the proof. No condition: every lemma says its own. -/
import Derived.Test.YtphnbmdcgcchaaaDoorEbg
import Derived.Test.YtphnbmdcgcchaaaDoorEbf
import Derived.Test.YtphnbmdcgcchaaaDoorEbi
import Derived.Test.YtphnbmdcgcchaaaDoorEbk
import Derived.Test.YtphnbmdcgcchaaaDoorEbn
namespace Go.Proofs.YtphnbmdcgcchaaaDoor
open Go.RowKit Go.Sort Go.BigFrame
set_option maxRecDepth 100000
set_option maxHeartbeats 16000000
theorem deg_node {x : Gr} (ok : GrOK x) {rows : List Nat} (hr : WRows (Ere x.edges) x.nodes.length rows) (h : ∃ s ∈ partsX x rows, DoubleAt x.edges rows (lowN s)) :
  ∃ m, m < x.nodes.length ∧ DoubleAt x.edges rows m ∧ ∃ a, a < x.nodes.length ∧ x.first.getD a 0 ≠ 0 ∧ Way (Ere x.edges) a m := by
 have hlt : ∀ n, n < rows.length → rows.getD n 0 < 2 ^ 64 := fun n hn => by
  refine Nat.lt_pow_two_of_testBit _ fun k hk => ?_
  cases hb : (rows.getD n 0).testBit k with
  | false => rfl
  | true =>
   have hw := (hr.2 n (by rw [← hr.1]; exact hn) k).1 hb
   have hkN : k < x.nodes.length := by
    cases hw with
    | refl => rw [← hr.1]; exact hn
    | snoc _ he =>
     obtain ⟨e, he, _, h2⟩ := he
     have := (ok.ed e he).2.1
     omega
   have := ok.ln
   omega
 have hnr := nodes_reach hr.1 hr ok hlt
 obtain ⟨h1, h2, _⟩ := partsN_ok hr ok.ln 64 (reachN rows x.first rows.length) hnr.1 (cntB_le_k _ _) hnr.2
 obtain ⟨s, hs, hd⟩ := h
 obtain ⟨h3, h4⟩ := h1.nodes s hs
 obtain ⟨h5, h6⟩ := h3.low h4
 have h7 := h2 s hs (lowN s) h6
 obtain ⟨a, ha, hf, hb⟩ := (reachN_bit rows x.first rows.length (lowN s)).1 h7
 rw [hr.1] at ha
 exact ⟨lowN s, h5, hd, a, ha, hf, (hr.2 a ha (lowN s)).1 hb⟩
theorem loM {x : Gr} (h : SomeX x) {v : List Int} (hv : ∀ c ∈ v, 0 ≤ c ∧ c < x.cls.length) : ∀ s ∈ loW x.cls v, M64 s := by
 obtain ⟨a0, c0, a1, c1, hc⟩ := h.cls
 intro s hs
 obtain ⟨c, hcm, rfl⟩ := List.mem_map.1 hs
 have h1 := hv c hcm
 rw [hc] at h1 ⊢
 have h2 : c < 2 := h1.2
 rcases (by omega : c = 0 ∨ c = 1) with rfl | rfl
 ·show M64 97
  exact ⟨by decide, by decide⟩
 ·show M64 98
  exact ⟨by decide, by decide⟩
theorem repS_mem {t w : List Int} : ∀ {k : Nat} {s : Int}, s ∈ repS t w k → s ∈ t ∨ s ∈ w
 | 0, s, h => .inl h
 | k + 1, s, h => by
  rw [repS] at h
  rcases List.mem_append.1 h with h | h
  ·exact repS_mem h
  ·exact .inr h
theorem repS_len (t w : List Int) : ∀ k, (repS t w k).length = t.length + k * w.length
 | 0 => by simp [repS]
 | k + 1 => by rw [repS, List.length_append, repS_len t w k, Nat.succ_mul]; omega
def frB (l : List Int) : List Bool := l.map fun v => decide (0 < v)
theorem frB_get {l : List Int} {n : Nat} (h : knB (frB l) n = true) : 1 ≤ l.getD n 0 := by
 have hn := knB_lt h
 have hn2 : n < l.length := by simpa [frB] using hn
 simp only [knB, frB, List.getD_eq_getElem?_getD, List.getElem?_map, List.getElem?_eq_getElem hn2, Option.map_some, Option.getD_some, decide_eq_true_eq] at h
 rw [List.getD_eq_getElem?_getD, List.getElem?_eq_getElem hn2, Option.getD_some]
 omega
theorem frB_of {x : Gr} (ok : GrOK x) {a : Nat} (ha : a < x.nodes.length) (h : x.first.getD a 0 ≠ 0) : knB (frB x.first) a = true := by
 have hl : a < x.first.length := by rw [ok.lf]; exact ha
 have h1 := (ok.first (x.first[a]) (List.getElem_mem hl)).1
 rw [List.getD_eq_getElem?_getD, List.getElem?_eq_getElem hl, Option.getD_some] at h
 simp only [knB, frB, List.getD_eq_getElem?_getD, List.getElem?_map, List.getElem?_eq_getElem hl, Option.map_some, Option.getD_some, decide_eq_true_eq]
 omega
theorem WayPost.uni {x : Gr} {fr : List Bool} {to_ : Nat} {w w' : World} {e : Ending} (h : WayPost x fr to_ w e w') : Keeps [] w w' ∧ ∃ a c t ok, e = .returned (.tuple #[sv a t.length c, .bool ok]) ∧ SliceAt w' 3 1 a t.length c (t.map (Value.int .i64)) ∧ (∀ g, a = some g → w.heap.size ≤ g) ∧ t.length ≤ 10000000 ∧ (ok = true → TxOK x to_ t) ∧
  (ok = false → ∀ n, knB fr n = true → ¬ Way (Ere x.edges) n to_) := by
 obtain ⟨hk, h⟩ := h
 refine ⟨hk, ?_⟩
 rcases h with ⟨a, c, t, h1, h2, h3, h4, h5⟩ | ⟨h1, h2⟩
 ·exact ⟨a, c, t, true, h1, h2, h3, h4, fun _ => h5, fun h => by cases h⟩
 ·exact ⟨none, 0, [], false, h1, SliceAt.nil _ _ _, (fun g h => by cases h), by decide, (fun h => by cases h), fun _ => h2⟩
theorem WordPost.uni {w w' : World} {succ : Tri → Int → Tri → Prop} {s0 goal : Tri} {cls : List Cl} {e : Ending} (h : WordPost w succ s0 goal cls e w') : Keeps [] w w' ∧ ∃ word a c ok, e = .returned (.tuple #[sv a word.length c, .bool ok, .int .i64 0]) ∧ SliceAt w' 3 1 a word.length c ((word.map (loOf cls)).map (Value.int .i64)) ∧ (∀ g, a = some g → w.heap.size ≤ g) ∧ word.length ≤ 1000000 ∧
  (ok = true → Lead succ s0 word goal) ∧ (ok = false → ∀ v, ¬ Lead succ s0 v goal) := by
 obtain ⟨hk, word, a, c, ok, h1, h2, h3, h4⟩ := h
 refine ⟨hk, word, a, c, ok, h1, h2, h3, ?_⟩
 rcases h4 with ⟨rfl, h5, h6⟩ | ⟨rfl, rfl, h5⟩
 ·exact ⟨h6, fun _ => h5.1, fun h => by cases h⟩
 ·exact ⟨by decide, (fun h => by cases h), fun _ => h5⟩
theorem skip_ne {x : Gr} (ok : GrOK x) {rows rows' : List Nat} (h1 : WRows (Ere x.edges) x.nodes.length rows) (h2 : WRows (Ere x.edges) x.nodes.length rows') {m i : Nat} (hd : DoubleAt x.edges rows m) {a : Nat} (ha : a < x.nodes.length) (hf : x.first.getD a 0 ≠ 0) (hw : Way (Ere x.edges) a m) {b1 b2 : Bool}
  (h3 : b1 = false → ∀ n, knB (frB x.first) n = true → ¬ Way (Ere x.edges) n i) (h4 : b2 = false → ∀ v, ¬ Lead (DSucc x.edges (partN rows' (i : Int).toNat)) ((i : Int), (i : Int), 0) v ((i : Int), (i : Int), 1)) (hs : b1 = false ∨ b2 = false) : i ≠ m := by
 intro him
 subst him
 rcases hs with hs | hs
 ·exact h3 hs a (frB_of ok ha hf) hw
 ·obtain ⟨v, hv⟩ := hd
  rw [wrows_uniq h1 h2] at hv
  exact h4 hs v (by rw [Int.toNat_natCast]; exact hv)
set_option linter.unusedSimpArgs false in
theorem expo_walk (ao bo : Option Addr) (ac bc : Nat) (xs ys : List Int) (nn : Int) (w : World) (hx : IntsIn w ao xs) (hl : xs.length ≤ 9223372036854775807) (hb : ∀ x ∈ xs, I64 x) (hn : I64 nn) (hT : TabW w) :
  Calls Tryd.prog 3 #[.slice ao xs.length ac, .slice bo ys.length bc, .int .i64 nn] w fun e w' => e = .returned (.bool true) ∧ Keeps [] w w' := by
 have HSO := Lib.hid (some_any ao ac xs w hx hl hb)
 have HT := Lib.hid hT
 have HN := Lib.hid hn
 obtain ⟨ik, hk0, hk1, hk2, hk3⟩ := infoParts infoBl
 have HBI := Lib.hid (And.intro hk0 (And.intro hk1 (And.intro hk2 hk3)))
 obtain ⟨ii, hj0, hj1, hj2, hj3⟩ := infoParts infoInt
 have HJ := Lib.hid (And.intro hj0 (And.intro hj1 (And.intro hj2 hj3)))
 clear hx hl hb hn hT hk0 hk1 hk2 hk3 hj0 hj1 hj2 hj3
 go_enter Tryd.func3, Tryd.ntmps3
 go_wp2_with fail
 refine Calls.mono HSO.out ?_
 rintro e w1 ⟨hk1, x0, rfl, hx0, hs0⟩
 have HGRP := Lib.hid (graph_any x0 w1 hx0 (by obtain ⟨q, hq, hs⟩ := hs0.edges; have := hs.len; omega))
 have HK1 := Lib.hid hk1
 have HS0 := Lib.hid hs0
 clear hk1 hx0 hs0
 go_wp2_with fail
 refine Calls.mono HGRP.out ?_
 rintro e w2 ⟨hk2, y, rfl, hy2, hy3, hy4, hy5, hy6⟩
 have hsy : SomeX y := by
  have h := HS0.out
  exact ⟨by rw [hy4]; exact h.n1, by rw [hy5, hy4]; exact h.lf, by rw [hy5]; exact h.first, by rw [hy4, hy6]; exact h.edges, by rw [hy3]; exact h.cls⟩
 have HSY := Lib.hid hsy
 have HGV := Lib.hid hsy.gval
 have HOK := Lib.hid (gval_ok hsy.gval)
 have HY2 := Lib.hid hy2
 have HK2 := Lib.hid (HK1.out.trans hk2)
 simp only [Gr.val]
 clear hk2 hy2 hy3 hy4 hy5 hy6 hsy
 go_upto_region 2 with fail
 obtain ⟨X1, hX1⟩ : ∃ X1, X1 = w2.heap.size := ⟨_, rfl⟩
 obtain ⟨w3, hw3⟩ : ∃ w3, w3 = w2.alloc (.cells #[.slice y.ca y.cls.length y.cc, .slice y.na y.nodes.length y.nc, .slice y.fa y.first.length y.fc, .slice y.ea y.edges.length y.ec] 26) := ⟨_, rfl⟩
 have hk3 : Keeps [] w2 w3 := by rw [hw3]; exact Keeps.a1 _ _
 have hyr : w3.heap[X1]? = some (.cells y.row.toArray 26 (0, 0)) := by rw [hw3, hX1]; exact heap_alloc_new _ _
 have HYR := Lib.hid hyr
 have HY3 := Lib.hid (HY2.out.keep hk3)
 have HK3 := Lib.hid (HK2.out.trans hk3)
 obtain ⟨y0, y1, y2, y3⟩ := row_cells4 hyr
 have hdg := Degree_any y w3 HY3.out (HT.out.keep HK3.out (by simp))
 simp only [Gr.val] at hdg
 have HDG := Lib.hid hdg
 rw [← hw3, ← hX1]
 clear hw3 hX1 hk3 hyr hdg
 go_wp2_with fail
 refine Calls.mono HDG.out ?_
 rintro e w4 ⟨hk4, h4⟩
 rw [if_neg (by rw [HGV.out]; simp)] at h4
 obtain ⟨rows, hrows, h4⟩ := h4
 have HK4 := Lib.hid (HK3.out.trans hk4)
 have HY4 := Lib.hid (HY3.out.keep hk4)
 have HYR4 := Lib.hid (hk4.heap HYR.out (by simp))
 have y0 := hk4.cell y0 (by simp)
 have y1 := hk4.cell y1 (by simp)
 have y2 := hk4.cell y2 (by simp)
 have y3 := hk4.cell y3 (by simp)
 have HROWS := Lib.hid hrows
 clear hrows hk4
 rcases h4 with ⟨h4, rfl⟩ | ⟨_, L, D, _, rfl, _⟩
 ·have HND := Lib.hid (deg_node HOK.out HROWS.out h4)
  obtain ⟨fa, hfa⟩ : ∃ v, v = y.fa := ⟨_, rfl⟩
  have HFA := Lib.hid hfa
  have HFIN := Lib.hid (show IntsIn w4 fa y.first by rw [hfa]; exact HY4.out.first)
  have hfl : y.first.length ≤ 5 := by rw [HSY.out.lf]; exact HSY.out.n1.2
  simp only [← hfa] at y2 ⊢
  clear h4 hfa
  go_wp2
  go_loopw [10, 11] (fun v10 v11 wr => ∃ (i : Nat) (a : Option Nat) (c : Nat), v10 = .slice (a.map fun g => ⟨g, 0, none⟩) i c ∧ v11 = .int .i64 i ∧ i ≤ y.first.length ∧ SliceAt wr 4 1 a i c (((frB y.first).take i).map Value.bool) ∧ Keeps [] w4 wr ∧ ∀ g, a = some g → w4.heap.size ≤ g) (fun _ v11 _ => y.first.length - (intOf v11).toNat)
  case atStart => exact ⟨0, none, 0, rfl, rfl, Nat.zero_le _, SliceAt.nil _ _ _, Keeps.refl _ _, (fun g h => by cases h)⟩
  case round =>
   obtain ⟨i, a, c, rfl, rfl, hi, hsl, hkr, hag⟩ := hrel
   obtain ⟨wA, hwA⟩ : ∃ wA : World, wA = wr := ⟨_, rfl⟩
   subst hwA
   have HSL := Lib.hid hsl
   have HKR := Lib.hid hkr
   have HAG := Lib.hid hag
   have y0 := hkr.cell y0 (by simp)
   have y1 := hkr.cell y1 (by simp)
   have y2 := hkr.cell y2 (by simp)
   have y3 := hkr.cell y3 (by simp)
   by_cases hin : i < y.first.length
   ·obtain ⟨fb, foff, rfl, hfc⟩ := (HFIN.out.keep hkr) (by omega)
    have f0 := hfc i hin
    have htk : ((frB y.first).take (i + 1)).map Value.bool = ((frB y.first).take i).map Value.bool ++ [.bool (decide (0 < y.first.getD i 0))] := by
     have hl : i < (frB y.first).length := by simpa [frB] using hin
     rw [List.take_succ_eq_append_getElem hl, List.map_append]
     congr 2
     simp [frB, List.getD_eq_getElem?_getD, hin]
    obtain ⟨fv, hfv⟩ : ∃ fv, fv = y.first.getD i 0 := ⟨_, rfl⟩
    rw [← hfv] at f0 htk
    have HTK := Lib.hid htk
    obtain ⟨bv, hbv⟩ : ∃ bv, bv = decide (0 < fv) := ⟨_, rfl⟩
    rw [← hbv] at HTK
    have hbv2 : decide (0 < fv) = bv := hbv.symm
    clear hfc htk hsl hkr hag hfv hbv
    go_wp2_with (at_builtin; refine wpList_append_sl rfl (.tmp 43) (.tmp 50) 36 rfl 4 ik _ 1 1 Tryd.underlying36 HBI.out.1 HBI.out.2.1 HBI.out.2.2.1 HBI.out.2.2.2 rfl (by decide) a i c (((frB y.first).take i).map Value.bool) rfl (HSL.out.alloc _) ⟨wA.heap.size, 0, none⟩ 1 1 [.bool bv] rfl rfl (news_row' _ _ _ _ rfl) (by intro u hu; simp at hu; subst hu; rfl) (by decide) (by omega) (by omega) ?hk)
    case hk =>
     intro g c' w' hs' hk' hg'
     rw [← List.map_take, ← HTK.out] at hs'
     have HS' := Lib.hid hs'
     have HKN := Lib.hid ((HKR.out.alloc _).after hk' (by intro q hq; right; exact HAG.out q (by simpa using hq)))
     have hgs : w4.heap.size ≤ g := by
      rcases hg' with h | h
      ·exact HAG.out g h
      ·have := HKR.out.size
       omega
     have HGS := Lib.hid hgs
     clear hs' hk' hg' hgs
     go_wp2
     go_roundw
     ·exact ⟨i + 1, some g, c', rfl, rfl, by omega, HS'.out, HKN.out, fun q hq => by cases hq; exact HGS.out⟩
     ·simp only [intOf]
      omega
   ·have hie : i = y.first.length := by omega
    rw [List.take_of_length_le (by simp [frB]; omega)] at hsl
    have hbin := hsl.boolsIn (by simp [frB]; omega)
    have HK6 := Lib.hid (HK4.out.trans hkr)
    have HY6 := Lib.hid (HY4.out.keep hkr)
    have HT6 := Lib.hid (HT.out.keep HK6.out (by simp))
    have hfl2 : (frB y.first).length = i := by simp [frB]; omega
    have hiN : i = y.nodes.length := by rw [hie]; exact HSY.out.lf
    obtain ⟨a0, ha0⟩ : ∃ a0 : Option Addr, a0 = a.map fun g => ⟨g, 0, none⟩ := ⟨_, rfl⟩
    simp only [← ha0] at hbin ⊢
    have HBIN := Lib.hid hbin
    have HWAY := Lib.hid (fun (W : World) (hW : Keeps [] wA W) (to_ : Nat) (ht : to_ < y.nodes.length) => show Calls Tryd.prog 9 #[.agg #[.slice y.ca y.cls.length y.cc, .slice y.na y.nodes.length y.nc, .slice fa y.first.length y.fc, .slice y.ea y.edges.length y.ec], .slice a0 i c, .int .i64 to_] W (WayPost y (frB y.first) to_ W) from by
     have h := way_any y (frB y.first) a0 c to_ W (HY6.out.keep hW) HOK.out (HBIN.out.keep hW) (by rw [hfl2]; exact hiN) (fun n hn => frB_get hn) ht
     rw [hfl2] at h
     rw [HFA.out]
     exact h)
    have HDBL := Lib.hid (fun (W : World) (hW : Keeps [] wA W) (i : Nat) => show Calls Tryd.prog 10 #[.agg #[.slice y.ca y.cls.length y.cc, .slice y.na y.nodes.length y.nc, .slice fa y.first.length y.fc, .slice y.ea y.edges.length y.ec], .int .i64 i] W (DoublePost W y i) from by
     rw [HFA.out]
     exact Double_any search_ok y i W (HY6.out.keep hW))
    have HCNT := Lib.hid (fun (W : World) (hW : Keeps [] wA W) (text : List Int) (ta : Option Addr) (tc : Nat) (ht : IntsIn W ta text) (hI : ∀ s ∈ text, M64 s) (htl : text.length ≤ 1000000000000) => show Calls Tryd.prog 12 #[.agg #[.slice y.ca y.cls.length y.cc, .slice y.na y.nodes.length y.nc, .slice fa y.first.length y.fc, .slice y.ea y.edges.length y.ec], .slice ta text.length tc] W (fun e w' => e = .returned (.tuple #[.int .i64 (cntRes y text).1, .int .i64 (cntRes y text).2]) ∧ Keeps [] W w') from by
     rw [HFA.out]
     exact Count_any y text ta tc W (HY6.out.keep hW) ht hI htl)
    obtain ⟨m, hm1, hm2, am, ham, hfm, hwm⟩ := HND.out
    have HM := Lib.hid (And.intro hm2 (And.intro ham (And.intro hfm hwm)))
    obtain ⟨N, hN⟩ : ∃ N, N = y.nodes.length := ⟨_, rfl⟩
    have HN' := Lib.hid hN
    have hmN : m < N := by rw [hN]; exact hm1
    have hN5 : N ≤ 5 := by rw [hN]; exact HSY.out.n1.2
    rw [← hN] at y1
    have HYA := Lib.hid (And.intro y0 (And.intro y1 (And.intro y2 y3)))
    clear hm1 hm2 ham hfm hwm hsl hkr hag hbin hfl2 hiN ha0 hN HSL HKR HAG HFIN hfl hie hi
    go_wp2
    go_loopw [12, 13] (fun v12 v13 wr => ∃ (j : Nat) (b : Bool), v12 = .bool b ∧ v13 = .int .i64 j ∧ j ≤ N ∧ (m < j → b = true) ∧ Keeps [] wA wr) (fun _ v13 _ => N - (intOf v13).toNat)
    case atStart => exact ⟨0, false, rfl, rfl, Nat.zero_le _, (fun h => by omega), Keeps.refl _ _⟩
    case round =>
     obtain ⟨j, b, rfl, rfl, hj, hmb, hkr⟩ := hrel
     obtain ⟨wB, hwB⟩ : ∃ wB : World, wB = wr := ⟨_, rfl⟩
     subst hwB
     have HKR := Lib.hid hkr
     have HMB := Lib.hid hmb
     have y0 := hkr.cell y0 (by simp)
     have y1 := hkr.cell y1 (by simp)
     have y2 := hkr.cell y2 (by simp)
     have y3 := hkr.cell y3 (by simp)
     clear hkr hmb
     by_cases hin : j < N
     ·have HIN := Lib.hid (show j < y.nodes.length by rw [← HN'.out]; exact hin)
      simp only [HN'.out] at y1
      go_wp2_with fail
      refine Calls.mono (HWAY.out _ HKR.out j HIN.out) ?_
      rintro e w5 h5
      obtain ⟨hk5, a1, c1, t1, b1, rfl, hs1, hn1, hl1, ht1, hf1⟩ := h5.uni
      have HK5 := Lib.hid (HKR.out.trans hk5)
      have HS1 := Lib.hid hs1
      have HN1 := Lib.hid hn1
      have HT1 := Lib.hid ht1
      have HF1 := Lib.hid hf1
      have y0 := hk5.cell y0 (by simp)
      have y1 := hk5.cell y1 (by simp)
      have y2 := hk5.cell y2 (by simp)
      have y3 := hk5.cell y3 (by simp)
      clear h5 hk5 hs1 hn1 ht1 hf1
      go_wp2_with fail
      refine Calls.mono (HDBL.out _ HK5.out j) ?_
      rintro e w6 h6
      unfold DoublePost at h6
      rw [if_neg (by rw [HGV.out]; simp), if_neg (by have := HIN.out; omega)] at h6
      obtain ⟨rows', hr', h6⟩ := h6
      obtain ⟨hk6, wd, a2, c2, b2, rfl, hs2, hn2, hl2, ht2, hf2⟩ := h6.uni
      have HK6' := Lib.hid (HK5.out.trans hk6)
      have HSK := Lib.hid (fun (hs : b1 = false ∨ b2 = false) => skip_ne HOK.out HROWS.out hr' HM.out.1 HM.out.2.1 HM.out.2.2.1 HM.out.2.2.2 HF1.out hf2 hs)
      have HS2 := Lib.hid hs2
      have HN2 := Lib.hid hn2
      have HT2 := Lib.hid ht2
      have HS1' := Lib.hid (HS1.out.keep hk6 (fun q hq => by simp))
      have y0 := hk6.cell y0 (by simp)
      have y1 := hk6.cell y1 (by simp)
      have y2 := hk6.cell y2 (by simp)
      have y3 := hk6.cell y3 (by simp)
      have HA1 := Lib.hid (fun g (h : a1 = some g) => show g < w5.heap.size from by
       subst h
       exact HS1.out.lt)
      clear h6 hk6 hs2 hn2 ht2 hf2 hr'
      obtain rfl | rfl : b1 = true ∨ b1 = false := by cases b1 <;> simp
      ·obtain rfl | rfl : b2 = true ∨ b2 = false := by cases b2 <;> simp
       ·go_wp2_with fail
        refine Calls.mono (around_any nn 9 _ (by decide) HN.out) ?_
        rintro e w7 ⟨rfl, rfl⟩
        have hbd := aroundF_bd nn 9 (by decide)
        obtain ⟨k, hk⟩ : ∃ k : Nat, aroundF nn 9 = (k : Int) := ⟨(aroundF nn 9).toNat, by omega⟩
        rw [hk] at hbd ⊢
        have hk9 : k < 9 := by omega
        obtain ⟨lw, hlw⟩ : ∃ lw, lw = loW y.cls wd := ⟨_, rfl⟩
        have HLW := Lib.hid hlw
        have hlwl : lw.length = wd.length := by rw [hlw]; simp [loW]
        have HS2' := Lib.hid (show SliceAt w6 3 1 a2 lw.length c2 (lw.map (Value.int .i64)) by rw [hlwl, hlw]; exact HS2.out)
        have HA2 := Lib.hid (fun g (h : a2 = some g) => show g ∉ a1.toList ∧ g < w6.heap.size from ⟨fun hq => by
         have e1 := HA1.out g (by simpa using hq)
         have e2 := HN2.out g h
         omega, by subst h; exact HS2.out.lt⟩)
        rw [← hlwl] at hl2 ⊢
        clear hbd hk hlw hlwl
        go_wp2
        go_loopw [14, 20] (fun v14 v20 wr => ∃ (r : Nat) (a : Option Nat) (c : Nat), v14 = .slice (a.map fun g => ⟨g, 0, none⟩) (repS t1 lw r).length c ∧ v20 = .int .i64 r ∧ r ≤ k ∧ SliceAt wr 3 1 a (repS t1 lw r).length c ((repS t1 lw r).map (Value.int .i64)) ∧ Keeps a1.toList w6 wr ∧ (a = a1 ∨ ∃ g, a = some g ∧ w6.heap.size ≤ g)) (fun _ v20 _ => k - (intOf v20).toNat)
        case atStart => exact ⟨0, a1, c1, rfl, rfl, Nat.zero_le _, HS1'.out, Keeps.refl _ _, .inl rfl⟩
        case round =>
         obtain ⟨r, a3, c3, rfl, rfl, hr, hs3, hk3, hg3⟩ := hrel
         obtain ⟨wC, hwC⟩ : ∃ wC : World, wC = wr := ⟨_, rfl⟩
         subst hwC
         have HS3 := Lib.hid hs3
         have HK3' := Lib.hid hk3
         have HG3 := Lib.hid hg3
         have HLWC := Lib.hid (HS2'.out.keep hk3 (fun g h => (HA2.out g h).1))
         have HRL := Lib.hid (repS_len t1 lw)
         clear hs3 hk3 hg3
         have hrl : (repS t1 lw r).length ≤ 10000000 + 8 * 1000000 := by
          rw [HRL.out r]
          exact Nat.add_le_add hl1 (Nat.mul_le_mul (by omega) hl2)
         by_cases hrk : r < k
         ·go_wp2_with (at_builtin; refine wpList_append_any rfl (.tmp 88) (.tmp 89) 22 rfl 3 ii _ 1 8 Tryd.underlying22 HJ.out.1 HJ.out.2.1 HJ.out.2.2.1 HJ.out.2.2.2 rfl (by decide) a3 (repS t1 lw r).length c3 _ rfl HS3.out (a2.map fun g => ⟨g, 0, none⟩) lw.length c2 (lw.map (Value.int .i64)) rfl (by simp) (ints_src HLWC.out.to_in) (ints_cells lw) (by omega) (by omega) ?hk)
          case hk =>
           intro a4 c4 w8 hs4 hk4 hg4
           rw [← List.map_append] at hs4
           have HS4 := Lib.hid hs4
           have HG4 := Lib.hid (show a4 = a1 ∨ ∃ g, a4 = some g ∧ w6.heap.size ≤ g from by
            rcases hg4 with h | ⟨g, h1, h2⟩
            ·rw [h]
             exact HG3.out
            ·have := HK3'.out.size
             exact .inr ⟨g, h1, by omega⟩)
           have HK8 := Lib.hid (HK3'.out.after hk4 (fun q hq => by
            have hq' : a3 = some q := by simpa using hq
            rcases HG3.out with h | ⟨g, h1, h2⟩
            ·rw [h] at hq
             exact .inl hq
            ·rw [h1] at hq'
             cases hq'
             exact .inr h2))
           clear hs4 hk4 hg4
           go_wp2
           go_roundw
           ·refine ⟨r + 1, a4, c4, ?_, rfl, by omega, ?_, HK8.out, HG4.out⟩
            ·rw [repS, List.length_append]
             rfl
            ·rw [repS, List.length_append]
             exact HS4.out
           ·simp only [intOf]
            omega
         ·have hrk2 : r = k := by omega
          subst hrk2
          have HT2' := Lib.hid (exp_ge HOK.out HSY.out.lo HIN.out (HT1.out trivial) (by have h := HT2.out trivial; exact h) (lead_cls HOK.out (HT2.out trivial)) r)
          rw [← HLW.out] at HT2'
          obtain ⟨T, hT'⟩ : ∃ T, T = repS t1 lw r := ⟨_, rfl⟩
          have hmT : ∀ s ∈ T, M64 s := by
           intro s hs
           rw [hT'] at hs
           rcases repS_mem hs with h | h
           ·obtain ⟨n0, v, _, _, _, hv, he⟩ := HT1.out trivial
            rw [he] at h
            exact loM HSY.out hv s h
           ·rw [HLW.out] at h
            exact loM HSY.out (lead_cls HOK.out (HT2.out trivial)) s h
          rw [← hT'] at hrl HS3 HT2'
          have hres : (cntRes y T).2 = 4 ∨ ((cntRes y T).2 = 0 ∧ ((2 ^ r : Nat) : Int) ≤ (cntRes y T).1) := by
           unfold cntRes
           rw [if_neg (by rw [HGV.out]; simp)]
           split
           ·exact .inl rfl
           ·exact HT2'.out
          have hkW : Keeps [] wA wC := HK6'.out.after HK3'.out (fun q hq => by
           have e1 := HN1.out q (by simpa using hq)
           have e2 := HKR.out.size
           right
           omega)
          have HKW := Lib.hid hkW
          have HC := Lib.hid (HCNT.out wC hkW T _ c3 HS3.out.to_in hmT (by omega))
          have HRES := Lib.hid hres
          have y0 := hkW.cell HYA.out.1 (by simp)
          have y1 := hkW.cell HYA.out.2.1 (by simp)
          have y2 := hkW.cell HYA.out.2.2.1 (by simp)
          have y3 := hkW.cell HYA.out.2.2.2 (by simp)
          simp only [HN'.out] at y1
          rw [← hT']
          clear hT' hmT hres hkW
          go_wp2_with fail
          refine Calls.mono HC.out ?_
          rintro e w9 ⟨rfl, hk9'⟩
          have HK9 := Lib.hid (HKW.out.trans hk9')
          clear hk9'
          obtain ⟨p, hp⟩ : ∃ p, p = cntRes y T := ⟨_, rfl⟩
          obtain ⟨p1, p2⟩ := p
          have hres := HRES.out
          rw [← hp] at hres ⊢
          clear hp
          simp only at hres ⊢
          rcases hres with rfl | ⟨rfl, hge⟩
          ·go_wp2
           refine ⟨⟨j + 1, true, rfl, rfl, by omega, fun _ => rfl, HK9.out⟩, ?_⟩
           simp only [intOf]
           omega
          ·obtain rfl | rfl | rfl | rfl | rfl | rfl | rfl | rfl | rfl : r = 0 ∨ r = 1 ∨ r = 2 ∨ r = 3 ∨ r = 4 ∨ r = 5 ∨ r = 6 ∨ r = 7 ∨ r = 8 := by omega
           ·have hg : (1 : Int) ≤ p1 := hge
            clear hge
            go_wp2
            refine ⟨⟨j + 1, true, rfl, rfl, by omega, fun _ => rfl, HK9.out⟩, ?_⟩
            simp only [intOf]
            omega
           ·have hg : (2 : Int) ≤ p1 := hge
            clear hge
            go_wp2
            refine ⟨⟨j + 1, true, rfl, rfl, by omega, fun _ => rfl, HK9.out⟩, ?_⟩
            simp only [intOf]
            omega
           ·have hg : (4 : Int) ≤ p1 := hge
            clear hge
            go_wp2
            refine ⟨⟨j + 1, true, rfl, rfl, by omega, fun _ => rfl, HK9.out⟩, ?_⟩
            simp only [intOf]
            omega
           ·have hg : (8 : Int) ≤ p1 := hge
            clear hge
            go_wp2
            refine ⟨⟨j + 1, true, rfl, rfl, by omega, fun _ => rfl, HK9.out⟩, ?_⟩
            simp only [intOf]
            omega
           ·have hg : (16 : Int) ≤ p1 := hge
            clear hge
            go_wp2
            refine ⟨⟨j + 1, true, rfl, rfl, by omega, fun _ => rfl, HK9.out⟩, ?_⟩
            simp only [intOf]
            omega
           ·have hg : (32 : Int) ≤ p1 := hge
            clear hge
            go_wp2
            refine ⟨⟨j + 1, true, rfl, rfl, by omega, fun _ => rfl, HK9.out⟩, ?_⟩
            simp only [intOf]
            omega
           ·have hg : (64 : Int) ≤ p1 := hge
            clear hge
            go_wp2
            refine ⟨⟨j + 1, true, rfl, rfl, by omega, fun _ => rfl, HK9.out⟩, ?_⟩
            simp only [intOf]
            omega
           ·have hg : (128 : Int) ≤ p1 := hge
            clear hge
            go_wp2
            refine ⟨⟨j + 1, true, rfl, rfl, by omega, fun _ => rfl, HK9.out⟩, ?_⟩
            simp only [intOf]
            omega
           ·have hg : (256 : Int) ≤ p1 := hge
            clear hge
            go_wp2
            refine ⟨⟨j + 1, true, rfl, rfl, by omega, fun _ => rfl, HK9.out⟩, ?_⟩
            simp only [intOf]
            omega
       ·go_wp2
        go_roundw
        ·refine ⟨j + 1, b, rfl, rfl, by omega, fun h => ?_, HK6'.out⟩
         have := HSK.out (.inr trivial)
         exact HMB.out (by omega)
        ·simp only [intOf]
         omega
      ·go_wp2
       go_roundw
       ·refine ⟨j + 1, b, rfl, rfl, by omega, fun h => ?_, HK6'.out⟩
        have := HSK.out (.inl trivial)
        exact HMB.out (by omega)
       ·simp only [intOf]
        omega
     ·have hjN : j = N := by omega
      have hbt := HMB.out (by omega)
      subst hbt
      have HLV := Lib.hid (lives_any wB (HT6.out.keep HKR.out (by simp)))
      have HKB := Lib.hid (HK6.out.trans HKR.out)
      go_wp2_with fail
      refine Calls.mono HLV.out ?_
      rintro e w5 ⟨rfl, hk5⟩
      have HK5 := Lib.hid (HKB.out.trans hk5)
      clear hk5
      go_wp2
      go_ret
      exact ⟨rfl, HK5.out⟩
 ·have HLV := Lib.hid (lives_any w4 (HT.out.keep HK4.out (by simp)))
  have hDne : ((D : Int) != -1) = true := by simp
  clear y0 y1 y2 y3
  go_wp2_with fail
  refine Calls.mono HLV.out ?_
  rintro e w5 ⟨rfl, hk5⟩
  have HK5 := Lib.hid (HK4.out.trans hk5)
  clear hk5
  go_wp2
  go_ret
  exact ⟨rfl, HK5.out⟩
end Go.Proofs.YtphnbmdcgcchaaaDoor
