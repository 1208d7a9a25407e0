/- Part 43 of the proof. No condition: every lemma says its own. -/
import Derived.Test.YtphnbmdcgcchaaaDoorEbp
import Derived.Test.YtphnbmdcgcchaaaDoorEbk
import Derived.Test.YtphnbmdcgcchaaaDoorEbo
namespace Go.Proofs.YtphnbmdcgcchaaaDoor
open Go.RowKit Go.Sort Go.BigFrame
set_option maxRecDepth 100000
set_option maxHeartbeats 16000000
def Rea (x : Gr) (a : Nat) : Prop := ∃ a0, a0 < x.nodes.length ∧ x.first.getD a0 0 ≠ 0 ∧ Way (Ere x.edges) a0 a
def Fnd (x : Gr) (rows : List Nat) (a b : Nat) : Prop := a ≠ b ∧ Rea x a ∧ BridgeAt x.edges rows a b
theorem way_lt {x : Gr} (ok : GrOK x) {n m : Nat} (hn : n < x.nodes.length) (h : Way (Ere x.edges) n m) : m < x.nodes.length := by
 cases h with
 | refl => exact hn
 | snoc _ he =>
  obtain ⟨e, he, _, h2⟩ := he
  have := (ok.ed e he).2.1
  omega
theorem wrows_lt {x : Gr} (ok : GrOK x) {rows : List Nat} (hr : WRows (Ere x.edges) x.nodes.length rows) : ∀ n, n < rows.length → rows.getD n 0 < 2 ^ 64 := fun n hn => by
 refine Nat.lt_pow_two_of_testBit _ fun k hk => ?_
 cases hb : (rows.getD n 0).testBit k with
 | false => rfl
 | true =>
  have := way_lt ok (by rw [← hr.1]; exact hn) ((hr.2 n (by rw [← hr.1]; exact hn) k).1 hb)
  have := ok.ln
  omega
theorem fnd_apart {x : Gr} (ok : GrOK x) {rows : List Nat} (hr : WRows (Ere x.edges) x.nodes.length rows) (hno : ∀ s ∈ partsX x rows, ¬ DoubleAt x.edges rows (lowN s)) {a b : Nat} (h : Fnd x rows a b) (ha : a < x.nodes.length) : b < x.nodes.length ∧ Rea x b ∧ Way (Ere x.edges) a b ∧ ¬ Way (Ere x.edges) b a := by
 obtain ⟨hab, ⟨a0, h1, h2, h3⟩, v, hv⟩ := h
 have hw := bridge_ways ok hv
 have hwab := ways_way ok ha v b hw.2.1
 refine ⟨way_lt ok ha hwab, ⟨a0, h1, h2, h3.trans hwab⟩, hwab, fun hba => ?_⟩
 obtain ⟨w, h4⟩ := bridge_double ok hab hw hba
 have := (reach_one ok hr hno h1 h2 h3 ha).2 w
 omega
theorem deg_bridge {x : Gr} (ok : GrOK x) {rows : List Nat} (hr : WRows (Ere x.edges) x.nodes.length rows) (hno : ∀ s ∈ partsX x rows, ¬ DoubleAt x.edges rows (lowN s)) {L : Nat → Nat} {D : Nat} (hL : IsL (partsX x rows).length (rchP rows (partsX x rows)) (ldP x.edges rows (partsX x rows)) L)
  (hle : ∀ i, i < (partsX x rows).length → L i ≤ D) (hD : D = 0 ∨ ∃ i, i < (partsX x rows).length ∧ D = L i) : 0 < D ↔ ∃ a b, a < x.nodes.length ∧ b < x.nodes.length ∧ Fnd x rows a b := by
 have hnr := nodes_reach hr.1 hr ok (wrows_lt ok hr)
 obtain ⟨p1, p2, p3⟩ := partsN_ok hr ok.ln 64 (reachN rows x.first rows.length) hnr.1 (cntB_le_k _ _) hnr.2
 have hmem : ∀ i, i < (partsX x rows).length → (partsX x rows).getD i 0 ∈ partsX x rows := fun i hi => by
  rw [List.getD_eq_getElem?_getD, List.getElem?_eq_getElem hi]
  exact List.getElem_mem hi
 constructor
 ·intro h0
  rcases hD with rfl | ⟨i, hi, rfl⟩
  ·omega
  ·rcases hL.at_ i hi with h1 | ⟨k, j, hk, hj, _, ⟨hkj, _, a, b, ha, hb, hbr⟩, _⟩
   ·omega
   ·have na := (p1.nodes _ (hmem k hk)).1.2 a ha
    have nb := (p1.nodes _ (hmem j hj)).1.2 b hb
    refine ⟨a, b, na, nb, fun e => ?_, ?_, hbr⟩
    ·subst e
     exact p1.apart k j hk hj hkj a ha hb
    ·obtain ⟨a0, h1, h2, h3⟩ := (reachN_bit rows x.first rows.length a).1 (p2 _ (hmem k hk) a ha)
     rw [hr.1] at h1
     exact ⟨a0, h1, h2, (hr.2 a0 h1 a).1 h3⟩
 ·rintro ⟨a, b, ha, hb, hf⟩
  obtain ⟨_, hrb, hwab, hnba⟩ := fnd_apart ok hr hno hf ha
  obtain ⟨_, ⟨a0, h1, h2, h3⟩, hbr⟩ := hf
  obtain ⟨b0, k1, k2, k3⟩ := hrb
  obtain ⟨⟨s, hs, hsa⟩, _⟩ := reach_one ok hr hno h1 h2 h3 ha
  obtain ⟨⟨t, ht, htb⟩, _⟩ := reach_one ok hr hno k1 k2 k3 hb
  obtain ⟨k, hk, rfl⟩ := List.getElem_of_mem hs
  obtain ⟨j, hj, rfl⟩ := List.getElem_of_mem ht
  have ek : (partsX x rows).getD k 0 = (partsX x rows)[k] := by rw [List.getD_eq_getElem?_getD, List.getElem?_eq_getElem hk]; rfl
  have ej : (partsX x rows).getD j 0 = (partsX x rows)[j] := by rw [List.getD_eq_getElem?_getD, List.getElem?_eq_getElem hj]; rfl
  obtain ⟨q1, q2⟩ := p1.nodes _ hs
  obtain ⟨q3, q4⟩ := q1.low q2
  obtain ⟨r1, r2⟩ := p1.nodes _ ht
  obtain ⟨r3, r4⟩ := r1.low r2
  have hsa' := hsa
  have htb' := htb
  have es : (partsX x rows)[k] = _ := p1.eq _ hs
  have et : (partsX x rows)[j] = _ := p1.eq _ ht
  rw [es, partN_bit] at hsa'
  rw [et, partN_bit] at htb'
  have wla := (hr.2 _ q3 _).1 hsa'.1
  have wal := (hr.2 _ ha _).1 hsa'.2.2
  have wlb := (hr.2 _ r3 _).1 htb'.1
  have wbl := (hr.2 _ hb _).1 htb'.2.2
  have hkj : k ≠ j := by
   intro e
   subst e
   exact hnba (wbl.trans wla)
  have hld : ldP x.edges rows (partsX x rows) k j := ⟨hkj, by rw [ek, ej]; exact (hr.2 _ q3 _).2 ((wla.trans hwab).trans wbl), a, b, by rw [ek]; exact hsa, by rw [ej]; exact htb, hbr⟩
  have hrc : rchP rows (partsX x rows) k k := by
   show (rows.getD (lowN ((partsX x rows).getD k 0)) 0).testBit (lowN ((partsX x rows).getD k 0)) = true
   rw [ek]
   exact (hr.2 _ q3 _).2 (.refl _)
  have := hL.ge k k j hk hk hj hrc hld
  have := hle k hk
  omega
theorem pol_ge {x : Gr} (ok : GrOK x) (hlo : LoOK x.cls) {p0 p1 p2 a b : Nat} (ha : a < x.nodes.length) (hb : b < x.nodes.length) (hab : a ≠ b) {t w : List Int} (ht : TxOK x a t) (hw : Lead (BSucc x.edges p0 p1 p2) ((a : Int), (a : Int), (b : Int)) w ((a : Int), (b : Int), (b : Int))) (k : Nat) :
  (countV x (repS t (loW x.cls w) k)).2 = 4 ∨ ((countV x (repS t (loW x.cls w) k)).2 = 0 ∧ (k : Int) ≤ (countV x (repS t (loW x.cls w) k)).1) := by
 obtain ⟨n0, v, h1, h2, h3, h4, rfl⟩ := ht
 have hwc := leadB_cls ok hw
 obtain ⟨b1, b2, b3⟩ := bridge_ways ok hw
 have e1 : (repS (loW x.cls v) (loW x.cls w) k).map (clsOf x.cls) = v ++ rep w k := by
  rw [repS_eq, List.map_append, rep_map, loW_cls hlo h4, loW_cls hlo hwc]
 rcases Nat.eq_zero_or_pos k with rfl | hk
 ·have h5 := count_ge ok h1 ha h2 (repS (loW x.cls v) (loW x.cls w) 0) (k := 1) (by
   rw [e1, rep, List.append_nil]
   exact h3) (Nat.le_refl 1)
  rcases h5 with h5 | ⟨h5, h6⟩
  ·exact .inl h5
  ·exact .inr ⟨h5, by omega⟩
 ·refine count_ge ok h1 hb h2 _ (k := k) ?_ hk
  rw [e1]
  have h5 := bridge_rep hab b1 b2 b3 k
  have h6 := ways_trans (edNs x.edges) n0 a v (rep w k) b
  have h7 := Nat.mul_le_mul h3 h5
  omega
theorem pol_res {x : Gr} (sx : SomeX x) (ok : GrOK x) {rows : List Nat} (hr : WRows (Ere x.edges) x.nodes.length rows) (hno : ∀ s ∈ partsX x rows, ¬ DoubleAt x.edges rows (lowN s)) {a b : Nat} (ha : a < x.nodes.length) (hb : b < x.nodes.length) (hab : a ≠ b) {t w : List Int} (ht : TxOK x a t) (htl : t.length ≤ x.nodes.length)
  (hw : Least (BSucc x.edges (partN rows a) (midN rows a b) (partN rows b)) ((a : Int), (a : Int), (b : Int)) w ((a : Int), (b : Int), (b : Int))) {k : Nat} (hk : k < 12) :
  (cntRes x (repS t (loW x.cls w) k)).2 = 0 ∧ (k : Int) ≤ (cntRes x (repS t (loW x.cls w) k)).1 := by
 have hN := sx.n1.2
 have hrea : Rea x a := by
  obtain ⟨n0, v, h1, h2, h3, _⟩ := ht
  exact ⟨n0, h1, by omega, ways_way ok h1 v a h3⟩
 have hf : Fnd x rows a b := ⟨hab, hrea, w, hw.1⟩
 obtain ⟨_, _, hwab, hnba⟩ := fnd_apart ok hr hno hf ha
 have hlen : w.length ≤ 29 := bridge_short ok hN hw ha hb ((partN_bit _ _ _).2 ⟨(hr.2 _ ha _).2 (.refl _), by rw [hr.1]; exact ha, (hr.2 _ ha _).2 (.refl _)⟩) ((partN_bit _ _ _).2 ⟨(hr.2 _ hb _).2 (.refl _), by rw [hr.1]; exact hb, (hr.2 _ hb _).2 (.refl _)⟩) (fun i h1 h2 => by
  rw [partN_bit] at h1 h2
  have hi : i < x.nodes.length := by rw [← hr.1]; exact h1.2.1
  exact hnba (((hr.2 _ hb _).1 h2.1).trans ((hr.2 _ hi _).1 h1.2.2)))
 have htot : (repS t (loW x.cls w) k).length ≤ 330 := by
  rw [repS_eq, List.length_append]
  have e1 : ∀ k, (rep (loW x.cls w) k).length = k * w.length := fun k => by
   induction k with
   | zero => simp [rep]
   | succ k ih => rw [rep, List.length_append, ih, Nat.succ_mul]; simp [loW]
  rw [e1]
  have := Nat.mul_le_mul (show k ≤ 11 by omega) hlen
  omega
 have h1 := count_ok sx ok hr hno htot
 have h2 := pol_ge ok sx.lo ha hb hab ht hw.1 k
 unfold cntRes
 rw [if_neg (by rw [sx.gval]; simp), if_neg (by omega)]
 rcases h2 with h2 | h2
 ·exfalso
  unfold countV at h2
  rw [if_neg (by omega)] at h2
  exact absurd h2 (by simp)
 ·exact h2
theorem WayPost.uni2 {x : Gr} {fr : List Bool} {to_ : Nat} {w w' : World} {e : Ending} (h : WayPost x fr to_ w e w') : Keeps [] w w' ∧ ∃ a c t ok, e = .returned (.tuple #[sv a t.length c, .bool ok]) ∧ SliceAt w' 3 1 a t.length c (t.map (Value.int .i64)) ∧ (∀ g, a = some g → w.heap.size ≤ g) ∧ t.length ≤ x.nodes.length ∧ (ok = true → TxOK x to_ t) ∧
  (ok = false → ∀ n, knB fr n = true → ¬ Way (Ere x.edges) n to_) := by
 obtain ⟨hk, h⟩ := h
 refine ⟨hk, ?_⟩
 rcases h with ⟨a, c, t, h1, h2, h3, _, h4, h5⟩ | ⟨h1, h2⟩
 ·exact ⟨a, c, t, true, h1, h2, h3, h4, fun _ => h5, fun h => by cases h⟩
 ·exact ⟨none, 0, [], false, h1, SliceAt.nil _ _ _, (fun g h => by cases h), Nat.zero_le _, (fun h => by cases h), fun _ => h2⟩
theorem WordPost.uni2 {w w' : World} {succ : Tri → Int → Tri → Prop} {s0 goal : Tri} {cls : List Cl} {e : Ending} (h : WordPost w succ s0 goal cls e w') : Keeps [] w w' ∧ ∃ word a c ok, e = .returned (.tuple #[sv a word.length c, .bool ok, .int .i64 0]) ∧ SliceAt w' 3 1 a word.length c ((word.map (loOf cls)).map (Value.int .i64)) ∧ (∀ g, a = some g → w.heap.size ≤ g) ∧ word.length ≤ 1000000 ∧
  (ok = true → Least succ s0 word goal) ∧ (ok = false → ∀ v, ¬ Lead succ s0 v goal) := by
 obtain ⟨hk, word, a, c, ok, h1, h2, h3, h4⟩ := h
 refine ⟨hk, word, a, c, ok, h1, h2, h3, ?_⟩
 rcases h4 with ⟨rfl, h5, h6⟩ | ⟨rfl, rfl, h5⟩
 ·exact ⟨h6, fun _ => h5, fun h => by cases h⟩
 ·exact ⟨by decide, (fun h => by cases h), fun _ => h5⟩
theorem rea_of {x : Gr} (ok : GrOK x) {a : Nat} {t : List Int} (h : TxOK x a t) : Rea x a := by
 obtain ⟨n0, v, h1, h2, h3, _⟩ := h
 exact ⟨n0, h1, by omega, ways_way ok h1 v a h3⟩
theorem rea_not {x : Gr} (ok : GrOK x) {a : Nat} (h : ∀ n, knB (frB x.first) n = true → ¬ Way (Ere x.edges) n a) : ¬ Rea x a := fun ⟨a0, h1, h2, h3⟩ => h a0 (frB_of ok h1 h2) h3
set_option linter.unusedSimpArgs false in
theorem pol_walk (ao bo : Option Addr) (ac bc : Nat) (xs ys : List Int) (nn : Int) (w : World) (hx : IntsIn w ao xs) (hl : xs.length ≤ 9223372036854775807) (hb : ∀ x ∈ xs, I64 x) (hn : I64 nn) (hT : TabW w) :
  Calls Tryd.prog 4 #[.slice ao xs.length ac, .slice bo ys.length bc, .int .i64 nn] w fun e w' => e = .returned (.bool true) ∧ Keeps [] w w' := by
 have HSO := Lib.hid (some_any ao ac xs w hx hl hb)
 have HT := Lib.hid hT
 have HN := Lib.hid hn
 obtain ⟨ik, hk0, hk1, hk2, hk3⟩ := infoParts infoBl
 have HBI := Lib.hid (And.intro hk0 (And.intro hk1 (And.intro hk2 hk3)))
 obtain ⟨ii, hj0, hj1, hj2, hj3⟩ := infoParts infoInt
 have HJ := Lib.hid (And.intro hj0 (And.intro hj1 (And.intro hj2 hj3)))
 clear hx hl hb hn hT hk0 hk1 hk2 hk3 hj0 hj1 hj2 hj3
 go_enter Tryd.func4, Tryd.ntmps4
 go_wp2_with fail
 refine Calls.mono HSO.out ?_
 rintro e w1 ⟨hk1, x0, rfl, hx0, hs0⟩
 have HGRP := Lib.hid (graph_any x0 w1 hx0 (by obtain ⟨q, hq, hs⟩ := hs0.edges; have := hs.len; omega))
 have HK1 := Lib.hid hk1
 have HS0 := Lib.hid hs0
 clear hk1 hx0 hs0
 go_wp2_with fail
 refine Calls.mono HGRP.out ?_
 rintro e w2 ⟨hk2, y, rfl, hy2, hy3, hy4, hy5, hy6⟩
 have hsy : SomeX y := by
  have h := HS0.out
  exact ⟨by rw [hy4]; exact h.n1, by rw [hy5, hy4]; exact h.lf, by rw [hy5]; exact h.first, by rw [hy4, hy6]; exact h.edges, by rw [hy3]; exact h.cls⟩
 have HSY := Lib.hid hsy
 have HGV := Lib.hid hsy.gval
 have HOK := Lib.hid (gval_ok hsy.gval)
 have HY2 := Lib.hid hy2
 have HK2 := Lib.hid (HK1.out.trans hk2)
 simp only [Gr.val]
 clear hk2 hy2 hy3 hy4 hy5 hy6 hsy
 go_upto_region 2 with fail
 obtain ⟨X1, hX1⟩ : ∃ X1, X1 = w2.heap.size := ⟨_, rfl⟩
 obtain ⟨w3, hw3⟩ : ∃ w3, w3 = w2.alloc (.cells #[.slice y.ca y.cls.length y.cc, .slice y.na y.nodes.length y.nc, .slice y.fa y.first.length y.fc, .slice y.ea y.edges.length y.ec] 26) := ⟨_, rfl⟩
 have hk3 : Keeps [] w2 w3 := by rw [hw3]; exact Keeps.a1 _ _
 have hyr : w3.heap[X1]? = some (.cells y.row.toArray 26 (0, 0)) := by rw [hw3, hX1]; exact heap_alloc_new _ _
 have HYR := Lib.hid hyr
 have HY3 := Lib.hid (HY2.out.keep hk3)
 have HK3 := Lib.hid (HK2.out.trans hk3)
 obtain ⟨y0, y1, y2, y3⟩ := row_cells4 hyr
 have hdg := Degree_any y w3 HY3.out (HT.out.keep HK3.out (by simp))
 simp only [Gr.val] at hdg
 have HDG := Lib.hid hdg
 rw [← hw3, ← hX1]
 clear hw3 hX1 hk3 hyr hdg
 go_wp2_with fail
 refine Calls.mono HDG.out ?_
 rintro e w4 ⟨hk4, h4⟩
 rw [if_neg (by rw [HGV.out]; simp)] at h4
 obtain ⟨rows, hrows, h4⟩ := h4
 have HK4 := Lib.hid (HK3.out.trans hk4)
 have HY4 := Lib.hid (HY3.out.keep hk4)
 have HYR4 := Lib.hid (hk4.heap HYR.out (by simp))
 have y0 := hk4.cell y0 (by simp)
 have y1 := hk4.cell y1 (by simp)
 have y2 := hk4.cell y2 (by simp)
 have y3 := hk4.cell y3 (by simp)
 have HROWS := Lib.hid hrows
 clear hrows hk4
 rcases h4 with ⟨_, rfl⟩ | ⟨hno, L, D, hisl, rfl, hle, hD⟩
 ·have HLV := Lib.hid (lives_any w4 (HT.out.keep HK4.out (by simp)))
  clear y0 y1 y2 y3
  go_wp2_with fail
  refine Calls.mono HLV.out ?_
  rintro e w5 ⟨rfl, hk5⟩
  have HK5 := Lib.hid (HK4.out.trans hk5)
  clear hk5
  go_wp2
  go_ret
  exact ⟨rfl, HK5.out⟩
 ·have HDB := Lib.hid (deg_bridge HOK.out HROWS.out hno hisl hle hD)
  have HNO := Lib.hid hno
  have hDne : ((D : Int) == -1) = false := by simp
  obtain ⟨fa, hfa⟩ : ∃ v, v = y.fa := ⟨_, rfl⟩
  have HFA := Lib.hid hfa
  have HFIN := Lib.hid (show IntsIn w4 fa y.first by rw [hfa]; exact HY4.out.first)
  have hfl : y.first.length ≤ 5 := by rw [HSY.out.lf]; exact HSY.out.n1.2
  simp only [← hfa] at y2 ⊢
  clear hfa hno hisl hle hD
  go_wp2
  go_loopw [10, 11] (fun v10 v11 wr => ∃ (i : Nat) (a : Option Nat) (c : Nat), v10 = .slice (a.map fun g => ⟨g, 0, none⟩) i c ∧ v11 = .int .i64 i ∧ i ≤ y.first.length ∧ SliceAt wr 4 1 a i c (((frB y.first).take i).map Value.bool) ∧ Keeps [] w4 wr ∧ ∀ g, a = some g → w4.heap.size ≤ g) (fun _ v11 _ => y.first.length - (intOf v11).toNat)
  case atStart => exact ⟨0, none, 0, rfl, rfl, Nat.zero_le _, SliceAt.nil _ _ _, Keeps.refl _ _, (fun g h => by cases h)⟩
  case round =>
   obtain ⟨i, a, c, rfl, rfl, hi, hsl, hkr, hag⟩ := hrel
   obtain ⟨wA, hwA⟩ : ∃ wA : World, wA = wr := ⟨_, rfl⟩
   subst hwA
   have HSL := Lib.hid hsl
   have HKR := Lib.hid hkr
   have HAG := Lib.hid hag
   have y0 := hkr.cell y0 (by simp)
   have y1 := hkr.cell y1 (by simp)
   have y2 := hkr.cell y2 (by simp)
   have y3 := hkr.cell y3 (by simp)
   by_cases hin : i < y.first.length
   ·obtain ⟨fb, foff, rfl, hfc⟩ := (HFIN.out.keep hkr) (by omega)
    have f0 := hfc i hin
    have htk : ((frB y.first).take (i + 1)).map Value.bool = ((frB y.first).take i).map Value.bool ++ [.bool (decide (0 < y.first.getD i 0))] := by
     have hl : i < (frB y.first).length := by simpa [frB] using hin
     rw [List.take_succ_eq_append_getElem hl, List.map_append]
     congr 2
     simp [frB, List.getD_eq_getElem?_getD, hin]
    obtain ⟨fv, hfv⟩ : ∃ fv, fv = y.first.getD i 0 := ⟨_, rfl⟩
    rw [← hfv] at f0 htk
    have HTK := Lib.hid htk
    obtain ⟨bv, hbv⟩ : ∃ bv, bv = decide (0 < fv) := ⟨_, rfl⟩
    rw [← hbv] at HTK
    have hbv2 : decide (0 < fv) = bv := hbv.symm
    clear hfc htk hsl hkr hag hfv hbv
    go_wp2_with (at_builtin; refine wpList_append_sl rfl (.tmp 45) (.tmp 52) 36 rfl 4 ik _ 1 1 Tryd.underlying36 HBI.out.1 HBI.out.2.1 HBI.out.2.2.1 HBI.out.2.2.2 rfl (by decide) a i c (((frB y.first).take i).map Value.bool) rfl (HSL.out.alloc _) ⟨wA.heap.size, 0, none⟩ 1 1 [.bool bv] rfl rfl (news_row' _ _ _ _ rfl) (by intro u hu; simp at hu; subst hu; rfl) (by decide) (by omega) (by omega) ?hk)
    case hk =>
     intro g c' w' hs' hk' hg'
     rw [← List.map_take, ← HTK.out] at hs'
     have HS' := Lib.hid hs'
     have HKN := Lib.hid ((HKR.out.alloc _).after hk' (by intro q hq; right; exact HAG.out q (by simpa using hq)))
     have hgs : w4.heap.size ≤ g := by
      rcases hg' with h | h
      ·exact HAG.out g h
      ·have := HKR.out.size
       omega
     have HGS := Lib.hid hgs
     clear hs' hk' hg' hgs
     go_wp2
     go_roundw
     ·exact ⟨i + 1, some g, c', rfl, rfl, by omega, HS'.out, HKN.out, fun q hq => by cases hq; exact HGS.out⟩
     ·simp only [intOf]
      omega
   ·have hie : i = y.first.length := by omega
    rw [List.take_of_length_le (by simp [frB]; omega)] at hsl
    have hbin := hsl.boolsIn (by simp [frB]; omega)
    have HK6 := Lib.hid (HK4.out.trans hkr)
    have HY6 := Lib.hid (HY4.out.keep hkr)
    have HT6 := Lib.hid (HT.out.keep HK6.out (by simp))
    have hfl2 : (frB y.first).length = i := by simp [frB]; omega
    have hiN : i = y.nodes.length := by rw [hie]; exact HSY.out.lf
    obtain ⟨a0, ha0⟩ : ∃ a0 : Option Addr, a0 = a.map fun g => ⟨g, 0, none⟩ := ⟨_, rfl⟩
    simp only [← ha0] at hbin ⊢
    have HBIN := Lib.hid hbin
    have HWAY := Lib.hid (fun (W : World) (hW : Keeps [] wA W) (to_ : Nat) (ht : to_ < y.nodes.length) => show Calls Tryd.prog 9 #[.agg #[.slice y.ca y.cls.length y.cc, .slice y.na y.nodes.length y.nc, .slice fa y.first.length y.fc, .slice y.ea y.edges.length y.ec], .slice a0 i c, .int .i64 to_] W (WayPost y (frB y.first) to_ W) from by
     have h := way_any y (frB y.first) a0 c to_ W (HY6.out.keep hW) HOK.out (HBIN.out.keep hW) (by rw [hfl2]; exact hiN) (fun n hn => frB_get hn) ht
     rw [hfl2] at h
     rw [HFA.out]
     exact h)
    have HDBL := Lib.hid (fun (W : World) (hW : Keeps [] wA W) (i : Nat) => show Calls Tryd.prog 10 #[.agg #[.slice y.ca y.cls.length y.cc, .slice y.na y.nodes.length y.nc, .slice fa y.first.length y.fc, .slice y.ea y.edges.length y.ec], .int .i64 i] W (DoublePost W y i) from by
     rw [HFA.out]
     exact Double_any search_ok y i W (HY6.out.keep hW))
    have HCNT := Lib.hid (fun (W : World) (hW : Keeps [] wA W) (text : List Int) (ta : Option Addr) (tc : Nat) (ht : IntsIn W ta text) (hI : ∀ s ∈ text, M64 s) (htl : text.length ≤ 1000000000000) => show Calls Tryd.prog 12 #[.agg #[.slice y.ca y.cls.length y.cc, .slice y.na y.nodes.length y.nc, .slice fa y.first.length y.fc, .slice y.ea y.edges.length y.ec], .slice ta text.length tc] W (fun e w' => e = .returned (.tuple #[.int .i64 (cntRes y text).1, .int .i64 (cntRes y text).2]) ∧ Keeps [] W w') from by
     rw [HFA.out]
     exact Count_any y text ta tc W (HY6.out.keep hW) ht hI htl)
    have HBRG := Lib.hid (fun (W : World) (hW : Keeps [] wA W) (i j : Nat) => show Calls Tryd.prog 13 #[.agg #[.slice y.ca y.cls.length y.cc, .slice y.na y.nodes.length y.nc, .slice fa y.first.length y.fc, .slice y.ea y.edges.length y.ec], .int .i64 i, .int .i64 j] W (BridgePost W y i j) from by
     rw [HFA.out]
     exact Bridge_any y i j W (HY6.out.keep hW))
    obtain ⟨N, hN⟩ : ∃ N, N = y.nodes.length := ⟨_, rfl⟩
    have HN' := Lib.hid hN
    have hN5 : N ≤ 5 := by rw [hN]; exact HSY.out.n1.2
    rw [← hN] at y1
    have HYA := Lib.hid (And.intro y0 (And.intro y1 (And.intro y2 y3)))
    clear hsl hkr hag hbin hfl2 hiN ha0 hN HSL HKR HAG HFIN hfl hie hi
    go_wp2_with fail
    refine Calls.mono (around_any nn 12 _ (by decide) HN.out) ?_
    rintro e w7 ⟨rfl, rfl⟩
    have hbd := aroundF_bd nn 12 (by decide)
    obtain ⟨k, hk⟩ : ∃ k : Nat, aroundF nn 12 = (k : Int) := ⟨(aroundF nn 12).toNat, by omega⟩
    rw [hk] at hbd ⊢
    have hk12 : k < 12 := by omega
    clear hbd hk
    go_wp2
    go_loopw [13, 14] (fun v13 v14 wr => ∃ (j : Nat) (b : Bool), v13 = .bool b ∧ v14 = .int .i64 j ∧ j ≤ N ∧ (b = true ↔ ∃ p q, p < j ∧ q < N ∧ Fnd y rows p q) ∧ Keeps [] wA wr) (fun _ v14 _ => N - (intOf v14).toNat)
    case atStart => exact ⟨0, false, rfl, rfl, Nat.zero_le _, ⟨(fun h => by cases h), (fun ⟨p, _, h, _⟩ => absurd h (Nat.not_lt_zero _))⟩, Keeps.refl _ _⟩
    case round =>
     obtain ⟨j, b, rfl, rfl, hj, hmb, hkr⟩ := hrel
     obtain ⟨wB, hwB⟩ : ∃ wB : World, wB = wr := ⟨_, rfl⟩
     subst hwB
     have HKR := Lib.hid hkr
     have HMB := Lib.hid hmb
     have y0 := hkr.cell y0 (by simp)
     have y1 := hkr.cell y1 (by simp)
     have y2 := hkr.cell y2 (by simp)
     have y3 := hkr.cell y3 (by simp)
     clear hkr hmb
     by_cases hin : j < N
     ·have HIN := Lib.hid (show j < y.nodes.length by rw [← HN'.out]; exact hin)
      simp only [HN'.out] at y1
      go_wp2_with fail
      refine Calls.mono (HWAY.out _ HKR.out j HIN.out) ?_
      rintro e w5 h5
      obtain ⟨hk5, a1, c1, t1, b1, rfl, hs1, hn1, hl1, ht1, hf1⟩ := h5.uni2
      have HK5 := Lib.hid (HKR.out.trans hk5)
      have HS1 := Lib.hid hs1
      have HT1 := Lib.hid ht1
      have HL1 := Lib.hid hl1
      have HF1 := Lib.hid (fun h => rea_not HOK.out (hf1 h))
      have y0 := hk5.cell y0 (by simp)
      have y1 := hk5.cell y1 (by simp)
      have y2 := hk5.cell y2 (by simp)
      have y3 := hk5.cell y3 (by simp)
      simp only [← HN'.out] at y1
      clear h5 hk5 hs1 hn1 ht1 hf1 hl1
      go_wp2
      go_loopw [13, 17] (fun v13 v17 wr => ∃ (i : Nat) (fb : Bool), v13 = .bool fb ∧ v17 = .int .i64 i ∧ i ≤ N ∧ (fb = true ↔ (∃ p q, p < j ∧ q < N ∧ Fnd y rows p q) ∨ ∃ q, q < i ∧ Fnd y rows j q) ∧ Keeps [] w5 wr) (fun _ v17 _ => N - (intOf v17).toNat)
      case atStart => exact ⟨0, b, rfl, rfl, Nat.zero_le _, ⟨fun h => .inl (HMB.out.1 h), fun h => by
       rcases h with h | ⟨q, hq, _⟩
       ·exact HMB.out.2 h
       ·exact absurd hq (Nat.not_lt_zero _)⟩, Keeps.refl _ _⟩
      case round =>
       obtain ⟨i, fb, rfl, rfl, hi, hfb, hkr⟩ := hrel
       obtain ⟨wC, hwC⟩ : ∃ wC : World, wC = wr := ⟨_, rfl⟩
       subst hwC
       have HKC := Lib.hid hkr
       have HKC2 := Lib.hid (HK5.out.trans hkr)
       have HFB := Lib.hid hfb
       have y0 := hkr.cell y0 (by simp)
       have y1 := hkr.cell y1 (by simp)
       have y2 := hkr.cell y2 (by simp)
       have y3 := hkr.cell y3 (by simp)
       clear hkr hfb
       by_cases hin2 : i < N
       ·obtain rfl | rfl : b1 = true ∨ b1 = false := by cases b1 <;> simp
        ·by_cases hji : j = i
         ·obtain rfl : j = i := hji
          go_wp2
          go_roundw
          ·refine ⟨j + 1, fb, rfl, rfl, by omega, HFB.out.trans ⟨fun h => ?_, fun h => ?_⟩, HKC.out⟩
           ·rcases h with h | ⟨q, hq, hf⟩
            ·exact .inl h
            ·exact .inr ⟨q, by omega, hf⟩
           ·rcases h with h | ⟨q, hq, hf⟩
            ·exact .inl h
            ·refine .inr ⟨q, ?_, hf⟩
             have := hf.1
             omega
          ·simp only [intOf]
           omega
         ·have hne : ¬ ((j : Int) = (i : Int)) := by omega
          have HIJ := Lib.hid hji
          simp only [HN'.out] at y1
          have HIN2 := Lib.hid (show i < y.nodes.length by rw [← HN'.out]; exact hin2)
          go_wp2_with fail
          refine Calls.mono (HBRG.out _ HKC2.out j i) ?_
          rintro e w6 h6
          unfold BridgePost at h6
          rw [if_neg (by rw [HGV.out]; simp), if_neg (by have := HIN.out; have := HIN2.out; omega), if_neg hne] at h6
          obtain ⟨rows', hr', h6⟩ := h6
          have hrr := wrows_uniq hr' HROWS.out
          subst hrr
          simp only [Int.toNat_natCast] at h6
          obtain ⟨hk6, wd, a2, c2, b2, rfl, hs2, hn2, hl2, ht2, hf2⟩ := h6.uni2
          have HK6' := Lib.hid (HKC2.out.trans hk6)
          have HK56 := Lib.hid (HKC.out.trans hk6)
          have HS2 := Lib.hid hs2
          have HN2 := Lib.hid hn2
          have HT2 := Lib.hid ht2
          have HF2 := Lib.hid hf2
          have HS1' := Lib.hid (HS1.out.keep HK56.out (fun q hq => by simp))
          have y0 := hk6.cell y0 (by simp)
          have y1 := hk6.cell y1 (by simp)
          have y2 := hk6.cell y2 (by simp)
          have y3 := hk6.cell y3 (by simp)
          clear h6 hk6 hs2 hn2 ht2 hf2 hr'
          obtain rfl | rfl : b2 = true ∨ b2 = false := by cases b2 <;> simp
          ·obtain ⟨lw, hlw⟩ : ∃ lw, lw = loW y.cls wd := ⟨_, rfl⟩
           have HLW := Lib.hid hlw
           have hlwl : lw.length = wd.length := by rw [hlw]; simp [loW]
           have HS2' := Lib.hid (show SliceAt w6 3 1 a2 lw.length c2 (lw.map (Value.int .i64)) by rw [hlwl, hlw]; exact HS2.out)
           rw [← hlwl] at hl2 ⊢
           have hl1 : t1.length ≤ 5 := by have := HL1.out; have := HN'.out; omega
           have HT1' := Lib.hid (HT1.out trivial)
           have HT2' := Lib.hid (HT2.out rfl)
           have HRES := Lib.hid (pol_res HSY.out HOK.out HROWS.out HNO.out HIN.out HIN2.out HIJ.out HT1'.out HL1.out HT2'.out hk12)
           clear hlw hlwl
           go_wp2_with (at_builtin; refine wpList_append_any rfl (.tmp 95) (.tmp 96) 22 rfl 3 ii _ 1 8 Tryd.underlying22 HJ.out.1 HJ.out.2.1 HJ.out.2.2.1 HJ.out.2.2.2 rfl (by decide) (some w6.heap.size) 0 0 [] rfl (sl_empty w6 _ _) (a1.map fun g => ⟨g, 0, none⟩) t1.length c1 (t1.map (Value.int .i64)) rfl (by simp) (ints_src (HS1'.out.keep (Keeps.a1 _ _) (by simp)).to_in) (ints_cells t1) (by omega) (by omega) ?hk)
           case hk =>
            intro a3 c3 w7 hs3 hk3 hg3
            try simp only [Nat.zero_add] at hs3
            try simp only [List.nil_append] at hs3
            try simp only [Nat.zero_add]
            have HS3 := Lib.hid hs3
            have HG3 := Lib.hid (show ∀ g, a3 = some g → w6.heap.size ≤ g from fun g hg => by
             rcases hg3 with h | ⟨q, h1, h2⟩
             ·rw [h] at hg
              cases hg
              exact Nat.le_refl _
             ·rw [h1] at hg
              cases hg
              try simp at h2
              omega)
            have HK7 := Lib.hid ((Keeps.a1 w6 _).after hk3 (fun q hq => .inr (by simp at hq; omega)))
            clear hs3 hk3 hg3
            go_wp2
            go_loopw [21, 22] (fun v21 v22 wr => ∃ (r : Nat) (a : Option Nat) (c : Nat), v21 = .slice (a.map fun g => ⟨g, 0, none⟩) (repS t1 lw r).length c ∧ v22 = .int .i64 r ∧ r ≤ k ∧ SliceAt wr 3 1 a (repS t1 lw r).length c ((repS t1 lw r).map (Value.int .i64)) ∧ Keeps [] w6 wr ∧ (∀ g, a = some g → w6.heap.size ≤ g)) (fun _ v22 _ => k - (intOf v22).toNat)
            case atStart => exact ⟨0, a3, c3, rfl, rfl, Nat.zero_le _, HS3.out, HK7.out, HG3.out⟩
            case round =>
             obtain ⟨r, a3, c3, rfl, rfl, hr, hs3, hk3, hg3⟩ := hrel
             obtain ⟨wD, hwD⟩ : ∃ wD : World, wD = wr := ⟨_, rfl⟩
             subst hwD
             have HS3 := Lib.hid hs3
             have HK3' := Lib.hid hk3
             have HG3 := Lib.hid hg3
             have HLWC := Lib.hid (HS2'.out.keep hk3 (fun g h => by simp))
             have HRL := Lib.hid (repS_len t1 lw)
             clear hs3 hk3 hg3
             have hrl : (repS t1 lw r).length ≤ 10000000 + 11 * 1000000 := by
              rw [HRL.out r]
              exact Nat.add_le_add (by omega) (Nat.mul_le_mul (by omega) hl2)
             by_cases hrk : r < k
             ·go_wp2_with (at_builtin; refine wpList_append_any rfl (.tmp 103) (.tmp 104) 22 rfl 3 ii _ 1 8 Tryd.underlying22 HJ.out.1 HJ.out.2.1 HJ.out.2.2.1 HJ.out.2.2.2 rfl (by decide) a3 (repS t1 lw r).length c3 _ rfl HS3.out (a2.map fun g => ⟨g, 0, none⟩) lw.length c2 (lw.map (Value.int .i64)) rfl (by simp) (ints_src HLWC.out.to_in) (ints_cells lw) (by omega) (by omega) ?hk)
              case hk =>
               intro a4 c4 w8 hs4 hk4 hg4
               rw [← List.map_append] at hs4
               have HS4 := Lib.hid hs4
               have HG4 := Lib.hid (show ∀ g, a4 = some g → w6.heap.size ≤ g from fun g hg => by
                rcases hg4 with h | ⟨q, h1, h2⟩
                ·rw [h] at hg
                 exact HG3.out g hg
                ·rw [h1] at hg
                 cases hg
                 have := HK3'.out.size
                 omega)
               have HK8 := Lib.hid (HK3'.out.after hk4 (fun q hq => .inr (HG3.out q (by simpa using hq))))
               clear hs4 hk4 hg4
               go_wp2
               go_roundw
               ·refine ⟨r + 1, a4, c4, ?_, rfl, by omega, ?_, HK8.out, HG4.out⟩
                ·rw [repS, List.length_append]
                 rfl
                ·rw [repS, List.length_append]
                 exact HS4.out
               ·simp only [intOf]
                omega
             ·have hrk2 : r = k := by omega
              subst hrk2
              obtain ⟨T, hT'⟩ : ∃ T, T = repS t1 lw r := ⟨_, rfl⟩
              have hmT : ∀ s ∈ T, M64 s := by
               intro s hs
               rw [hT'] at hs
               rcases repS_mem hs with h | h
               ·obtain ⟨n0, v, _, _, _, hv, he⟩ := HT1'.out
                rw [he] at h
                exact loM HSY.out hv s h
               ·rw [HLW.out] at h
                exact loM HSY.out (leadB_cls HOK.out HT2'.out.1) s h
              have hres := HRES.out
              rw [← HLW.out, ← hT'] at hres
              rw [← hT'] at hrl HS3
              have hkW : Keeps [] wA wD := HK6'.out.trans HK3'.out
              have HKW := Lib.hid hkW
              have HC := Lib.hid (HCNT.out wD hkW T _ c3 HS3.out.to_in hmT (by omega))
              have y0 := hkW.cell HYA.out.1 (by simp)
              have y1 := hkW.cell HYA.out.2.1 (by simp)
              have y2 := hkW.cell HYA.out.2.2.1 (by simp)
              have y3 := hkW.cell HYA.out.2.2.2 (by simp)
              simp only [HN'.out] at y1
              rw [← hT']
              obtain ⟨p, hp⟩ : ∃ p, p = cntRes y T := ⟨_, rfl⟩
              rw [← hp] at hres HC
              obtain ⟨p1, p2⟩ := p
              simp only at hres HC
              obtain ⟨rfl, hge⟩ := hres
              clear hT' hmT hkW hp
              go_wp2_with fail
              refine Calls.mono HC.out ?_
              rintro e w9 ⟨rfl, hk9'⟩
              have HK9 := Lib.hid ((HK56.out.trans HK3'.out).trans hk9')
              clear hk9'
              go_wp2
              refine ⟨⟨i + 1, true, rfl, rfl, by omega, ⟨fun _ => .inr ⟨i, by omega, HIJ.out, rea_of HOK.out HT1'.out, wd, HT2'.out.1⟩, fun _ => rfl⟩, HK9.out⟩, ?_⟩
              simp only [intOf]
              omega
          ·go_wp2
           go_roundw
           ·refine ⟨i + 1, fb, rfl, rfl, by omega, HFB.out.trans ⟨fun h => ?_, fun h => ?_⟩, HK56.out⟩
            ·rcases h with h | ⟨q, hq, hf⟩
             ·exact .inl h
             ·exact .inr ⟨q, by omega, hf⟩
            ·rcases h with h | ⟨q, hq, hf⟩
             ·exact .inl h
             ·refine .inr ⟨q, ?_, hf⟩
              rcases Nat.lt_or_ge q i with h7 | h7
              ·exact h7
              ·obtain rfl : i = q := by omega
               obtain ⟨_, _, v, hv⟩ := hf
               exact absurd hv (HF2.out trivial v)
           ·simp only [intOf]
            omega
        ·go_wp2
         refine ⟨⟨j + 1, fb, rfl, rfl, by omega, HFB.out.trans ⟨fun h => ?_, fun h => ?_⟩, HKC2.out⟩, ?_⟩
         ·rcases h with ⟨p, q, h1, h2, h3⟩ | ⟨q, h1, h2⟩
          ·exact ⟨p, q, by omega, h2, h3⟩
          ·exact ⟨j, q, by omega, by omega, h2⟩
         ·obtain ⟨p, q, h1, h2, h3⟩ := h
          rcases Nat.lt_or_ge p j with h4 | h4
          ·exact .inl ⟨p, q, h4, h2, h3⟩
          ·obtain rfl : j = p := by omega
           exact absurd h3.2.1 (HF1.out (by trivial))
         ·simp only [intOf]
          omega
       ·obtain rfl | rfl : b1 = true ∨ b1 = false := by cases b1 <;> simp
        ·go_wp2
         refine ⟨⟨j + 1, fb, rfl, rfl, by omega, HFB.out.trans ⟨fun h => ?_, fun h => ?_⟩, HKC2.out⟩, ?_⟩
         ·rcases h with ⟨p, q, h1, h2, h3⟩ | ⟨q, h1, h2⟩
          ·exact ⟨p, q, by omega, h2, h3⟩
          ·exact ⟨j, q, by omega, by omega, h2⟩
         ·obtain ⟨p, q, h1, h2, h3⟩ := h
          rcases Nat.lt_or_ge p j with h4 | h4
          ·exact .inl ⟨p, q, h4, h2, h3⟩
          ·obtain rfl : j = p := by omega
           exact .inr ⟨q, by omega, h3⟩
         ·simp only [intOf]
          omega
        ·go_wp2
         refine ⟨⟨j + 1, fb, rfl, rfl, by omega, HFB.out.trans ⟨fun h => ?_, fun h => ?_⟩, HKC2.out⟩, ?_⟩
         ·rcases h with ⟨p, q, h1, h2, h3⟩ | ⟨q, h1, h2⟩
          ·exact ⟨p, q, by omega, h2, h3⟩
          ·exact ⟨j, q, by omega, by omega, h2⟩
         ·obtain ⟨p, q, h1, h2, h3⟩ := h
          rcases Nat.lt_or_ge p j with h4 | h4
          ·exact .inl ⟨p, q, h4, h2, h3⟩
          ·obtain rfl : j = p := by omega
           exact absurd h3.2.1 (HF1.out (by trivial))
         ·simp only [intOf]
          omega
     ·have hjN : j = N := by omega
      have hbt : b = decide (0 < (D : Int)) := by
       rw [Bool.eq_iff_iff, HMB.out, decide_eq_true_eq]
       have h1 := HDB.out
       rw [← HN'.out] at h1
       constructor
       ·rintro ⟨p, q, h2, h3, h4⟩
        have := h1.2 ⟨p, q, by omega, h3, h4⟩
        omega
       ·intro h2
        obtain ⟨p, q, h3, h4, h5⟩ := h1.1 (by omega)
        exact ⟨p, q, by omega, h4, h5⟩
      subst hbt
      have HLV := Lib.hid (lives_any wB (HT6.out.keep HKR.out (by simp)))
      have HKB := Lib.hid (HK6.out.trans HKR.out)
      clear hjN
      go_wp2_with fail
      refine Calls.mono HLV.out ?_
      rintro e w5 ⟨rfl, hk5⟩
      have HK5 := Lib.hid (HKB.out.trans hk5)
      clear hk5
      go_wp2
      go_ret
      exact ⟨rfl, HK5.out⟩
end Go.Proofs.YtphnbmdcgcchaaaDoor
