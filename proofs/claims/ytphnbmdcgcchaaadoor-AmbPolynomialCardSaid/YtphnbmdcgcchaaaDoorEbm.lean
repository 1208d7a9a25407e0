/- Part 39 of the proof. No condition: every lemma says its own. -/
import Derived.Test.YtphnbmdcgcchaaaDoorEap
import Derived.Test.YtphnbmdcgcchaaaDoorEau
import Derived.Test.YtphnbmdcgcchaaaDoorEay
namespace Go.Proofs.YtphnbmdcgcchaaaDoor
open Go.RowKit Go.Sort Go.BigFrame
set_option maxRecDepth 100000
set_option maxHeartbeats 16000000
def WordPost (w : World) (succ : Tri → Int → Tri → Prop) (s0 goal : Tri) (cls : List Cl) (e : Ending) (w' : World) : Prop :=
 Keeps [] w w' ∧ ∃ word a c ok, e = .returned (.tuple #[sv a word.length c, .bool ok, .int .i64 0]) ∧ SliceAt w' 3 1 a word.length c ((word.map (loOf cls)).map (Value.int .i64)) ∧ (∀ g, a = some g → w.heap.size ≤ g) ∧
  ((ok = true ∧ Least succ s0 word goal ∧ word.length ≤ 1000000) ∨ (ok = false ∧ word = [] ∧ ∀ v, ¬ Lead succ s0 v goal))
def DoublePost (w : World) (x : Gr) (node : Int) (e : Ending) (w' : World) : Prop :=
 if gvalE x ≠ 0 then e = .returned (.tuple #[.slice none 0 0, .bool false, .int .i64 (gvalE x)]) ∧ Keeps [] w w'
 else if node < 0 ∨ x.nodes.length ≤ node then e = .returned (.tuple #[.slice none 0 0, .bool false, .int .i64 5]) ∧ Keeps [] w w'
 else ∃ rows, WRows (Ere x.edges) x.nodes.length rows ∧ WordPost w (DSucc x.edges (partN rows node.toNat)) (node, node, 0) (node, node, 1) x.cls e w'
theorem lead_cls {x : Gr} (ok : GrOK x) {part : Nat} {s t : Tri} {w : List Int} (h : Lead (DSucc x.edges part) s w t) : ∀ c ∈ w, 0 ≤ c ∧ c < x.cls.length := by
 induction h with
 | nil => intro c hc; cases hc
 | snoc _ hs ih =>
  intro c hc
  rcases List.mem_append.1 hc with hc | hc
  ·exact ih c hc
  ·simp at hc
   subst hc
   obtain ⟨e, he, f, _, _, _, h3, _⟩ := hs
   rw [← h3]
   exact (ok.ed e he).2.2.1
theorem Double_any (S : SearchOK) (x : Gr) (node : Int) (w : World) (hx : GrIn w x) :
  Calls Tryd.prog 10 #[x.val, .int .i64 node] w (DoublePost w x node) := by
 obtain ⟨Q, hQ⟩ : ∃ Q, Q = DoublePost w x node := ⟨_, rfl⟩
 rw [← hQ]
 have HQ := Lib.hid hQ
 obtain ⟨B, hB⟩ : ∃ B, B = w.heap.size := ⟨_, rfl⟩
 obtain ⟨Y, hY⟩ : ∃ Y, Y = w.alloc (.cells x.row.toArray 26) := ⟨_, rfl⟩
 have hkY : Keeps [] w Y := by rw [hY]; exact Keeps.a1 _ _
 have hb : Y.heap[B]? = some (.cells x.row.toArray 26 (0, 0)) := by rw [hY, hB]; exact heap_alloc_new w _
 obtain ⟨b0, b1, b2, b3⟩ := row_cells4 hb
 have HX := Lib.hid (hx.keep hkY)
 have HY := Lib.hid (show w.alloc (.cells #[.slice x.ca x.cls.length x.cc, .slice x.na x.nodes.length x.nc, .slice x.fa x.first.length x.fc, .slice x.ea x.edges.length x.ec] 26) = Y by rw [hY]; rfl)
 have HB := Lib.hid hB
 have HKY := Lib.hid hkY
 have HV := Lib.hid (gvalid_any x Y (hx.keep hkY))
 have HS := Lib.hid S
 have hln := hx.ln
 simp only [Gr.val] at HV ⊢
 clear hQ hB hY hkY hb hx S
 obtain ⟨gv, hgv⟩ : ∃ gv, gv = gvalE x := ⟨_, rfl⟩
 rw [← hgv] at HV
 have HGV := Lib.hid hgv
 clear hgv
 go_enter Tryd.func10, Tryd.ntmps10
 go_upto_region 1 with fail
 rw [HY.out, ← HB.out]
 go_wp2_with fail
 refine HV.out.mono ?_
 rintro e w2 ⟨rfl, hk2⟩
 have c0 := hk2.cell b0 (by simp)
 have c1 := hk2.cell b1 (by simp)
 have c2 := hk2.cell b2 (by simp)
 have c3 := hk2.cell b3 (by simp)
 have HK2 := Lib.hid (HKY.out.trans hk2)
 have HX2 := Lib.hid (HX.out.keep hk2)
 clear b0 b1 b2 b3 hk2
 by_cases hg : gv = 0
 ·subst hg
  have HOK := Lib.hid (gval_ok HGV.out.symm)
  by_cases hn : node < 0 ∨ (x.nodes.length : Int) ≤ node
  ·have HF := Lib.hid (show Q = fun e w' => e = .returned (.tuple #[.slice none 0 0, .bool false, .int .i64 5]) ∧ Keeps [] w w' by
    rw [HQ.out]; funext e w'; simp only [DoublePost]; rw [if_neg (by rw [← HGV.out]; simp), if_pos hn])
   rcases hn with hn | hn
   ·go_wp2
    go_ret3
    rw [HF.out]
    exact ⟨rfl, HK2.out⟩
   ·have hn0 : ¬ node < 0 := by omega
    go_wp2
    go_ret3
    rw [HF.out]
    exact ⟨rfl, HK2.out⟩
  ·have HF := Lib.hid (show Q = fun e w' => ∃ rows, WRows (Ere x.edges) x.nodes.length rows ∧ WordPost w (DSucc x.edges (partN rows node.toNat)) (node, node, 0) (node, node, 1) x.cls e w' by
    rw [HQ.out]; funext e w'; simp only [DoublePost]; rw [if_neg (by rw [← HGV.out]; simp), if_neg hn])
   have hn0 : ¬ node < 0 := by omega
   have hn1 : ¬ (x.nodes.length : Int) ≤ node := by omega
   have HNW := Lib.hid (newWays_any x w2 HX2.out HOK.out)
   simp only [Gr.val] at HNW
   go_wp2_with fail
   refine HNW.out.mono ?_
   rintro e w3 ⟨wb, rows, rfl, hw3, hrows, hlt, hk3⟩
   have hsl := hrows.1
   have HW3 := Lib.hid hw3
   have HROWS := Lib.hid hrows
   have HSL := Lib.hid hsl
   have hnn : node = ((node.toNat : Nat) : Int) := by omega
   obtain ⟨n, hne⟩ : ∃ n, n = node.toNat := ⟨_, rfl⟩
   rw [← hne] at hnn HF
   subst hnn
   have HD := Lib.hid (double_any HS.out wb x rows n w3 hw3 HOK.out hsl (fun m hm => hlt m (by omega)) (by omega))
   have HK3 := Lib.hid (HK2.out.trans hk3)
   clear hw3 hrows hlt hk3 hsl hne
   go_wp2_with fail
   refine HD.out.mono ?_
   rintro e w4 ⟨hk4, h4⟩
   have HW4 := Lib.hid (HW3.out.keep hk4)
   have HK4 := Lib.hid (HK3.out.trans hk4)
   clear hk4
   rcases h4 with ⟨a, c, word, rfl, hsl4, hleast, hwl, hga⟩ | ⟨rfl, hno⟩
   ·have HWD := Lib.hid (word_any wb x rows (a.map fun g => ⟨g, 0, none⟩) c word w4 HW4.out HOK.out hsl4.to_in (lead_cls HOK.out hleast.1) (by omega))
    have HL := Lib.hid hleast
    have HWL := Lib.hid hwl
    clear hsl4 hleast hwl hga
    simp only [sv]
    go_wp2_with fail
    refine HWD.out.mono ?_
    rintro e w5 ⟨a5, c5, rfl, hs5, hk5, hg5⟩
    have HS5 := Lib.hid hs5
    have HK5 := Lib.hid (HK4.out.trans hk5)
    have HG5 := Lib.hid (show ∀ g, a5 = some g → w.heap.size ≤ g from fun g h => Nat.le_trans HK4.out.size (hg5 g h))
    clear hs5 hk5 hg5
    go_wp2
    go_ret3
    rw [HF.out]
    exact ⟨rows, HROWS.out, HK5.out, word, a5, c5, true, rfl, HS5.out, HG5.out, .inl ⟨rfl, HL.out, HWL.out⟩⟩
   ·have HWD := Lib.hid (word_any wb x rows none 0 [] w4 HW4.out HOK.out (fun h => by simp at h) (by simp) (by simp))
    have HNO := Lib.hid hno
    clear hno
    go_wp2_with fail
    refine HWD.out.mono ?_
    rintro e w5 ⟨a5, c5, rfl, hs5, hk5, hg5⟩
    have HS5 := Lib.hid hs5
    have HK5 := Lib.hid (HK4.out.trans hk5)
    have HG5 := Lib.hid (show ∀ g, a5 = some g → w.heap.size ≤ g from fun g h => Nat.le_trans HK4.out.size (hg5 g h))
    clear hs5 hk5 hg5
    go_wp2
    go_ret3
    rw [HF.out]
    exact ⟨rows, HROWS.out, HK5.out, [], a5, c5, false, rfl, HS5.out, HG5.out, .inr ⟨rfl, rfl, HNO.out⟩⟩
 ·have HF := Lib.hid (show Q = fun e w' => e = .returned (.tuple #[.slice none 0 0, .bool false, .int .i64 gv]) ∧ Keeps [] w w' by
   rw [HQ.out]; funext e w'; simp only [DoublePost]; rw [if_pos (by rw [← HGV.out]; exact hg), ← HGV.out])
  have hg' : (gv != 0) = true := by simp [hg]
  go_wp2
  go_ret3
  rw [HF.out]
  exact ⟨rfl, HK2.out⟩
def midN (rows : List Nat) (a b : Nat) : Nat := rows.getD a 0 &&& leadN rows b rows.length
def BridgePost (w : World) (x : Gr) (na nb : Int) (e : Ending) (w' : World) : Prop :=
 if gvalE x ≠ 0 then e = .returned (.tuple #[.slice none 0 0, .bool false, .int .i64 (gvalE x)]) ∧ Keeps [] w w'
 else if (na < 0 ∨ nb < 0) ∨ (x.nodes.length ≤ na ∨ x.nodes.length ≤ nb) then e = .returned (.tuple #[.slice none 0 0, .bool false, .int .i64 5]) ∧ Keeps [] w w'
 else if na = nb then e = .returned (.tuple #[.slice none 0 0, .bool false, .int .i64 1]) ∧ Keeps [] w w'
 else ∃ rows, WRows (Ere x.edges) x.nodes.length rows ∧ WordPost w (BSucc x.edges (partN rows na.toNat) (midN rows na.toNat nb.toNat) (partN rows nb.toNat)) (na, na, nb) (na, nb, nb) x.cls e w'
theorem leadB_cls {x : Gr} (ok : GrOK x) {p0 p1 p2 : Nat} {s t : Tri} {w : List Int} (h : Lead (BSucc x.edges p0 p1 p2) s w t) : ∀ c ∈ w, 0 ≤ c ∧ c < x.cls.length := by
 induction h with
 | nil => intro c hc; cases hc
 | snoc _ hs ih =>
  intro c hc
  rcases List.mem_append.1 hc with hc | hc
  ·exact ih c hc
  ·simp at hc
   subst hc
   obtain ⟨e, he, f, _, g, _, _, _, _, h3, _⟩ := hs
   rw [← h3]
   exact (ok.ed e he).2.2.1
theorem Bridge_any (x : Gr) (na nb : Int) (w : World) (hx : GrIn w x) :
  Calls Tryd.prog 13 #[x.val, .int .i64 na, .int .i64 nb] w (BridgePost w x na nb) := by
 obtain ⟨Q, hQ⟩ : ∃ Q, Q = BridgePost w x na nb := ⟨_, rfl⟩
 rw [← hQ]
 have HQ := Lib.hid hQ
 obtain ⟨B, hB⟩ : ∃ B, B = w.heap.size := ⟨_, rfl⟩
 obtain ⟨Y, hY⟩ : ∃ Y, Y = w.alloc (.cells x.row.toArray 26) := ⟨_, rfl⟩
 have hkY : Keeps [] w Y := by rw [hY]; exact Keeps.a1 _ _
 have hb : Y.heap[B]? = some (.cells x.row.toArray 26 (0, 0)) := by rw [hY, hB]; exact heap_alloc_new w _
 obtain ⟨b0, b1, b2, b3⟩ := row_cells4 hb
 have HX := Lib.hid (hx.keep hkY)
 have HY := Lib.hid (show w.alloc (.cells #[.slice x.ca x.cls.length x.cc, .slice x.na x.nodes.length x.nc, .slice x.fa x.first.length x.fc, .slice x.ea x.edges.length x.ec] 26) = Y by rw [hY]; rfl)
 have HB := Lib.hid hB
 have HKY := Lib.hid hkY
 have HV := Lib.hid (gvalid_any x Y (hx.keep hkY))
 have hln := hx.ln
 simp only [Gr.val] at HV ⊢
 clear hQ hB hY hkY hb hx
 obtain ⟨gv, hgv⟩ : ∃ gv, gv = gvalE x := ⟨_, rfl⟩
 rw [← hgv] at HV
 have HGV := Lib.hid hgv
 clear hgv
 go_enter Tryd.func13, Tryd.ntmps13
 go_upto_region 1 with fail
 rw [HY.out, ← HB.out]
 go_wp2_with fail
 refine HV.out.mono ?_
 rintro e w2 ⟨rfl, hk2⟩
 have c0 := hk2.cell b0 (by simp)
 have c1 := hk2.cell b1 (by simp)
 have c2 := hk2.cell b2 (by simp)
 have c3 := hk2.cell b3 (by simp)
 have HK2 := Lib.hid (HKY.out.trans hk2)
 have HX2 := Lib.hid (HX.out.keep hk2)
 clear b0 b1 b2 b3 hk2
 by_cases hg : gv = 0
 ·subst hg
  have HOK := Lib.hid (gval_ok HGV.out.symm)
  go_upto_region 4 with fail
  obtain ⟨ov, hov⟩ : ∃ ov : Bool, ov = decide ((na < 0 ∨ nb < 0) ∨ ((x.nodes.length : Int) ≤ na ∨ (x.nodes.length : Int) ≤ nb)) := ⟨_, rfl⟩
  have HOV := Lib.hid hov
  clear hov
  go_cut [30] (fun s30 wx => s30 = .bool ov ∧ wx = w2)
  case first =>
   have hN0 : (0 : Int) ≤ (x.nodes.length : Int) := by omega
   rcases Int.lt_trichotomy na nb with hc | hc | hc
   ·have hc1 : ¬ nb < na := by omega
    have hc2 : ¬ na = nb := by omega
    have hc3 : ¬ nb = na := by omega
    by_cases h1 : na < 0
    ·go_wp2
     go_meet
     exact ⟨by rw [HOV.out]; symm; apply congrArg; simp; omega, rfl⟩
    ·by_cases h2 : (x.nodes.length : Int) ≤ nb
     ·go_wp2
      go_meet
      exact ⟨by rw [HOV.out]; symm; apply congrArg; simp; omega, rfl⟩
     ·go_wp2
      go_meet
      exact ⟨by rw [HOV.out]; symm; apply congrArg; simp; omega, rfl⟩
   ·subst hc
    by_cases h1 : na < 0
    ·go_wp2
     go_meet
     exact ⟨by rw [HOV.out]; symm; apply congrArg; simp; omega, rfl⟩
    ·by_cases h2 : (x.nodes.length : Int) ≤ na
     ·go_wp2
      go_meet
      exact ⟨by rw [HOV.out]; symm; apply congrArg; simp; omega, rfl⟩
     ·go_wp2
      go_meet
      exact ⟨by rw [HOV.out]; symm; apply congrArg; simp; omega, rfl⟩
   ·have hc1 : ¬ na < nb := by omega
    have hc2 : ¬ na = nb := by omega
    have hc3 : ¬ nb = na := by omega
    by_cases h1 : nb < 0
    ·go_wp2
     go_meet
     exact ⟨by rw [HOV.out]; symm; apply congrArg; simp; omega, rfl⟩
    ·by_cases h2 : (x.nodes.length : Int) ≤ na
     ·go_wp2
      go_meet
      exact ⟨by rw [HOV.out]; symm; apply congrArg; simp; omega, rfl⟩
     ·go_wp2
      go_meet
      exact ⟨by rw [HOV.out]; symm; apply congrArg; simp; omega, rfl⟩
  case rest =>
  obtain ⟨rfl, hwc⟩ := hcut
  have hwc2 := hwc.symm
  clear hwc
  subst hwc2
  by_cases hn : (na < 0 ∨ nb < 0) ∨ ((x.nodes.length : Int) ≤ na ∨ (x.nodes.length : Int) ≤ nb)
  ·have hov : ov = true := by rw [HOV.out]; simpa using hn
   subst hov
   have HF := Lib.hid (show Q = fun e w' => e = .returned (.tuple #[.slice none 0 0, .bool false, .int .i64 5]) ∧ Keeps [] w w' by
    rw [HQ.out]; funext e w'; simp only [BridgePost]; rw [if_neg (by rw [← HGV.out]; simp), if_pos hn])
   clear hn
   go_wp2
   go_ret3
   rw [HF.out]
   exact ⟨rfl, HK2.out⟩
  have hov : ov = false := by rw [HOV.out]; simpa using hn
  subst hov
  by_cases hab : na = nb
  ·have HF := Lib.hid (show Q = fun e w' => e = .returned (.tuple #[.slice none 0 0, .bool false, .int .i64 1]) ∧ Keeps [] w w' by
    rw [HQ.out]; funext e w'; simp only [BridgePost]; rw [if_neg (by rw [← HGV.out]; simp), if_neg hn, if_pos hab])
   subst hab
   clear hn
   go_wp2
   go_ret3
   rw [HF.out]
   exact ⟨rfl, HK2.out⟩
  ·have HF := Lib.hid (show Q = fun e w' => ∃ rows, WRows (Ere x.edges) x.nodes.length rows ∧ WordPost w (BSucc x.edges (partN rows na.toNat) (midN rows na.toNat nb.toNat) (partN rows nb.toNat)) (na, na, nb) (na, nb, nb) x.cls e w' by
    rw [HQ.out]; funext e w'; simp only [BridgePost]; rw [if_neg (by rw [← HGV.out]; simp), if_neg hn, if_neg hab])
   have HNO := Lib.hid (show (0 ≤ na ∧ 0 ≤ nb) ∧ na < x.nodes.length ∧ nb < x.nodes.length by omega)
   clear hn
   have HNW := Lib.hid (newWays_any x w2 HX2.out HOK.out)
   simp only [Gr.val] at HNW
   go_wp2_with fail
   refine HNW.out.mono ?_
   rintro e w3 ⟨wb, rows, rfl, hw3, hrows, hlt, hk3⟩
   have hsl := hrows.1
   have HW3 := Lib.hid hw3
   have HROWS := Lib.hid hrows
   have HSL := Lib.hid hsl
   obtain ⟨⟨h0a, h0b⟩, h1a, h1b⟩ := HNO.out
   obtain ⟨n, rfl⟩ := Int.eq_ofNat_of_zero_le h0a
   obtain ⟨m, rfl⟩ := Int.eq_ofNat_of_zero_le h0b
   simp only [Int.toNat_natCast] at HF
   have hnm : n ≠ m := fun e => hab (by rw [e])
   have HD := Lib.hid (bridge_any wb x rows n m w3 hw3 HOK.out hsl (fun m hm => hlt m (by omega)) (by omega) (by omega) hnm)
   have HK3 := Lib.hid (HK2.out.trans hk3)
   clear hw3 hrows hlt hk3 hsl h0a h0b h1a h1b hnm
   go_wp2_with fail
   refine HD.out.mono ?_
   rintro e w4 ⟨hk4, h4⟩
   have HW4 := Lib.hid (HW3.out.keep hk4)
   have HK4 := Lib.hid (HK3.out.trans hk4)
   clear hk4
   rcases h4 with ⟨a, c, word, rfl, hsl4, hleast, hwl, hga⟩ | ⟨rfl, hno⟩
   ·have HWD := Lib.hid (word_any wb x rows (a.map fun g => ⟨g, 0, none⟩) c word w4 HW4.out HOK.out hsl4.to_in (leadB_cls HOK.out hleast.1) (by omega))
    have HL := Lib.hid hleast
    have HWL := Lib.hid hwl
    clear hsl4 hleast hwl hga
    simp only [sv]
    go_wp2_with fail
    refine HWD.out.mono ?_
    rintro e w5 ⟨a5, c5, rfl, hs5, hk5, hg5⟩
    have HS5 := Lib.hid hs5
    have HK5 := Lib.hid (HK4.out.trans hk5)
    have HG5 := Lib.hid (show ∀ g, a5 = some g → w.heap.size ≤ g from fun g h => Nat.le_trans HK4.out.size (hg5 g h))
    clear hs5 hk5 hg5
    go_wp2
    go_ret3
    rw [HF.out]
    exact ⟨rows, HROWS.out, HK5.out, word, a5, c5, true, rfl, HS5.out, HG5.out, .inl ⟨rfl, HL.out, HWL.out⟩⟩
   ·have HWD := Lib.hid (word_any wb x rows none 0 [] w4 HW4.out HOK.out (fun h => by simp at h) (by simp) (by simp))
    have HNO := Lib.hid hno
    clear hno
    go_wp2_with fail
    refine HWD.out.mono ?_
    rintro e w5 ⟨a5, c5, rfl, hs5, hk5, hg5⟩
    have HS5 := Lib.hid hs5
    have HK5 := Lib.hid (HK4.out.trans hk5)
    have HG5 := Lib.hid (show ∀ g, a5 = some g → w.heap.size ≤ g from fun g h => Nat.le_trans HK4.out.size (hg5 g h))
    clear hs5 hk5 hg5
    go_wp2
    go_ret3
    rw [HF.out]
    exact ⟨rows, HROWS.out, HK5.out, [], a5, c5, false, rfl, HS5.out, HG5.out, .inr ⟨rfl, rfl, HNO.out⟩⟩
 ·have HF := Lib.hid (show Q = fun e w' => e = .returned (.tuple #[.slice none 0 0, .bool false, .int .i64 gv]) ∧ Keeps [] w w' by
   rw [HQ.out]; funext e w'; simp only [BridgePost]; rw [if_pos (by rw [← HGV.out]; exact hg), ← HGV.out])
  have hg' : (gv != 0) = true := by simp [hg]
  go_wp2
  go_ret3
  rw [HF.out]
  exact ⟨rfl, HK2.out⟩
def wayF (es : List E4) : Nat → Nat → Nat → Bool
 | 0, n, k => decide (n = k)
 | f + 1, n, k => decide (n = k) || es.any fun e => decide (e.fr = n) && (decide (0 ≤ e.tt) && wayF es f e.tt.toNat k)
theorem wayF_way {es : List E4} : ∀ {f n k : Nat}, wayF es f n k = true → Way (Ere es) n k
 | 0, n, k, h => by
  have e : n = k := of_decide_eq_true h
  subst e
  exact .refl _
 | f + 1, n, k, h => by
  simp only [wayF, Bool.or_eq_true, List.any_eq_true, Bool.and_eq_true, decide_eq_true_eq] at h
  rcases h with rfl | ⟨e, he, h1, h2, h3⟩
  ·exact .refl _
  ·exact Way.cons ⟨e, he, h1, by omega⟩ (wayF_way h3)
theorem wrows_of {es : List E4} {N : Nat} {rows : List Nat} (hl : rows.length = N) (hlt : ∀ n, n < N → rows.getD n 0 < 2 ^ N) (h1 : ∀ n, n < N → (rows.getD n 0).testBit n = true)
  (h2 : ∀ n, n < N → ∀ e ∈ es, (rows.getD n 0).testBit e.fr.toNat = true → (rows.getD n 0).testBit e.tt.toNat = true) (h3 : ∀ n, n < N → ∀ k, k < N → (rows.getD n 0).testBit k = true → wayF es N n k = true) : WRows (Ere es) N rows := by
 refine ⟨hl, fun n hn k => ⟨fun h => ?_, fun h => ?_⟩⟩
 ·rcases Nat.lt_or_ge k N with hk | hk
  ·exact wayF_way (h3 n hn k hk h)
  ·have := Nat.testBit_lt_two_pow (Nat.lt_of_lt_of_le (hlt n hn) (Nat.pow_le_pow_right (by decide) hk))
   rw [this] at h
   cases h
 ·induction h with
  | refl => exact h1 n hn
  | snoc _ hr ih =>
   obtain ⟨e, he, e1, e2⟩ := hr
   have := h2 n hn e he (by rw [e1]; exact ih)
   rw [e2] at this
   exact this
theorem wrows_uniq {R : Nat → Nat → Prop} {N : Nat} {a b : List Nat} (ha : WRows R N a) (hb : WRows R N b) : a = b := by
 refine List.ext_getElem (by rw [ha.1, hb.1]) fun n h1 h2 => ?_
 refine Nat.eq_of_testBit_eq fun k => ?_
 have e1 := ha.2 n (by rw [← ha.1]; exact h1) k
 have e2 := hb.2 n (by rw [← ha.1]; exact h1) k
 simp only [List.getD_eq_getElem?_getD, List.getElem?_eq_getElem h1, List.getElem?_eq_getElem h2, Option.getD_some] at e1 e2
 exact Bool.eq_iff_iff.2 (e1.trans e2.symm)
def leadsK {α : Type} (sc : α → List (Int × α)) (s : α) : Nat → List (List Int × α)
 | 0 => [([], s)]
 | k + 1 => (leadsK sc s k).flatMap fun p => (sc p.2).map fun q => (p.1 ++ [q.1], q.2)
theorem lead_leadsK {α : Type} {succ : α → Int → α → Prop} {sc : α → List (Int × α)} (h : ∀ s c t, succ s c t ↔ (c, t) ∈ sc s) {s t : α} {v : List Int} (k : Lead succ s v t) : (v, t) ∈ leadsK sc s v.length := by
 induction k with
 | nil => simp [leadsK]
 | snoc _ hs ih =>
  rw [List.length_append, List.length_singleton]
  exact List.mem_flatMap.2 ⟨_, ih, List.mem_map.2 ⟨_, (h _ _ _).1 hs, rfl⟩⟩
theorem leadsK_lead {α : Type} {succ : α → Int → α → Prop} {sc : α → List (Int × α)} (h : ∀ s c t, succ s c t ↔ (c, t) ∈ sc s) {s : α} : ∀ {k : Nat} {v : List Int} {t : α}, (v, t) ∈ leadsK sc s k → Lead succ s v t
 | 0, v, t, hm => by
  simp only [leadsK, List.mem_singleton, Prod.mk.injEq] at hm
  obtain ⟨rfl, rfl⟩ := hm
  exact .nil
 | k + 1, v, t, hm => by
  obtain ⟨⟨v', t'⟩, h1, h2⟩ := List.mem_flatMap.1 hm
  obtain ⟨⟨c, u⟩, h3, h4⟩ := List.mem_map.1 h2
  simp only [Prod.mk.injEq] at h4
  obtain ⟨rfl, rfl⟩ := h4
  exact .snoc (leadsK_lead h h1) ((h _ _ _).2 h3)
theorem least_of {α : Type} {succ : α → Int → α → Prop} {sc : α → List (Int × α)} (h : ∀ s c t, succ s c t ↔ (c, t) ∈ sc s) {s t : α} {w : List Int} (h1 : (w, t) ∈ leadsK sc s w.length)
  (h2 : ∀ k, k < w.length → ∀ p ∈ leadsK sc s k, p.2 ≠ t) (h3 : ∀ p ∈ leadsK sc s w.length, p.2 = t → p.1 = w) : Least succ s w t := by
 refine ⟨leadsK_lead h h1, fun v hv => ?_⟩
 have hm := lead_leadsK h hv
 rcases Nat.lt_trichotomy v.length w.length with hl | hl | hl
 ·exact absurd rfl (h2 _ hl _ hm)
 ·rw [hl] at hm
  exact .inl (h3 _ hm rfl)
 ·exact .inr (.inl hl)
theorem lead_inv {α : Type} {succ : α → Int → α → Prop} {sc : α → List (Int × α)} (h : ∀ s c t, succ s c t ↔ (c, t) ∈ sc s) {s : α} {I : List α} (h0 : s ∈ I) (h1 : ∀ x ∈ I, ∀ p ∈ sc x, p.2 ∈ I) {v : List Int} {t : α} (k : Lead succ s v t) : t ∈ I := by
 induction k with
 | nil => exact h0
 | snoc _ hs ih => exact h1 _ ih _ ((h _ _ _).1 hs)
def dsc (es : List E4) (part : Nat) (s : Tri) : List (Int × Tri) :=
 es.flatMap fun e => if e.fr = s.1 ∧ part.testBit e.tt.toNat = true then (es.filter fun f => f.fr = s.2.1 ∧ f.cl = e.cl ∧ part.testBit f.tt.toNat = true).map fun f => (e.cl, dTo s e f) else []
theorem dsc_iff (es : List E4) (part : Nat) (s : Tri) (c : Int) (t : Tri) : DSucc es part s c t ↔ (c, t) ∈ dsc es part s := by
 constructor
 ·rintro ⟨e, he, f, hf, h1, h2, h3, h4, h5, h6, h7⟩
  refine List.mem_flatMap.2 ⟨e, he, ?_⟩
  rw [if_pos ⟨h1, h5⟩]
  refine List.mem_map.2 ⟨f, ?_, by rw [h3, h7]⟩
  rw [List.mem_filter]
  exact ⟨hf, by simp [h2, h3, h4, h6]⟩
 ·intro h
  obtain ⟨e, he, h⟩ := List.mem_flatMap.1 h
  split at h
  ·rename_i hc
   obtain ⟨f, hf, h⟩ := List.mem_map.1 h
   rw [List.mem_filter] at hf
   simp only [Prod.mk.injEq] at h
   have hf2 := of_decide_eq_true hf.2
   exact ⟨e, he, f, hf.1, hc.1, hf2.1, h.1, by rw [hf2.2.1, h.1], hc.2, hf2.2.2, h.2.symm⟩
  ·cases h
def bsc (es : List E4) (p0 p1 p2 : Nat) (s : Tri) : List (Int × Tri) :=
 es.flatMap fun e => if e.fr = s.1 ∧ p0.testBit e.tt.toNat = true then (es.filter fun f => f.fr = s.2.1 ∧ f.cl = e.cl ∧ p1.testBit f.tt.toNat = true).flatMap fun f =>
  (es.filter fun g => g.fr = s.2.2 ∧ g.cl = e.cl ∧ p2.testBit g.tt.toNat = true).map fun g => (e.cl, (e.tt, f.tt, g.tt)) else []
theorem bsc_iff (es : List E4) (p0 p1 p2 : Nat) (s : Tri) (c : Int) (t : Tri) : BSucc es p0 p1 p2 s c t ↔ (c, t) ∈ bsc es p0 p1 p2 s := by
 constructor
 ·rintro ⟨e, he, f, hf, g, hg, h1, h2, h3, h4, h5, h6, h7, h8, h9, h10⟩
  refine List.mem_flatMap.2 ⟨e, he, ?_⟩
  rw [if_pos ⟨h1, h7⟩]
  refine List.mem_flatMap.2 ⟨f, ?_, List.mem_map.2 ⟨g, ?_, by rw [h4, h10]⟩⟩
  ·rw [List.mem_filter]
   exact ⟨hf, by simp [h2, h4, h5, h8]⟩
  ·rw [List.mem_filter]
   exact ⟨hg, by simp [h3, h4, h6, h9]⟩
 ·intro h
  obtain ⟨e, he, h⟩ := List.mem_flatMap.1 h
  split at h
  ·rename_i hc
   obtain ⟨f, hf, h⟩ := List.mem_flatMap.1 h
   obtain ⟨g, hg, h⟩ := List.mem_map.1 h
   rw [List.mem_filter] at hf hg
   simp only [Prod.mk.injEq] at h
   have hf2 := of_decide_eq_true hf.2
   have hg2 := of_decide_eq_true hg.2
   exact ⟨e, he, f, hf.1, g, hg.1, hc.1, hf2.1, hg2.1, h.1, by rw [hf2.2.1, h.1], by rw [hg2.2.1, h.1], hc.2, hf2.2.2, hg2.2.2, h.2.symm⟩
  ·cases h
def es1 : List E4 := [⟨0, 0, 1, 1⟩, ⟨0, 1, 1, 1⟩, ⟨0, 2, 1, 1⟩, ⟨1, 0, 1, 1⟩, ⟨1, 1, 1, 1⟩, ⟨1, 2, 1, 1⟩, ⟨2, 3, 2, 1⟩]
def es2x : List E4 := [⟨0, 0, 1, 1⟩, ⟨0, 1, 1, 1⟩, ⟨0, 2, 1, 1⟩, ⟨1, 1, 1, 1⟩, ⟨1, 2, 1, 1⟩, ⟨2, 3, 2, 1⟩]
theorem rows1 {rows : List Nat} (h : WRows (Ere es1) 4 rows) : rows = [15, 15, 12, 8] :=
 wrows_uniq h (wrows_of rfl (by decide +kernel) (by decide +kernel) (by decide +kernel) (by decide +kernel))
theorem rows2 {rows : List Nat} (h : WRows (Ere es2x) 4 rows) : rows = [15, 14, 12, 8] :=
 wrows_uniq h (wrows_of rfl (by decide +kernel) (by decide +kernel) (by decide +kernel) (by decide +kernel))
theorem dbl1 : Least (DSucc es1 (partN [15, 15, 12, 8] 0)) (0, 0, 0) [1, 1] (0, 0, 1) :=
 least_of (dsc_iff es1 _) (by decide +kernel) (by decide +kernel) (by decide +kernel)
theorem brd2 : Least (BSucc es2x (partN [15, 14, 12, 8] 0) (midN [15, 14, 12, 8] 0 1) (partN [15, 14, 12, 8] 1)) (0, 0, 1) [1] (0, 1, 1) :=
 least_of (bsc_iff es2x _ _ _) (by decide +kernel) (by decide +kernel) (by decide +kernel)
theorem parts1 : partsN [15, 15, 12, 8] 64 (reachN [15, 15, 12, 8] [1, 1, 1, 0] 4) = [3, 4, 8] := by decide +kernel
theorem parts2 : partsN [15, 14, 12, 8] 64 (reachN [15, 14, 12, 8] [1, 1, 1, 0] 4) = [1, 2, 4, 8] := by decide +kernel
theorem dblAt1 : DoubleAt es1 [15, 15, 12, 8] (lowN 3) := ⟨[1, 1], by
 have e : lowN 3 = 0 := by decide +kernel
 rw [e]
 exact dbl1.1⟩
theorem ndbl2 : ∀ s ∈ [1, 2, 4, 8], ¬ DoubleAt es2x [15, 14, 12, 8] (lowN s) := by
 have key : ∀ n : Nat, (∀ x ∈ [((n : Int), (n : Int), (0 : Int))], ∀ p ∈ dsc es2x (partN [15, 14, 12, 8] n) x, p.2 ∈ [((n : Int), (n : Int), (0 : Int))]) → ¬ DoubleAt es2x [15, 14, 12, 8] n := by
  rintro n h ⟨v, hv⟩
  have := lead_inv (dsc_iff es2x _) (I := [((n : Int), (n : Int), (0 : Int))]) (by simp) h hv
  simp at this
 intro s hs
 simp only [List.mem_cons, List.not_mem_nil, or_false] at hs
 rcases hs with rfl | rfl | rfl | rfl
 ·rw [show lowN 1 = 0 by decide +kernel]; exact key 0 (by decide +kernel)
 ·rw [show lowN 2 = 1 by decide +kernel]; exact key 1 (by decide +kernel)
 ·rw [show lowN 4 = 2 by decide +kernel]; exact key 2 (by decide +kernel)
 ·rw [show lowN 8 = 3 by decide +kernel]; exact key 3 (by decide +kernel)
theorem low_two : ∀ k, k < 4 → lowN ([1, 2, 4, 8].getD k 0) = k := by decide +kernel
theorem bit_two : ∀ k, k < 4 → ∀ a, ([1, 2, 4, 8].getD k 0).testBit a = true → a = k := by
 intro k hk a h
 have e0 : ∀ k, k < 4 → [1, 2, 4, 8].getD k 0 = 2 ^ k := by decide +kernel
 have e := e0 k hk
 rw [e, Nat.testBit_two_pow] at h
 exact (of_decide_eq_true h).symm
def stayB (a b : Nat) : Bool := (bsc es2x (partN [15, 14, 12, 8] a) ([15, 14, 12, 8].getD a 0 &&& leadN [15, 14, 12, 8] b 4) (partN [15, 14, 12, 8] b) ((a : Int), (a : Int), (b : Int))).all fun p => decide (p.2 = ((a : Int), (a : Int), (b : Int)))
theorem nbrd2 (a b : Nat) (h : stayB a b = true) (hab : a ≠ b) : ¬ BridgeAt es2x [15, 14, 12, 8] a b := by
 rintro ⟨v, hv⟩
 have := lead_inv (bsc_iff es2x _ _ _) (I := [((a : Int), (a : Int), (b : Int))]) (by simp) (fun x hx p hp => by
  rw [List.mem_singleton] at hx ⊢
  subst hx
  exact of_decide_eq_true (List.all_eq_true.1 h p hp)) hv
 simp at this
 omega
theorem ld2 {k j : Nat} (hk : k < 4) (hj : j < 4) : ldP es2x [15, 14, 12, 8] [1, 2, 4, 8] k j ↔ k = 0 ∧ j = 1 := by
 constructor
 ·rintro ⟨hne, hr, a, b, ha, hb, hbr⟩
  rw [low_two k hk, low_two j hj] at hr
  obtain rfl := bit_two k hk a ha
  obtain rfl := bit_two j hj b hb
  have hn0 : ∀ a ∈ List.range 4, ∀ b ∈ List.range 4, (decide (a = b) || (decide (a = 0 ∧ b = 1) || (!([15, 14, 12, 8].getD a 0).testBit b || stayB a b))) = true := by decide +kernel
  have hn : ∀ a, a < 4 → ∀ b, b < 4 → a ≠ b → ¬ (a = 0 ∧ b = 1) → ([15, 14, 12, 8].getD a 0).testBit b = true → stayB a b = true := fun a ha b hb h1 h2 h3 => by
   have h := hn0 a (List.mem_range.2 ha) b (List.mem_range.2 hb)
   rw [decide_eq_false h1, decide_eq_false h2, h3] at h
   simpa using h
  by_cases hc : a = 0 ∧ b = 1
  ·exact hc
  ·exact absurd hbr (nbrd2 a b (hn a hk b hj hne hc hr) hne)
 ·rintro ⟨rfl, rfl⟩
  refine ⟨by decide, by decide +kernel, 0, 1, by decide +kernel, by decide +kernel, [1], ?_⟩
  exact brd2.1
theorem deg2 {L : Nat → Nat} {D : Nat} (h : IsL 4 (rchP [15, 14, 12, 8] [1, 2, 4, 8]) (ldP es2x [15, 14, 12, 8] [1, 2, 4, 8]) L) (h1 : ∀ i, i < 4 → L i ≤ D) (h2 : D = 0 ∨ ∃ i, i < 4 ∧ D = L i) : D = 1 := by
 have e1 : L 1 = 0 := by
  rcases h.at_ 1 (by decide) with e | ⟨k, j, hk, hj, hr, hl, _⟩
  ·exact e
  ·obtain ⟨rfl, rfl⟩ := (ld2 hk hj).1 hl
   exact absurd hr (by unfold rchP; decide +kernel)
 have e0 : 1 + L 1 ≤ L 0 := h.ge 0 0 1 (by decide) (by decide) (by decide) (by unfold rchP; decide +kernel) ((ld2 (by decide) (by decide)).2 ⟨rfl, rfl⟩)
 have h0 := h1 0 (by decide)
 rcases h2 with h2 | ⟨i, hi, h2⟩
 ·omega
 ·rcases h.at_ i hi with e | ⟨k, j, hk, hj, hr, hl, e⟩
  ·omega
  ·obtain ⟨rfl, rfl⟩ := (ld2 hk hj).1 hl
   omega
end Go.Proofs.YtphnbmdcgcchaaaDoor
