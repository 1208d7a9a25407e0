/- Part 35 of the proof. No condition: every lemma says its own. -/
import Derived.Test.YtphnbmdcgcchaaaDoorEbh
namespace Go.Proofs.YtphnbmdcgcchaaaDoor
open Go.RowKit Go.Sort Go.BigFrame
set_option maxRecDepth 100000
set_option maxHeartbeats 16000000
def WayPost (x : Gr) (fr : List Bool) (to_ : Nat) (w : World) (e : Ending) (w' : World) : Prop := Keeps [] w w' ∧
 ((∃ a c t, e = .returned (.tuple #[sv a t.length c, .bool true]) ∧ SliceAt w' 3 1 a t.length c (t.map (Value.int .i64)) ∧ (∀ g, a = some g → w.heap.size ≤ g) ∧ t.length ≤ 10000000 ∧ t.length ≤ x.nodes.length ∧ TxOK x to_ t) ∨
  (e = .returned (.tuple #[.slice none 0 0, .bool false]) ∧ ∀ n, knB fr n = true → ¬ Way (Ere x.edges) n to_))
set_option linter.unusedSimpArgs false in
theorem way_any (x : Gr) (fr : List Bool) (fa : Option Addr) (fc : Nat) (to_ : Nat) (w : World) (hx : GrIn w x) (ok : GrOK x) (hf : BoolsIn w fa fr) (hl : fr.length = x.nodes.length) (hfr : ∀ n, knB fr n = true → 1 ≤ x.first.getD n 0) (ht : to_ < x.nodes.length) :
  Calls Tryd.prog 9 #[x.val, .slice fa fr.length fc, .int .i64 to_] w (WayPost x fr to_ w) := by
 obtain ⟨Q, hQ⟩ : ∃ Q, Q = WayPost x fr to_ w := ⟨_, rfl⟩
 rw [← hQ]
 have HQ := Lib.hid hQ
 obtain ⟨N, hN⟩ : ∃ N, N = fr.length := ⟨_, rfl⟩
 have hN64 : N ≤ 64 := by rw [hN, hl]; exact ok.ln
 have HNL := Lib.hid (show N = x.nodes.length by rw [hN, hl])
 have htN : to_ < N := by rw [hN, hl]; exact ht
 obtain ⟨B, hB⟩ : ∃ B, B = w.heap.size := ⟨_, rfl⟩
 obtain ⟨Y, hY⟩ : ∃ Y, Y = w.alloc (.cells x.row.toArray 26) := ⟨_, rfl⟩
 have hkY : Keeps [] w Y := by rw [hY]; exact Keeps.a1 _ _
 have hYs : Y.heap.size = B + 1 := by rw [hY, hB]; simp
 have hb : Y.heap[B]? = some (.cells x.row.toArray 26 (0, 0)) := by rw [hY, hB]; exact heap_alloc_new w _
 have HX := Lib.hid (hx.keep hkY)
 have HF := Lib.hid (hf.keep hkY)
 have HOK := Lib.hid ok
 have HFR := Lib.hid hfr
 have HN := Lib.hid hN
 have HL := Lib.hid hl
 have HY := Lib.hid (show w.alloc (.cells #[.slice x.ca x.cls.length x.cc, .slice x.na x.nodes.length x.nc, .slice x.fa x.first.length x.fc, .slice x.ea x.edges.length x.ec] 26) = Y by rw [hY]; rfl)
 have HB := Lib.hid hB
 have HYS := Lib.hid hYs
 have HK := Lib.hid hkY
 have HRW := Lib.hid hb
 obtain ⟨ii, hi0, hi1, hi2, hi3⟩ := infoParts infoInt
 obtain ⟨ij, hj0, hj1, hj2, hj3⟩ := infoParts infoIs
 obtain ⟨ik, hk0, hk1, hk2, hk3⟩ := infoParts infoBl
 have HI0 := Lib.hid hi0
 have HI1 := Lib.hid hi1
 have HI2 := Lib.hid hi2
 have HI3 := Lib.hid hi3
 have HMK : ∀ W : World, (Instr.makeSlice 63 (.int .i64 (N : Nat)) (.int .i64 (N : Nat))).run Tryd.prog W = .ok (.slice (some ⟨W.heap.size, 0, none⟩) N N) (W.alloc (.cells (Array.replicate N (.slice none 0 0)) 22)) :=
  fun W => run_make_nil Tryd.underlying63 hj0 hj1 hj2 hj3 W N (by omega)
 have HBI := Lib.hid (And.intro hk0 (And.intro hk1 (And.intro hk2 hk3)))
 obtain ⟨ea, hea⟩ : ∃ v, v = x.ea := ⟨_, rfl⟩
 obtain ⟨ca, hca⟩ : ∃ v, v = x.ca := ⟨_, rfl⟩
 simp only [Gr.val]
 rw [← hN]
 simp only [← hea, ← hca] at HY ⊢
 have HEA := Lib.hid hea
 have HCA := Lib.hid hca
 have hen : x.edges.length ≤ 65536 := HOK.out.le
 have HEIN := Lib.hid (show EdIn Y ea x.edges by rw [hea]; exact HX.out.edges)
 have HCIN := Lib.hid (show ClsIn Y ca x.cls by rw [hca]; exact HX.out.cls)
 clear hea hca
 clear hQ hN hB hY hkY hYs hb hx ok hf hl hfr ht hi0 hi1 hi2 hi3 hj0 hj1 hj2 hj3 hk0 hk1 hk2 hk3
 go_enter Tryd.func9, Tryd.ntmps9
 go_upto_region 1 with fail
 rw [HY.out, ← HB.out]
 go_upto_region 2 with fail
 obtain ⟨w1, hw1⟩ : ∃ w1, w1 = Y.alloc (.cells (Array.replicate N (.slice none 0 0)) 22) := ⟨_, rfl⟩
 obtain ⟨tb, htb⟩ : ∃ tb, tb = Y.heap.size := ⟨_, rfl⟩
 have hk1 : Keeps [] Y w1 := by rw [hw1]; exact Keeps.a1 _ _
 have htr : w1.heap[tb]? = some (.cells (Array.replicate N (.slice none 0 0)) 22 (0, 0)) := by rw [hw1, htb]; exact heap_alloc_new _ _
 have HTB := Lib.hid htb
 have HTR := Lib.hid htr
 have HK1 := Lib.hid hk1
 rw [← hw1, ← htb]
 clear hw1 htb htr hk1 HMK
 go_wp2_with (at_builtin; refine wpList_append_any rfl (.tmp 16) (.tmp 17) 36 rfl 4 ik _ 1 1 Tryd.underlying36 HBI.out.1 HBI.out.2.1 HBI.out.2.2.1 HBI.out.2.2.2 rfl (by decide) (some w1.heap.size) 0 0 [] rfl (sl_empty w1 _ _) fa N fc (fr.map Value.bool) rfl (by rw [List.length_map, HN.out]; omega) ?hns (by intro u hu; obtain ⟨x, _, rfl⟩ := List.mem_map.1 hu; rfl) (by omega) (by omega) ?hk)
 case hns =>
  have hh := bools_src (HF.out.keep (HK1.out.trans (Keeps.a1 w1 (.cells #[] 4))))
  intro h0
  exact hh (by rw [← HN.out]; exact h0)
 case hk =>
  intro a2 kc w2 hs2 hk2 ha2
  obtain ⟨kb, rfl⟩ := hs2.some_pos (by omega)
  have hkb : w1.heap.size ≤ kb := by
   rcases ha2 with h | ⟨g, h, h2⟩
   ·cases h; exact Nat.le_refl _
   ·cases h; have := (Keeps.a1 w1 (.cells #[] 4)).size; omega
  have hk12 : Keeps [] w1 w2 := (Keeps.a1 w1 (.cells #[] 4)).after hk2 (fun x hx => .inr (by simp at hx; subst hx; exact Nat.le_refl _))
  have hws : WS x Y N tb kb kc (fun _ => (none, 0)) (fun _ => []) fr 0 w2 := by
   refine ⟨HK1.out.trans hk12, ?_, fun i _ => SliceAt.nil _ _ _, (fun i _ g h => by cases h), ?_, ?_, fun i hi hk => ?_, fun i _ => Nat.le_refl _, fun i _ => Nat.zero_le _⟩
   ·rw [hk12.heap HTR.out (by simp)]
    congr 2
    apply Array.ext
    ·simp
    ·intro i h1 h2
     simp [slv]
   ·have h := hs2
    simpa using h
   ·have h1 := lt_of_block HTR.out
    have h2 := HTB.out
    omega
   ·exact TxOK.start (by rw [← HL.out, ← HN.out]; exact hi) (HFR.out i hk)
  have HWS := Lib.hid hws
  have HKX := Lib.hid (HK1.out.trans hk12)
  simp only [sv, Option.map_some, Nat.zero_add]
  clear hs2 hk2 ha2 hkb hk12 hws
  go_wp2
  go_loopw [10] (fun v wr => ∃ (r : Nat) (sl : Nat → Option Nat × Nat) (tx : Nat → List Int) (kn : List Bool), v = .int .i64 r ∧ r ≤ N + 1 ∧ kn = rounds_ x.edges fr r ∧ WS x Y N tb kb kc sl tx kn (r * 65536) wr ∧ ∀ j, j < r → knB (rounds_ x.edges fr j) to_ = false) (fun v _ => N + 1 - (intOf v).toNat)
  case atStart => exact ⟨0, _, _, _, rfl, Nat.zero_le _, rfl, by simpa [rounds_] using HWS.out, fun j h => absurd h (Nat.not_lt_zero _)⟩
  case round =>
   obtain ⟨r, sl, tx, kn, rfl, hr, hkn, hws, hno⟩ := hrel
   obtain ⟨wA, hwA⟩ : ∃ wA : World, wA = wr := ⟨_, rfl⟩
   subst hwA
   have HW := Lib.hid hws
   have HNO := Lib.hid hno
   have HKN := Lib.hid hkn
   by_cases hrn : r ≤ N
   ·have k0 := hws.kcell htN
    obtain ⟨kt, hkt⟩ : ∃ kt, kt = knB kn to_ := ⟨_, rfl⟩
    rw [← hkt] at k0
    cases kt with
    | true =>
     have t0 := hws.cell htN
     have HT := Lib.hid (hws.ok to_ htN hkt.symm)
     have HLN := Lib.hid (hws.ln to_ htN)
     have HLC := Lib.hid (show (tx to_).length ≤ N from Nat.le_trans (hws.lc to_ htN) (by have h := List.length_filter_le id kn; rw [hws.klen] at h; exact h))
     have HSL := Lib.hid (hws.sls to_ htN)
     have HFRS := Lib.hid (hws.fr to_ htN)
     obtain ⟨tt, htt⟩ : ∃ tt, tt = tx to_ := ⟨_, rfl⟩
     obtain ⟨sa, hsa⟩ : ∃ sa, sa = sl to_ := ⟨_, rfl⟩
     rw [← htt, ← hsa] at t0 HSL
     rw [← htt] at HT HLN HLC
     rw [← hsa] at HFRS
     clear hws hno hkn hkt htt hsa
     go_wp2
     rw [HQ.out]
     refine ⟨HK.out.trans HW.out.kp, .inl ⟨sa.1, sa.2, tt, rfl, HSL.out, fun g hg => ?_, by have := HLN.out; omega, by rw [← HNL.out]; exact HLC.out, HT.out⟩⟩
     have h1 := (HFRS.out g hg).1
     have h2 := HK.out.size
     omega
    | false =>
     have HKT := Lib.hid hkt
     clear hws hno hkn hkt
     obtain ⟨b0, _, _, b3⟩ := row_cells4 (HW.out.kp.heap HRW.out (by simp))
     rw [← HCA.out] at b0
     rw [← HEA.out] at b3
     have B0 := Lib.hid b0
     have B3 := Lib.hid b3
     go_wp2
     go_loopw [11] (fun v wr => ∃ (q : Nat) (sl : Nat → Option Nat × Nat) (tx : Nat → List Int) (kn' : List Bool), v = .int .i64 q ∧ q ≤ x.edges.length ∧ kn' = (x.edges.take q).foldl kstep kn ∧ WS x Y N tb kb kc sl tx kn' (r * 65536 + q) wr) (fun v _ => x.edges.length - (intOf v).toNat)
     case atStart => exact ⟨0, sl, tx, kn, rfl, Nat.zero_le _, rfl, HW.out.more (by omega)⟩
     case round =>
      clear b0 b3 k0
      obtain ⟨q, sl, tx, kn', rfl, hq, hkn', hws⟩ := hrel
      obtain ⟨wB, hwB⟩ : ∃ wB : World, wB = wr := ⟨_, rfl⟩
      subst hwB
      have HWB := Lib.hid hws
      have HKN' := Lib.hid hkn'
      have hrow := hws.kp.heap HRW.out (by simp)
      obtain ⟨b0, _, _, b3⟩ := row_cells4 hrow
      rw [← HCA.out] at b0
      rw [← HEA.out] at b3
      by_cases hqn : q < x.edges.length
      ·obtain ⟨eb, eoff, hee, hec⟩ := (HEIN.out.keep hws.kp) (by omega)
       rw [hee] at b3
       obtain ⟨e0, e1, e2, e3⟩ := hec q hqn
       have hoe := HOK.out.ed x.edges[q] (List.getElem_mem hqn)
       have htk : x.edges.take (q + 1) = x.edges.take q ++ [x.edges[q]] := List.take_succ_eq_append_getElem hqn
       have HSTP := Lib.hid (fun (hm : WS x Y N tb kb kc sl tx kn' (r * 65536 + q) wB → TxOK x (x.edges[q]).tt.toNat [] → True) => hm)
       have hmem := List.getElem_mem hqn
       obtain ⟨ed, hede⟩ : ∃ ed, ed = x.edges[q] := ⟨_, rfl⟩
       rw [← hede] at e0 e1 e2 e3 hoe htk hmem
       have HKS := Lib.hid (show (x.edges.take (q + 1)).foldl kstep kn = kstep kn' ed by rw [htk, List.foldl_append, ← hkn']; rfl)
       have HTX := Lib.hid (fun (t : List Int) (h : TxOK x ed.fr.toNat t) => h.step HOK.out hmem)
       obtain ⟨ef, et, ek, ew⟩ := ed
       simp only at e0 e1 e2 e3 hoe HTX
       obtain ⟨⟨hf0, hf1⟩, ⟨ht0, ht1⟩, ⟨hk0, hk1⟩, _, _⟩ := hoe
       obtain ⟨f, rfl⟩ := Int.eq_ofNat_of_zero_le hf0
       obtain ⟨t, rfl⟩ := Int.eq_ofNat_of_zero_le ht0
       have hfN : f < N := by have h1 := HN.out; have h2 := HL.out; omega
       have htN2 : t < N := by have h1 := HN.out; have h2 := HL.out; omega
       have kf := hws.kcell hfN
       have kt := hws.kcell htN2
       obtain ⟨bf, hbf⟩ : ∃ bf, bf = knB kn' f := ⟨_, rfl⟩
       obtain ⟨bt, hbt⟩ : ∃ bt, bt = knB kn' t := ⟨_, rfl⟩
       rw [← hbf] at kf
       rw [← hbt] at kt
       obtain ⟨D, hD⟩ : ∃ D, D = wB.heap.size := ⟨_, rfl⟩
       obtain ⟨Z, hZ⟩ : ∃ Z, Z = wB.alloc (.cells #[.int .i64 (f : Nat), .int .i64 (t : Nat), .int .i64 ek, .int .i64 ew] 48) := ⟨_, rfl⟩
       have hkZ : Keeps [] wB Z := by rw [hZ]; exact Keeps.a1 _ _
       have hZH : Z.heap[D]? = some (.cells #[.int .i64 (f : Nat), .int .i64 (t : Nat), .int .i64 ek, .int .i64 ew] 48 (0, 0)) := by rw [hZ, hD]; exact heap_alloc_new wB _
       have z0 : Z.cell? ⟨D, 0, none⟩ = some (.int .i64 (f : Nat)) := by simp [World.cell?, hZH]
       have z1 : Z.cell? ⟨D, 1, none⟩ = some (.int .i64 (t : Nat)) := by simp [World.cell?, hZH]
       have z2 : Z.cell? ⟨D, 2, none⟩ = some (.int .i64 ek) := by simp [World.cell?, hZH]
       have kf := hkZ.cell kf (by simp)
       have kt := hkZ.cell kt (by simp)
       have HWZ := Lib.hid (hws.keep hkZ)
       have HZ := Lib.hid hZ
       have HD := Lib.hid hD
       have HKFT := Lib.hid (And.intro hbf hbt)
       have HB0 := Lib.hid (hkZ.cell b0 (by simp))
       rw [hee]
       clear hec hede htk hmem hws hrow hkn' hbf hbt hZ hD hkZ hZH hf0 hf1 ht0 ht1 HSTP hee
       go_upto_region 12 with fail
       rw [← HZ.out, ← HD.out]
       clear e0 e1 e2 e3 b0 b3
       cases bf with
       | false =>
        have HE := Lib.hid (show kn' = (x.edges.take (q + 1)).foldl kstep kn by
         rw [HKS.out, kstep, if_neg]
         rintro ⟨h1, _⟩
         simp only [Int.toNat_natCast] at h1
         rw [← HKFT.out.1] at h1
         cases h1)
        go_wp2
        go_roundw
        case rel => exact ⟨q + 1, sl, tx, kn', by go_num, hqn, HE.out, HWZ.out.more (by omega)⟩
        case measure => simp [intOf]; omega
       | true =>
        cases bt with
        | true =>
         have HE := Lib.hid (show kn' = (x.edges.take (q + 1)).foldl kstep kn by
          rw [HKS.out, kstep, if_neg]
          rintro ⟨_, h1⟩
          simp only [Int.toNat_natCast] at h1
          rw [← HKFT.out.2] at h1
          cases h1)
         go_wp2
         go_roundw
         case rel => exact ⟨q + 1, sl, tx, kn', by go_num, hqn, HE.out, HWZ.out.more (by omega)⟩
         case measure => simp [intOf]; omega
        | false =>
         have hft : f ≠ t := by
          rintro rfl
          have h1 := HKFT.out.1
          have h2 := HKFT.out.2
          rw [← h1] at h2
          cases h2
         obtain ⟨k, rfl⟩ := Int.eq_ofNat_of_zero_le hk0
         have hkc : k < x.cls.length := by omega
         have hw := HWZ.out
         have hnw := hw.nw
         have kfz := hw.kfz t
         obtain ⟨w5, hw5⟩ : ∃ w5, w5 = Z.setCell ⟨kb, t, none⟩ (.bool true) := ⟨_, rfl⟩
         have hk5 : Keeps [kb] Z w5 := by rw [hw5]; exact (Keeps.refl [kb] Z).setCell (by simp) _
         have hkbB : kb < D := by have h1 := HWB.out.kns.lt; have h2 := HD.out; omega
         have hYB : B < Y.heap.size := by have := HYS.out; omega
         have hkY5 : Keeps [] Y w5 := hw.kp.after hk5 (fun q hq => .inr (by simp at hq; subst hq; exact hnw.1))
         have z0 := hk5.cell z0 (by simp; omega)
         have z1 := hk5.cell z1 (by simp; omega)
         have z2 := hk5.cell z2 (by simp; omega)
         have b0 := hk5.cell HB0.out (by simp; omega)
         have tf := hk5.cell (hw.cell hfN) (by simp; exact hnw.2.1.symm)
         obtain ⟨cb, coff, hcae, hcc⟩ := (HCIN.out.keep hkY5) (by omega)
         have c0 := hcc k hkc
         obtain ⟨hsp0, hsp1⟩ := HOK.out.cls x.cls[k] (List.getElem_mem hkc)
         obtain ⟨sb, soff, hsae, hsc⟩ := ((HX.out.sp x.cls[k] (List.getElem_mem hkc)).keep hkY5) (List.length_pos_iff.2 hsp0)
         have s0 := (hsc 0 (List.length_pos_iff.2 hsp0)).1
         simp only [Nat.zero_mul, Nat.add_zero] at s0
         rw [hsae] at c0
         rw [hcae] at b0
         have hlo : loOf x.cls (k : Int) = ((x.cls[k]).sp[0]'(List.length_pos_iff.2 hsp0)).1 := by
          simp [loOf, List.getD, hkc, List.length_pos_iff.2 hsp0]
         have hspl : 0 < (x.cls[k]).sp.length := List.length_pos_iff.2 hsp0
         obtain ⟨lo, hloe⟩ : ∃ lo, lo = ((x.cls[k]).sp[0]'(List.length_pos_iff.2 hsp0)).1 := ⟨_, rfl⟩
         rw [← hloe] at s0 hlo
         obtain ⟨sn, hsn⟩ : ∃ n, n = (x.cls[k]).sp.length := ⟨_, rfl⟩
         obtain ⟨scc, hscc⟩ : ∃ n, n = (x.cls[k]).c := ⟨_, rfl⟩
         rw [← hsn, ← hscc] at c0
         rw [← hsn] at hspl
         have HTXT := Lib.hid (show TxOK x t (tx f ++ [lo]) by
          have h := HTX.out (tx f) (by simp only [Int.toNat_natCast]; exact hw.ok f hfN HKFT.out.1.symm)
          simp only [Int.toNat_natCast] at h
          rw [← hlo]
          exact h)
         have HLEN := Lib.hid (hw.ln f hfN)
         have HSRC := Lib.hid (ints_src ((hw.sls f hfN).keep hk5 (fun g hg hm => by simp at hm; exact (hw.fr f hfN g hg).2.2 hm)).to_in)
         have HKEND := Lib.hid (show kn'.set t true = (x.edges.take (q + 1)).foldl kstep kn by
          rw [HKS.out, kstep, if_pos]
          ·simp only [Int.toNat_natCast]
          ·simp only [Int.toNat_natCast]
           exact ⟨HKFT.out.1.symm, HKFT.out.2.symm⟩)
         have HZE := Lib.hid (show wB.heap.size ≤ Z.heap.size by rw [HZ.out]; simp)
         have HSRCK := Lib.hid (show ∀ W, Keeps [] w5 W → 0 < (tx f).length → ∃ ad, ((sl f).1.map fun g => (⟨g, 0, none⟩ : Addr)) = some ad ∧ ∀ j u, ((tx f).map (Value.int .i64))[j]? = some u → W.cell? (ad.add j) = some u from fun W hW => ints_src ((((hw.sls f hfN).keep hk5 (fun g hg hm => by simp at hm; exact (hw.fr f hfN g hg).2.2 hm)).keep hW (by simp)).to_in))
         have HSF := Lib.hid ((hw.sls f hfN).keep hk5 (fun g hg hm => by simp at hm; exact (hw.fr f hfN g hg).2.2 hm))
         have HT5 := Lib.hid (show w5.cell? ⟨tb, t, none⟩ = some (.slice ((sl t).1.map fun g => ⟨g, 0, none⟩) (tx t).length (sl t).2) from hk5.cell (hw.cell htN2) (by simp; exact hnw.2.1.symm))
         have HTR5 := Lib.hid (hk5.heap hw.row (by simp; exact hnw.2.1.symm))
         obtain ⟨fa1, hfa1⟩ : ∃ v, v = (sl f).1.map fun g => (⟨g, 0, none⟩ : Addr) := ⟨_, rfl⟩
         obtain ⟨fl1, hfl1⟩ : ∃ v, v = (tx f).length := ⟨_, rfl⟩
         obtain ⟨fc1, hfc1⟩ : ∃ v, v = (sl f).2 := ⟨_, rfl⟩
         rw [← hfa1, ← hfl1, ← hfc1] at tf
         rw [← hfa1] at HSRC HSRCK
         rw [← hfl1] at HLEN
         have HFL := Lib.hid hfl1
         have HW5 := Lib.hid hw5
         have HZS := Lib.hid (show wB.heap.size ≤ Z.heap.size ∧ Z.heap.size ≤ w5.heap.size from ⟨HZE.out, hk5.size⟩)
         have hfl2 : fl1 ≤ 10000000 := by have := HLEN.out; omega
         have HSS := Lib.hid (show ∀ W, Keeps [] w5 W → ((W.cell? ⟨D, 0, none⟩ = some (.int .i64 (f : Nat)) ∧ W.cell? ⟨D, 1, none⟩ = some (.int .i64 (t : Nat)) ∧ W.cell? ⟨D, 2, none⟩ = some (.int .i64 (k : Nat))) ∧ W.cell? ⟨B, 0, none⟩ = some (.slice (some ⟨cb, coff, none⟩) x.cls.length x.cc) ∧ W.cell? ⟨tb, f, none⟩ = some (.slice fa1 fl1 fc1) ∧ W.cell? ⟨cb, coff + k, none⟩ = some (.slice (some ⟨sb, soff, none⟩) sn scc) ∧ W.cell? ⟨sb, soff, none⟩ = some (.int .i64 lo)) from
          fun W hW => ⟨⟨hW.cell z0 (by simp), hW.cell z1 (by simp), hW.cell z2 (by simp)⟩, hW.cell b0 (by simp), hW.cell tf (by simp), hW.cell c0 (by simp), hW.cell s0 (by simp)⟩)
         have hcbY : cb < Y.heap.size := by
          obtain ⟨cb2, coff2, h1, h2⟩ := HCIN.out (by omega)
          rw [hcae] at h1
          cases h1
          exact World.block_lt_of_cell? _ _ (h2 k hkc)
         have hsbY : sb < Y.heap.size := by
          obtain ⟨sb2, soff2, h1, h2⟩ := (HX.out.sp x.cls[k] (List.getElem_mem hkc)) (List.length_pos_iff.2 hsp0)
          rw [hsae] at h1
          cases h1
          exact World.block_lt_of_cell? _ _ (h2 0 (List.length_pos_iff.2 hsp0)).1
         have htbD : tb < D := by have h1 := lt_of_block HWB.out.row; have h2 := HD.out; omega
         have HST := Lib.hid (show ∀ W v, Keeps [] w5 W → (((W.setCell ⟨tb, t, none⟩ v).cell? ⟨D, 0, none⟩ = some (.int .i64 (f : Nat)) ∧ (W.setCell ⟨tb, t, none⟩ v).cell? ⟨D, 1, none⟩ = some (.int .i64 (t : Nat)) ∧ (W.setCell ⟨tb, t, none⟩ v).cell? ⟨D, 2, none⟩ = some (.int .i64 (k : Nat))) ∧ (W.setCell ⟨tb, t, none⟩ v).cell? ⟨B, 0, none⟩ = some (.slice (some ⟨cb, coff, none⟩) x.cls.length x.cc) ∧ (W.setCell ⟨tb, t, none⟩ v).cell? ⟨tb, f, none⟩ = some (.slice fa1 fl1 fc1) ∧ (W.setCell ⟨tb, t, none⟩ v).cell? ⟨cb, coff + k, none⟩ = some (.slice (some ⟨sb, soff, none⟩) sn scc) ∧ (W.setCell ⟨tb, t, none⟩ v).cell? ⟨sb, soff, none⟩ = some (.int .i64 lo)) from
          fun W v hW => by
           obtain ⟨⟨q0, q1, q2⟩, q3, q4, q5, q6⟩ := HSS.out W hW
           have hks : Keeps [tb] W (W.setCell ⟨tb, t, none⟩ v) := (Keeps.refl [tb] W).setCell (by simp) v
           have hYtb := HTB.out
           refine ⟨⟨hks.cell q0 (by simp; omega), hks.cell q1 (by simp; omega), hks.cell q2 (by simp; omega)⟩, hks.cell q3 (by simp; omega), ?_, hks.cell q5 (by simp; omega), hks.cell q6 (by simp; omega)⟩
           have hr := hW.heap HTR5.out (by simp)
           have hr2 := heap_setCell_same W tb t _ _ v hr
           rw [← q4]
           simp only [World.cell?, hr, hr2]
           simp [Array.getElem?_setIfInBounds, Ne.symm hft])
         clear hcbY hsbY htbD
         clear hw hnw hk5 hkbB hYB hkY5 hcae hcc hsp0 hsp1 hsae hsc hlo hloe hsn hscc hfa1 hfl1 hfc1 hw5 z0 z1 z2 b0 tf c0 s0
         go_upto_region 14 with fail
         rw [← HW5.out]
         clear kf kt kfz
         refine wp_region_held_drew (S := fun W => ((W.cell? ⟨D, 0, none⟩ = some (.int .i64 (f : Nat)) ∧ W.cell? ⟨D, 1, none⟩ = some (.int .i64 (t : Nat)) ∧ W.cell? ⟨D, 2, none⟩ = some (.int .i64 (k : Nat))) ∧ W.cell? ⟨B, 0, none⟩ = some (.slice (some ⟨cb, coff, none⟩) x.cls.length x.cc) ∧ W.cell? ⟨tb, f, none⟩ = some (.slice fa1 fl1 fc1) ∧ W.cell? ⟨cb, coff + k, none⟩ = some (.slice (some ⟨sb, soff, none⟩) sn scc) ∧ W.cell? ⟨sb, soff, none⟩ = some (.int .i64 lo))) (by kernel_rfl) (HSS.out _ ((Keeps.refl [] w5).drew)) (fun hHeld => ?_)
         refine take_on (i := 0) (v := ?_) rfl (by kernel_rfl) (by kernel_rfl) (by kernel_rfl) (fun _ _ _ h => h) (by rfl) (by assumption) ?_ ?_
         rotate_left
         ·((intro w hSw; (try dsimp only at hSw); go_simp <;> with_reducible rfl); done)
         try simp only [Act.put, List.setIfInBounds_toArray, List.set_cons_zero, List.set_cons_succ]
         refine take_on (i := 1) (v := ?_) rfl (by kernel_rfl) (by kernel_rfl) (by kernel_rfl) (fun _ _ _ h => h) (by rfl) (by assumption) ?_ ?_
         rotate_left
         ·((intro w hSw; (try dsimp only at hSw); go_simp <;> with_reducible rfl); done)
         try simp only [Act.put, List.setIfInBounds_toArray, List.set_cons_zero, List.set_cons_succ]
         refine take_on (i := 2) (v := ?_) rfl (by kernel_rfl) (by kernel_rfl) (by kernel_rfl) (fun _ _ _ h => h) (by rfl) (by assumption) ?_ ?_
         rotate_left
         ·((intro w hSw; (try dsimp only at hSw); go_simp <;> with_reducible rfl); done)
         try simp only [Act.put, List.setIfInBounds_toArray, List.set_cons_zero, List.set_cons_succ]
         refine take_on (i := 4) (v := ?_) rfl (by kernel_rfl) (by kernel_rfl) (by kernel_rfl) (fun _ _ _ h => h) (by rfl) (by assumption) ?_ ?_
         rotate_left
         ·((intro w hSw; (try dsimp only at hSw); go_simp <;> with_reducible rfl); done)
         try simp only [Act.put, List.setIfInBounds_toArray, List.set_cons_zero, List.set_cons_succ]
         refine take_on (i := 5) (v := ?_) rfl (by kernel_rfl) (by kernel_rfl) (by kernel_rfl) (fun _ _ _ h => h) (by rfl) (by assumption) ?_ ?_
         rotate_left
         ·((intro w hSw; (try dsimp only at hSw); go_simp <;> with_reducible rfl); done)
         try simp only [Act.put, List.setIfInBounds_toArray, List.set_cons_zero, List.set_cons_succ]
         refine take_on (i := 6) (v := ?_) rfl (by kernel_rfl) (by kernel_rfl) (by kernel_rfl) (fun _ _ _ h => h) (by rfl) (by assumption) ?_ ?_
         rotate_left
         ·((intro w hSw; (try dsimp only at hSw); go_simp <;> with_reducible rfl); done)
         try simp only [Act.put, List.setIfInBounds_toArray, List.set_cons_zero, List.set_cons_succ]
         refine take_on (i := 7) (v := ?_) rfl (by kernel_rfl) (by kernel_rfl) (by kernel_rfl) (fun _ _ _ h => h) (by rfl) (by assumption) ?_ ?_
         rotate_left
         ·((intro w hSw; (try dsimp only at hSw); go_simp <;> with_reducible rfl); done)
         try simp only [Act.put, List.setIfInBounds_toArray, List.set_cons_zero, List.set_cons_succ]
         refine take_on (i := 8) (v := ?_) rfl (by kernel_rfl) (by kernel_rfl) (by kernel_rfl) (fun _ _ _ h => h) (by rfl) (by assumption) ?_ ?_
         rotate_left
         ·((intro w hSw; (try dsimp only at hSw); go_simp <;> with_reducible rfl); done)
         try simp only [Act.put, List.setIfInBounds_toArray, List.set_cons_zero, List.set_cons_succ]
         refine take_on (i := 10) (v := ?_) rfl (by kernel_rfl) (by kernel_rfl) (by kernel_rfl) (fun _ _ _ h => h) (by rfl) (by assumption) ?_ ?_
         rotate_left
         ·((intro w hSw; (try dsimp only at hSw); go_simp <;> with_reducible rfl); done)
         try simp only [Act.put, List.setIfInBounds_toArray, List.set_cons_zero, List.set_cons_succ]
         refine take_on (i := 11) (v := ?_) rfl (by kernel_rfl) (by kernel_rfl) (by kernel_rfl) (fun _ _ _ h => h) (by rfl) (by assumption) ?_ ?_
         rotate_left
         ·((intro w hSw; (try dsimp only at hSw); go_simp <;> with_reducible rfl); done)
         try simp only [Act.put, List.setIfInBounds_toArray, List.set_cons_zero, List.set_cons_succ]
         refine take_on (i := 12) (v := ?_) rfl (by kernel_rfl) (by kernel_rfl) (by kernel_rfl) (fun _ _ _ h => h) (by rfl) (by assumption) ?_ ?_
         rotate_left
         ·((intro w hSw; (try dsimp only at hSw); go_simp <;> with_reducible rfl); done)
         try simp only [Act.put, List.setIfInBounds_toArray, List.set_cons_zero, List.set_cons_succ]
         refine take_on (i := 13) (v := ?_) rfl (by kernel_rfl) (by kernel_rfl) (by kernel_rfl) (fun _ _ _ h => h) (by rfl) (by assumption) ?_ ?_
         rotate_left
         ·((intro w hSw; (try dsimp only at hSw); go_simp <;> with_reducible rfl); done)
         try simp only [Act.put, List.setIfInBounds_toArray, List.set_cons_zero, List.set_cons_succ]
         refine take_on (i := 14) (v := ?_) rfl (by kernel_rfl) (by kernel_rfl) (by kernel_rfl) (fun _ _ _ h => h) (by rfl) (by assumption) ?_ ?_
         rotate_left
         ·((intro w hSw; (try dsimp only at hSw); go_simp <;> with_reducible rfl); done)
         try simp only [Act.put, List.setIfInBounds_toArray, List.set_cons_zero, List.set_cons_succ]
         refine take_on (i := 15) (v := ?_) rfl (by kernel_rfl) (by kernel_rfl) (by kernel_rfl) (fun _ _ _ h => h) (by rfl) (by assumption) ?_ ?_
         rotate_left
         ·((intro w hSw; (try dsimp only at hSw); go_simp <;> with_reducible rfl); done)
         try simp only [Act.put, List.setIfInBounds_toArray, List.set_cons_zero, List.set_cons_succ]
         refine take_on (i := 16) (v := ?_) rfl (by kernel_rfl) (by kernel_rfl) (by kernel_rfl) (fun _ _ _ h => h) (by rfl) (by assumption) ?_ ?_
         rotate_left
         ·((intro w hSw; (try dsimp only at hSw); go_simp <;> with_reducible rfl); done)
         try simp only [Act.put, List.setIfInBounds_toArray, List.set_cons_zero, List.set_cons_succ]
         refine take_on (i := 17) (v := ?_) rfl (by kernel_rfl) (by kernel_rfl) (by kernel_rfl) (fun _ _ _ h => h) (by rfl) (by assumption) ?_ ?_
         rotate_left
         ·((intro w hSw; (try dsimp only at hSw); go_simp <;> with_reducible rfl); done)
         try simp only [Act.put, List.setIfInBounds_toArray, List.set_cons_zero, List.set_cons_succ]
         refine take_on (i := 18) (v := ?_) rfl (by kernel_rfl) (by kernel_rfl) (by kernel_rfl) (fun _ _ _ h => h) (by rfl) (by assumption) ?_ ?_
         rotate_left
         ·((intro w hSw; (try dsimp only at hSw); go_simp <;> with_reducible rfl); done)
         try simp only [Act.put, List.setIfInBounds_toArray, List.set_cons_zero, List.set_cons_succ]
         refine branch_two (i := 3) (j := 19) rfl rfl (by kernel_rfl) (by rfl) (by rfl) (fun K hK => ?_) (fun K hK => ?_)
         ·go_simp
          have KA := Lib.hid (show Keeps [] w5 (w5.alloc (.cells #[] 3)).drew from ((Keeps.refl [] w5).alloc _).drew)
          obtain ⟨ge, hge⟩ : ∃ ge, ge = w5.heap.size := ⟨_, rfl⟩
          have HEA1 := Lib.hid (show SliceAt (w5.alloc (.cells #[] 3)).drew 3 1 (some ge) 0 0 [] by rw [hge]; exact (sl_empty w5 3 1).keep ((Keeps.refl [] _).drew) (by simp))
          have HGE := Lib.hid (show w5.heap.size ≤ ge by omega)
          have HGEE := Lib.hid hge
          rw [← hge]
          clear hge
          refine hK.out _ _ (HSS.out _ (KA.out)) (fun hHeld => ?_)
          clear hK K
          try simp only [Act.put, List.setIfInBounds_toArray, List.set_cons_zero, List.set_cons_succ]
          refine branch_two (i := 9) (j := 19) rfl rfl (by kernel_rfl) (by rfl) (by rfl) (fun K hK => ?_) (fun K hK => ?_)
          ·refine wp_append_any0 (.tmp 65) (.tmp 70) 22 rfl 3 ii _ 1 8 Tryd.underlying22 HI0.out HI1.out HI2.out HI3.out rfl (by decide) (some ge) 0 0 [] rfl (HEA1.out) fa1 fl1 fc1 ((tx f).map (Value.int .i64)) rfl (by rw [List.length_map, HFL.out]; omega) (by rw [HFL.out]; exact HSRCK.out _ (KA.out)) (ints_cells _) (by omega) (by omega) ?_
           intro a9 c9 w9 hs9 hk9 ha9
           simp only [Nat.zero_add, List.nil_append] at hs9
           simp only [Nat.zero_add]
           have k9 : Keeps [] w5 w9 := (KA.out).after hk9 (fun q hq => .inr (by simp at hq; subst hq; exact HGE.out))
           have hg9 : ∀ g, a9 = some g → w5.heap.size ≤ g := fun g hg => by
            rcases ha9 with h | ⟨g', h, h2⟩
            ·rw [h] at hg; cases hg; exact HGE.out
            ·rw [h] at hg; cases hg; exact Nat.le_trans (KA.out).size h2
           have HS9 := Lib.hid hs9
           have HG9 := Lib.hid hg9
           have HSZ9 := Lib.hid (show ge < w9.heap.size from Nat.lt_of_lt_of_le (HEA1.out).lt hk9.size)
           clear hs9 hk9 ha9 hg9
           refine hK.out _ _ (HSS.out _ k9) (fun hHeld => ?_)
           clear hK K
           try simp only [Act.put, List.setIfInBounds_toArray, List.set_cons_zero, List.set_cons_succ]
           refine branch_one (i := 19) rfl (by kernel_rfl) (by rfl) (fun K hK => ?_)
           go_simp
           have k19 : Keeps [] w5 (w9.alloc (.cells #[.int .i64 lo] 3)) := k9.alloc _
           refine hK.out _ _ (HSS.out _ k19) (fun hHeld => ?_)
           clear hK K
           try simp only [Act.put, List.setIfInBounds_toArray, List.set_cons_zero, List.set_cons_succ]
           refine branch_one (i := 20) rfl (by kernel_rfl) (by rfl) (fun K hK => ?_)
           refine wp_append_sl (.tmp 71) (.tmp 81) 22 rfl 3 ii _ 1 8 Tryd.underlying22 HI0.out HI1.out HI2.out HI3.out rfl (by decide) a9 fl1 c9 ((tx f).map (Value.int .i64)) rfl (HS9.out.alloc _) ⟨w9.heap.size, 0, none⟩ 1 1 [.int .i64 lo] rfl rfl (news_row w9 [.int .i64 lo] 3) (int_one _) (by decide) (by omega) (by omega) ?_
           intro g c10 w10 hs10 hk10 hg10
           have k10 : Keeps [] w5 w10 := (k19).after hk10 (fun q hq => .inr (HG9.out q (by simpa using hq)))
           have hgz : Z.heap.size ≤ g := by
            have h1 := HZS.out
            rcases hg10 with h | h
            ·have := HG9.out g h; omega
            ·have := (k19).size; omega
           have HSTEP := Lib.hid (HWZ.out.step htN2 HTXT.out (by rw [List.length_append, ← HFL.out]; have := HLEN.out; simp; omega) HKFT.out.2.symm (by rw [List.length_append]; have := HWZ.out.lc f hfN; simp; omega) HW5.out k10 (g := g) (c := c10) (by
            have h := hs10
            rw [List.length_append, ← HFL.out, List.map_append]
            simpa using h) hgz)
           have HK10 := Lib.hid k10
           have ht10 := k10.cell HT5.out (by simp)
           have hf10 : w10.frozen? ⟨tb, t, none⟩ = false := by simp [World.frozen?, k10.heap HTR5.out (by simp)]
           have hlenE : ((tx f ++ [lo]).length : Nat) = fl1 + 1 := by rw [List.length_append, HFL.out]; simp
           rw [hlenE] at HSTEP
           clear hs10 hk10 hg10 k10 hgz hlenE
           refine hK.out _ _ (HSS.out _ HK10.out) (fun hHeld => ?_)
           clear hK K
           try simp only [Act.put, List.setIfInBounds_toArray, List.set_cons_zero, List.set_cons_succ]
           refine take_on (i := 21) (v := ?_) rfl (by kernel_rfl) (by kernel_rfl) (by kernel_rfl) (fun _ _ _ h => h) (by rfl) (by assumption) ?_ ?_
           rotate_left
           ·((intro w hSw; (try dsimp only at hSw); go_simp <;> with_reducible rfl); done)
           try simp only [Act.put, List.setIfInBounds_toArray, List.set_cons_zero, List.set_cons_succ]
           refine branch_one (i := 22) rfl (by kernel_rfl) (by rfl) (fun K hK => ?_)
           go_simp
           refine hK.out _ _ (HST.out _ _ HK10.out) (fun hHeld => ?_)
           clear hK K
           try simp only [Act.put, List.setIfInBounds_toArray, List.set_cons_zero, List.set_cons_succ]
           refine wpAnyH_done (by kernel_rfl) ?_ _
           clear ht10 hf10
           go_wp2
           go_roundw
           case rel => exact ⟨q + 1, _, _, _, by go_num, hqn, HKEND.out, HSTEP.out.more (by omega)⟩
           case measure => simp [intOf]; omega
          ·go_simp
           have K19 := Lib.hid (show Keeps [] w5 ((w5.alloc (.cells #[] 3)).alloc (.cells #[.int .i64 lo] 3)).drew from (((Keeps.refl [] w5).alloc _).alloc _).drew)
           have HEA2 := Lib.hid (show SliceAt ((w5.alloc (.cells #[] 3)).alloc (.cells #[.int .i64 lo] 3)).drew 3 1 (some ge) 0 0 [] by rw [HGEE.out]; exact (sl_empty w5 3 1).keep (((Keeps.refl [] (w5.alloc (.cells #[] 3))).alloc (.cells #[.int .i64 lo] 3)).drew) (by simp))
           obtain ⟨gl, hgl⟩ : ∃ gl, gl = w5.heap.size + 1 := ⟨_, rfl⟩
           have HLOC := Lib.hid (show ((w5.alloc (.cells #[] 3)).alloc (.cells #[.int .i64 lo] 3)).drew.cell? ⟨gl, 0, none⟩ = some (.int .i64 lo) from by
            have h := heap_alloc2_new w5 (.cells #[] 3) (.cells #[.int .i64 lo] 3)
            rw [← hgl] at h
            exact (show ((w5.alloc (.cells #[] 3)).alloc (.cells #[.int .i64 lo] 3)).cell? ⟨gl, 0, none⟩ = some (.int .i64 lo) from by
             generalize (w5.alloc (.cells #[] 3)).alloc (.cells #[.int .i64 lo] 3) = W at h ⊢
             simp [World.cell?, h]))
           have HGLE := Lib.hid (show gl ≠ ge by have := HGEE.out; omega)
           rw [← hgl]
           clear hgl
           refine hK.out _ _ (HSS.out _ (K19.out)) (fun hHeld => ?_)
           clear hK K
           try simp only [Act.put, List.setIfInBounds_toArray, List.set_cons_zero, List.set_cons_succ]
           refine branch_one (i := 9) rfl (by kernel_rfl) (by rfl) (fun K hK => ?_)
           refine wp_append_any0 (.tmp 65) (.tmp 70) 22 rfl 3 ii _ 1 8 Tryd.underlying22 HI0.out HI1.out HI2.out HI3.out rfl (by decide) (some ge) 0 0 [] rfl (HEA2.out) fa1 fl1 fc1 ((tx f).map (Value.int .i64)) rfl (by rw [List.length_map, HFL.out]; omega) (by rw [HFL.out]; exact HSRCK.out _ (K19.out)) (ints_cells _) (by omega) (by omega) ?_
           intro a9 c9 w9 hs9 hk9 ha9
           simp only [Nat.zero_add, List.nil_append] at hs9
           simp only [Nat.zero_add]
           have k9 : Keeps [] w5 w9 := (K19.out).after hk9 (fun q hq => .inr (by simp at hq; subst hq; exact HGE.out))
           have hg9 : ∀ g, a9 = some g → w5.heap.size ≤ g := fun g hg => by
            rcases ha9 with h | ⟨g', h, h2⟩
            ·rw [h] at hg; cases hg; exact HGE.out
            ·rw [h] at hg; cases hg; exact Nat.le_trans (K19.out).size h2
           have HS9 := Lib.hid hs9
           have HG9 := Lib.hid hg9
           have HSZ9 := Lib.hid (show ge < w9.heap.size from Nat.lt_of_lt_of_le (HEA2.out).lt hk9.size)
           have hlo9 := hk9.cell HLOC.out (by simpa using HGLE.out)
           have HNW := Lib.hid (show ∀ j u, [Value.int .i64 lo][j]? = some u → w9.cell? ((⟨gl, 0, none⟩ : Addr).add j) = some u from fun j u hu => by
            cases j with
            | zero => simp at hu; subst hu; exact hlo9
            | succ j => simp at hu)
           clear hs9 hk9 ha9 hg9 hlo9
           refine hK.out _ _ (HSS.out _ k9) (fun hHeld => ?_)
           clear hK K
           try simp only [Act.put, List.setIfInBounds_toArray, List.set_cons_zero, List.set_cons_succ]
           refine branch_one (i := 20) rfl (by kernel_rfl) (by rfl) (fun K hK => ?_)
           refine wp_append_sl (.tmp 71) (.tmp 81) 22 rfl 3 ii _ 1 8 Tryd.underlying22 HI0.out HI1.out HI2.out HI3.out rfl (by decide) a9 fl1 c9 ((tx f).map (Value.int .i64)) rfl (HS9.out) ⟨gl, 0, none⟩ 1 1 [.int .i64 lo] rfl rfl (HNW.out) (int_one _) (by decide) (by omega) (by omega) ?_
           intro g c10 w10 hs10 hk10 hg10
           have k10 : Keeps [] w5 w10 := (k9).after hk10 (fun q hq => .inr (HG9.out q (by simpa using hq)))
           have hgz : Z.heap.size ≤ g := by
            have h1 := HZS.out
            rcases hg10 with h | h
            ·have := HG9.out g h; omega
            ·have := (k9).size; omega
           have HSTEP := Lib.hid (HWZ.out.step htN2 HTXT.out (by rw [List.length_append, ← HFL.out]; have := HLEN.out; simp; omega) HKFT.out.2.symm (by rw [List.length_append]; have := HWZ.out.lc f hfN; simp; omega) HW5.out k10 (g := g) (c := c10) (by
            have h := hs10
            rw [List.length_append, ← HFL.out, List.map_append]
            simpa using h) hgz)
           have HK10 := Lib.hid k10
           have ht10 := k10.cell HT5.out (by simp)
           have hf10 : w10.frozen? ⟨tb, t, none⟩ = false := by simp [World.frozen?, k10.heap HTR5.out (by simp)]
           have hlenE : ((tx f ++ [lo]).length : Nat) = fl1 + 1 := by rw [List.length_append, HFL.out]; simp
           rw [hlenE] at HSTEP
           clear hs10 hk10 hg10 k10 hgz hlenE
           refine hK.out _ _ (HSS.out _ HK10.out) (fun hHeld => ?_)
           clear hK K
           try simp only [Act.put, List.setIfInBounds_toArray, List.set_cons_zero, List.set_cons_succ]
           refine take_on (i := 21) (v := ?_) rfl (by kernel_rfl) (by kernel_rfl) (by kernel_rfl) (fun _ _ _ h => h) (by rfl) (by assumption) ?_ ?_
           rotate_left
           ·((intro w hSw; (try dsimp only at hSw); go_simp <;> with_reducible rfl); done)
           try simp only [Act.put, List.setIfInBounds_toArray, List.set_cons_zero, List.set_cons_succ]
           refine branch_one (i := 22) rfl (by kernel_rfl) (by rfl) (fun K hK => ?_)
           go_simp
           refine hK.out _ _ (HST.out _ _ HK10.out) (fun hHeld => ?_)
           clear hK K
           try simp only [Act.put, List.setIfInBounds_toArray, List.set_cons_zero, List.set_cons_succ]
           refine wpAnyH_done (by kernel_rfl) ?_ _
           clear ht10 hf10
           go_wp2
           go_roundw
           case rel => exact ⟨q + 1, _, _, _, by go_num, hqn, HKEND.out, HSTEP.out.more (by omega)⟩
           case measure => simp [intOf]; omega
         ·go_simp
          have KB := Lib.hid (show Keeps [] w5 (w5.alloc (.cells #[.int .i64 lo] 3)).drew from ((Keeps.refl [] w5).alloc _).drew)
          obtain ⟨gl, hgl⟩ : ∃ gl, gl = w5.heap.size := ⟨_, rfl⟩
          have HLOC := Lib.hid (show (w5.alloc (.cells #[.int .i64 lo] 3)).drew.cell? ⟨gl, 0, none⟩ = some (.int .i64 lo) from by
           have h := heap_alloc_new w5 (.cells #[.int .i64 lo] 3)
           rw [← hgl] at h
           exact (show (w5.alloc (.cells #[.int .i64 lo] 3)).cell? ⟨gl, 0, none⟩ = some (.int .i64 lo) from by
            generalize w5.alloc (.cells #[.int .i64 lo] 3) = W at h ⊢
            simp [World.cell?, h]))
          have HGL := Lib.hid hgl
          rw [← hgl]
          clear hgl
          obtain ⟨wb2, hwb2⟩ : ∃ wb2, wb2 = (w5.alloc (.cells #[.int .i64 lo] 3)).drew := ⟨_, rfl⟩
          have HWB2 := Lib.hid (show w5.heap.size < wb2.heap.size by rw [hwb2]; simp [World.drew])
          rw [← hwb2] at KB HLOC ⊢
          clear hwb2
          refine hK.out _ _ (HSS.out _ (KB.out)) (fun hHeld => ?_)
          clear hK K
          try simp only [Act.put, List.setIfInBounds_toArray, List.set_cons_zero, List.set_cons_succ]
          refine branch_one (i := 3) rfl (by kernel_rfl) (by rfl) (fun K hK => ?_)
          go_simp
          have K3 := Lib.hid (show Keeps [] w5 (wb2.alloc (.cells #[] 3)) from KB.out.alloc _)
          obtain ⟨ge, hge⟩ : ∃ ge, ge = wb2.heap.size := ⟨_, rfl⟩
          have HEA3 := Lib.hid (show SliceAt (wb2.alloc (.cells #[] 3)) 3 1 (some ge) 0 0 [] by rw [hge]; exact sl_empty wb2 3 1)
          have HGE := Lib.hid (show w5.heap.size ≤ ge by have := HWB2.out; omega)
          have HGLE := Lib.hid (show gl ≠ ge by have h1 := HWB2.out; have h2 := HGL.out; omega)
          have HLO3 := Lib.hid (show (wb2.alloc (.cells #[] 3)).cell? ⟨gl, 0, none⟩ = some (.int .i64 lo) from (Keeps.a1 wb2 _).cell HLOC.out (by simp))
          rw [← hge]
          clear hge
          refine hK.out _ _ (HSS.out _ (K3.out)) (fun hHeld => ?_)
          clear hK K
          try simp only [Act.put, List.setIfInBounds_toArray, List.set_cons_zero, List.set_cons_succ]
          refine branch_one (i := 9) rfl (by kernel_rfl) (by rfl) (fun K hK => ?_)
          refine wp_append_any0 (.tmp 65) (.tmp 70) 22 rfl 3 ii _ 1 8 Tryd.underlying22 HI0.out HI1.out HI2.out HI3.out rfl (by decide) (some ge) 0 0 [] rfl (HEA3.out) fa1 fl1 fc1 ((tx f).map (Value.int .i64)) rfl (by rw [List.length_map, HFL.out]; omega) (by rw [HFL.out]; exact HSRCK.out _ (K3.out)) (ints_cells _) (by omega) (by omega) ?_
          intro a9 c9 w9 hs9 hk9 ha9
          simp only [Nat.zero_add, List.nil_append] at hs9
          simp only [Nat.zero_add]
          have k9 : Keeps [] w5 w9 := (K3.out).after hk9 (fun q hq => .inr (by simp at hq; subst hq; exact HGE.out))
          have hg9 : ∀ g, a9 = some g → w5.heap.size ≤ g := fun g hg => by
           rcases ha9 with h | ⟨g', h, h2⟩
           ·rw [h] at hg; cases hg; exact HGE.out
           ·rw [h] at hg; cases hg; exact Nat.le_trans (K3.out).size h2
          have HS9 := Lib.hid hs9
          have HG9 := Lib.hid hg9
          have HSZ9 := Lib.hid (show ge < w9.heap.size from Nat.lt_of_lt_of_le (HEA3.out).lt hk9.size)
          have hlo9 := hk9.cell HLO3.out (by simpa using HGLE.out)
          have HNW := Lib.hid (show ∀ j u, [Value.int .i64 lo][j]? = some u → w9.cell? ((⟨gl, 0, none⟩ : Addr).add j) = some u from fun j u hu => by
           cases j with
           | zero => simp at hu; subst hu; exact hlo9
           | succ j => simp at hu)
          clear hs9 hk9 ha9 hg9 hlo9
          refine hK.out _ _ (HSS.out _ k9) (fun hHeld => ?_)
          clear hK K
          try simp only [Act.put, List.setIfInBounds_toArray, List.set_cons_zero, List.set_cons_succ]
          refine branch_one (i := 20) rfl (by kernel_rfl) (by rfl) (fun K hK => ?_)
          refine wp_append_sl (.tmp 71) (.tmp 81) 22 rfl 3 ii _ 1 8 Tryd.underlying22 HI0.out HI1.out HI2.out HI3.out rfl (by decide) a9 fl1 c9 ((tx f).map (Value.int .i64)) rfl (HS9.out) ⟨gl, 0, none⟩ 1 1 [.int .i64 lo] rfl rfl (HNW.out) (int_one _) (by decide) (by omega) (by omega) ?_
          intro g c10 w10 hs10 hk10 hg10
          have k10 : Keeps [] w5 w10 := (k9).after hk10 (fun q hq => .inr (HG9.out q (by simpa using hq)))
          have hgz : Z.heap.size ≤ g := by
           have h1 := HZS.out
           rcases hg10 with h | h
           ·have := HG9.out g h; omega
           ·have := (k9).size; omega
          have HSTEP := Lib.hid (HWZ.out.step htN2 HTXT.out (by rw [List.length_append, ← HFL.out]; have := HLEN.out; simp; omega) HKFT.out.2.symm (by rw [List.length_append]; have := HWZ.out.lc f hfN; simp; omega) HW5.out k10 (g := g) (c := c10) (by
           have h := hs10
           rw [List.length_append, ← HFL.out, List.map_append]
           simpa using h) hgz)
          have HK10 := Lib.hid k10
          have ht10 := k10.cell HT5.out (by simp)
          have hf10 : w10.frozen? ⟨tb, t, none⟩ = false := by simp [World.frozen?, k10.heap HTR5.out (by simp)]
          have hlenE : ((tx f ++ [lo]).length : Nat) = fl1 + 1 := by rw [List.length_append, HFL.out]; simp
          rw [hlenE] at HSTEP
          clear hs10 hk10 hg10 k10 hgz hlenE
          refine hK.out _ _ (HSS.out _ HK10.out) (fun hHeld => ?_)
          clear hK K
          try simp only [Act.put, List.setIfInBounds_toArray, List.set_cons_zero, List.set_cons_succ]
          refine take_on (i := 21) (v := ?_) rfl (by kernel_rfl) (by kernel_rfl) (by kernel_rfl) (fun _ _ _ h => h) (by rfl) (by assumption) ?_ ?_
          rotate_left
          ·((intro w hSw; (try dsimp only at hSw); go_simp <;> with_reducible rfl); done)
          try simp only [Act.put, List.setIfInBounds_toArray, List.set_cons_zero, List.set_cons_succ]
          refine branch_one (i := 22) rfl (by kernel_rfl) (by rfl) (fun K hK => ?_)
          go_simp
          refine hK.out _ _ (HST.out _ _ HK10.out) (fun hHeld => ?_)
          clear hK K
          try simp only [Act.put, List.setIfInBounds_toArray, List.set_cons_zero, List.set_cons_succ]
          refine wpAnyH_done (by kernel_rfl) ?_ _
          clear ht10 hf10
          go_wp2
          go_roundw
          case rel => exact ⟨q + 1, _, _, _, by go_num, hqn, HKEND.out, HSTEP.out.more (by omega)⟩
          case measure => simp [intOf]; omega
      ·obtain rfl : q = x.edges.length := by omega
       have HE := Lib.hid (show kn' = rounds_ x.edges fr (r + 1) by
        rw [hkn', List.take_length, HKN.out]; rfl)
       clear hws hrow hkn'
       go_wp2
       go_roundw
       case rel => exact ⟨r + 1, sl, tx, kn', by go_num, by omega, HE.out, HWB.out.more (by omega), fun j hj => by
        by_cases e : j = r
        ·subst e; rw [← HKN.out]; exact HKT.out.symm
        ·exact HNO.out j (by omega)⟩
       case measure => simp [intOf]; omega
   ·have hre : r = N + 1 := by omega
    have HR := Lib.hid hre
    clear hws hno hkn hre
    go_wp2
    rw [HQ.out]
    refine ⟨HK.out.trans HW.out.kp, .inr ⟨rfl, fun n hn hw => ?_⟩⟩
    have h1 := rounds_all (N := N) HN.out.symm (fun e he => by have h := HOK.out.ed e he; rw [← HL.out, ← HN.out] at h; exact ⟨h.1, h.2.1⟩) hn hw
    rw [HNO.out N (by have := HR.out; omega)] at h1
    cases h1
end Go.Proofs.YtphnbmdcgcchaaaDoor
