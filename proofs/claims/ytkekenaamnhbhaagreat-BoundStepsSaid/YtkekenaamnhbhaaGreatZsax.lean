/- Part 24 of the proof. No condition: every lemma says its own. -/
import Derived.Test.YtkekenaamnhbhaaGreatZsaw
namespace Go.Proofs.YtkekenaamnhbhaaGreat
open Go.RowKit Go.BigFrame Classical
set_option maxRecDepth 100000
set_option maxHeartbeats 16000000
structure SpPre (x : Gr) (of : List Int) (ps : List Pt) : Prop where
 ho : of.length = x.nodes.length
 hN : x.nodes.length ≤ 64
 hK : ps.length ≤ 1000000
 hof : ∀ i, of.getD i 0 < ps.length
 hE : ∀ i, i < x.edges.length → (0 ≤ (x.edges.getD i e40).fr ∧ (x.edges.getD i e40).fr < x.nodes.length) ∧ (0 ≤ (x.edges.getD i e40).tt ∧ (x.edges.getD i e40).tt < x.nodes.length)
 hws : ∀ i, 0 ≤ (x.edges.getD i e40).ws ∧ (x.edges.getD i e40).ws ≤ 1099511627777
 hel : x.edges.length ≤ 1000000
 hf : x.first.length = x.nodes.length
 hfb : ∀ i, 0 ≤ x.first.getD i 0 ∧ x.first.getD i 0 ≤ 1099511627777
 hnd : ∀ i, i < ps.length → (ps.getD i pt0).nodes.length ≤ 64 ∧ ∀ k, k < (ps.getD i pt0).nodes.length → 0 ≤ (ps.getD i pt0).nodes.getD k 0 ∧ (ps.getD i pt0).nodes.getD k 0 < x.nodes.length
set_option linter.unusedSimpArgs false in
theorem spread_any (w : World) (gb : Nat) (x : Gr) (rb ob : Nat) (pa : Option Nat) (pc : Nat) (rows : List Nat) (of : List Int) (ps : List Pt) (h : BG w gb x rb ob pa pc rows of ps) (pre : SpPre x of ps) :
  Calls Tryz.prog 44 #[.pointer (some ⟨gb, 0, none⟩)] w fun e w' => e = .returned (.int .i64 (sprP of x.first x.edges ps x.nodes.length)) ∧ Keeps [] w w' := by
 obtain ⟨ho, hN, hK, hof, hE, hws, hel, hf, hfb, hnd⟩ := pre
 have hK0 : 0 < ps.length := by
  have h1 := hof of.length
  simp at h1
  omega
 obtain ⟨pb, rfl, _⟩ := pt_cells h.prt hK0
 obtain ⟨ii, hii, hiz, his, hib⟩ := infoParts infoInt
 obtain ⟨N, hNN⟩ : ∃ N, N = x.nodes.length := ⟨_, rfl⟩
 obtain ⟨L, hLL⟩ : ∃ L, L = x.edges.length := ⟨_, rfl⟩
 obtain ⟨J, hKK⟩ : ∃ K, K = ps.length := ⟨_, rfl⟩
 obtain ⟨Q, hQ⟩ : ∃ Q : Ending → World → Prop, Q = fun e w' => e = .returned (.int .i64 (sprP of x.first x.edges ps x.nodes.length)) ∧ Keeps [] w w' := ⟨_, rfl⟩
 rw [← hQ]
 have HQ := gI hQ
 have HM2 : ∀ W : World, (Instr.makeSlice 22 (.int .i64 (J : Nat)) (.int .i64 (J : Nat))).run Tryz.prog W = .ok (.slice (some ⟨W.heap.size, 0, none⟩) J J) (W.alloc (.cells (List.replicate J (.int .i64 0)).toArray 3)) :=
  fun W => run_make_one Tryz.underlying22 hii hiz his hib rfl W J (by omega)
 have HMM1 : ∀ W : World, (Instr.makeMap 135 none).run Tryz.prog W = .ok (.map (some W.heap.size)) (W.alloc (.map #[] 0)) := fun W => run_makeMap _ W
 obtain ⟨H, hHH⟩ : ∃ H, H = w.heap.size := ⟨_, rfl⟩
 have HBG := gI h
 have HBX := gI (show ∀ (W : World), Keeps [] w W → W.cell? ⟨gb, 2, none⟩ = some (.slice x.fa N x.fc) ∧ W.cell? ⟨gb, 3, none⟩ = some (.slice x.ea L x.ec) ∧ W.cell? ⟨gb, 5, none⟩ = some (.slice (some ⟨ob, 0, none⟩) N N) ∧ W.cell? ⟨gb, 6, none⟩ = some (.slice (some ⟨pb, 0, none⟩) J pc) from fun W hb => by
  have h := bg_cells (h.keep hb).box
  rw [hNN, hLL, hKK]
  rw [hf] at h
  exact ⟨h.1.2.2.1, h.1.2.2.2, h.2.2.1, h.2.2.2⟩)
 have HO := gI (show ∀ (W : World), Keeps [] w W → ∀ i, i < N → W.cell? ⟨ob, i, none⟩ = some (.int .i64 (of.getD i 0)) from fun W hb i hi => bi_cell (h.keep hb).ofs i (by rw [ho, ← hNN]; exact hi))
 have HED := gI (show ∀ (W : World), Keeps [] w W → ∀ i, i < L → _ from fun W hb i hi => ed_cells (h.keep hb).gr.edges (i := i) (by rw [← hLL]; exact hi))
 have HFI := gI (show ∀ (W : World), Keeps [] w W → ∀ i, i < N → ∃ b off, x.fa = some ⟨b, off, none⟩ ∧ W.cell? ⟨b, off + i, none⟩ = some (.int .i64 (x.first.getD i 0)) from fun W hb i hi => by
  obtain ⟨b, off, e, hc⟩ := (h.keep hb).gr.first (by rw [hf, ← hNN]; omega)
  exact ⟨b, off, e, hc i (by rw [hf, ← hNN]; exact hi)⟩)
 have HPT := gI (show ∀ (W : World), Keeps [] w W → ∀ i, i < J → W.cell? ⟨pb, i * 4, none⟩ = some (sv (ps.getD i pt0).na (ps.getD i pt0).nodes.length (ps.getD i pt0).nc) ∧ W.cell? ⟨pb, i * 4 + 1, none⟩ = some (.bool (ps.getD i pt0).loop) ∧ W.cell? ⟨pb, i * 4 + 2, none⟩ = some (.bool (ps.getD i pt0).leads) ∧ W.cell? ⟨pb, i * 4 + 3, none⟩ = some (.bool (ps.getD i pt0).opn) from fun W hb i hi => by
  obtain ⟨p2, e, h1, h2, h3, h4⟩ := pt_cells (h.keep hb).prt (i := i) (by rw [← hKK]; exact hi)
  cases e
  exact ⟨h1, h2, h3, h4⟩)
 have HNDS := gI (show ∀ (W : World), Keeps [] w W → ∀ i, i < J → SliceAt W 3 1 (ps.getD i pt0).na (ps.getD i pt0).nodes.length (ps.getD i pt0).nc (bi (ps.getD i pt0).nodes) from fun W hb i hi => (h.keep hb).nds _ (by
  have hi2 : i < ps.length := by rw [← hKK]; exact hi
  rw [List.getD_eq_getElem?_getD, List.getElem?_eq_getElem hi2]
  exact List.getElem_mem hi2))
 have HE := gI (show ∀ i, i < L → (0 ≤ (x.edges.getD i e40).fr ∧ (x.edges.getD i e40).fr < N) ∧ (0 ≤ (x.edges.getD i e40).tt ∧ (x.edges.getD i e40).tt < N) by rw [hLL, hNN]; exact hE)
 have HOF := gI (show ∀ i, of.getD i 0 < J by rw [hKK]; exact hof)
 have HND := gI (show ∀ i, i < J → (ps.getD i pt0).nodes.length ≤ 64 ∧ ∀ k, k < (ps.getD i pt0).nodes.length → 0 ≤ (ps.getD i pt0).nodes.getD k 0 ∧ (ps.getD i pt0).nodes.getD k 0 < N by rw [hKK, hNN]; exact hnd)
 have HFB := gI hfb
 have HWD := gI (fun k n m => wdK_ok hws n m k)
 have hL6 : L ≤ 1000000 := by rw [hLL]; exact hel
 have hN64 : N ≤ 64 := by rw [hNN]; exact hN
 have hK6 : J ≤ 1000000 := by rw [hKK]; exact hK
 have HNN := gI hNN
 have HLL := gI hLL
 have HKK := gI hKK
 have HHH := gI hHH
 obtain ⟨es, hes2⟩ : ∃ es, es = x.edges := ⟨_, rfl⟩
 rw [← hes2] at HED HE HWD HLL
 have HES := gI hes2
 obtain ⟨Y, hY⟩ : ∃ Y, Y = w.alloc (.map #[] 0) := ⟨_, rfl⟩
 have hkY : Keeps [] w Y := by rw [hY]; exact Keeps.a1 _ _
 have HKY := gI hkY
 have HRY := gI (show WdAt Y H es 0 from ⟨fun _ => none, by rw [hY, hHH]; exact MapAt.made w _ _, fun n m => rfl⟩)
 have HY := gI hY
 have d3 := (HBX.out Y hkY).2.1
 clear h ho hN hK hof hE hws hel hf hfb hnd hK0 hii hiz his hib hNN hLL hKK hQ hHH hes2 hkY hY
 go_enter Tryz.func44, Tryz.ntmps44
 go_upto_region 2 with fail
 rw [← HY.out, ← HHH.out]
 go_upto_region 3 with fail
 clear d3
 go_loopw [22] (fun i wr => ∃ j : Nat, j ≤ L ∧ i = .int .i64 j ∧ Keeps [] w wr ∧ WdAt wr H es j) (fun i _ => L - (intOf i).toNat)
 case atStart => exact ⟨0, Nat.zero_le _, rfl, HKY.out, HRY.out⟩
 case round =>
  obtain ⟨j, hj, rfl, hkp, hr⟩ := hrel
  have HKP := gI hkp
  have HR := gI hr
  clear hkp hr
  obtain ⟨c2, c3, c5, c6⟩ := HBX.out wr HKP.out
  by_cases hjL : j < L
  ·have hji : (j : Int) < (L : Int) := by omega
   have hw1 : IntKind.i64.wrap ((j : Int) + 1) = (j : Int) + 1 := IntWalk.i64_in _ (by omega)
   obtain ⟨b, off, hla, v0, v1, v2, v3⟩ := HED.out wr HKP.out j hjL
   have hbj := HE.out j hjL
   have HS := gI (show ∀ n m, wdK es (j + 1) n m = if (es.getD j e40).fr.toNat = n ∧ (es.getD j e40).tt.toNat = m then max (wdK es j n m) (es.getD j e40).ws else wdK es j n m from fun n m => rfl)
   obtain ⟨e, he⟩ : ∃ e, e = es.getD j e40 := ⟨_, rfl⟩
   rw [← he] at v0 v1 v2 v3 hbj
   simp only [← he] at HS
   clear he
   obtain ⟨f1, t1, l1, s1⟩ := e
   simp only at v0 v1 v2 v3 hbj
   obtain ⟨F, rfl⟩ := Int.eq_ofNat_of_zero_le hbj.1.1
   obtain ⟨T, rfl⟩ := Int.eq_ofNat_of_zero_le hbj.2.1
   have hFN : F < N := by omega
   have hTN : T < N := by omega
   have HS2 := gI (show ∀ n m, wdK es (j + 1) n m = if F = n ∧ T = m then max (wdK es j n m) s1 else wdK es j n m from HS.out)
   obtain ⟨C, hC⟩ : ∃ C, C = wr.heap.size := ⟨_, rfl⟩
   obtain ⟨Z1, hZ1⟩ : ∃ Z, Z = wr.alloc (.cells #[.int .i64 F, .int .i64 T, .int .i64 l1, .int .i64 s1] 125) := ⟨_, rfl⟩
   obtain ⟨Z, hZ⟩ : ∃ Z, Z = Z1.alloc (.cells #[.int .i64 F, .int .i64 T] 136) := ⟨_, rfl⟩
   have hkZ1 : Keeps [] wr Z1 := by rw [hZ1]; exact Keeps.a1 _ _
   have hkZ2 : Keeps [] Z1 Z := by rw [hZ]; exact Keeps.a1 _ _
   have hkZ := hkZ1.trans hkZ2
   have hs1 : Z1.heap.size = C + 1 := by rw [hZ1, hC]; simp
   have hC1 : Z1.heap[C]? = some (.cells #[.int .i64 F, .int .i64 T, .int .i64 l1, .int .i64 s1] 125 (0, 0)) := by rw [hZ1, hC]; exact heap_alloc_new wr _
   have hC2 := hkZ2.heap hC1 (by simp)
   have hD2 : Z.heap[C + 1]? = some (.cells #[.int .i64 F, .int .i64 T] 136 (0, 0)) := by rw [hZ, ← hs1]; exact heap_alloc_new Z1 _
   have y0 : Z1.cell? ⟨C, 0, none⟩ = some (.int .i64 F) := by simp [World.cell?, hC1]
   have y1 : Z1.cell? ⟨C, 1, none⟩ = some (.int .i64 T) := by simp [World.cell?, hC1]
   have z3 : Z.cell? ⟨C, 3, none⟩ = some (.int .i64 s1) := by simp [World.cell?, hC2]
   have q0 : Z.cell? ⟨C + 1, 0, none⟩ = some (.int .i64 F) := by simp [World.cell?, hD2]
   have q1 : Z.cell? ⟨C + 1, 1, none⟩ = some (.int .i64 T) := by simp [World.cell?, hD2]
   have HKZ := gI (HKP.out.trans hkZ)
   have HRZ := gI (HR.out.keep hkZ (by simp))
   have hHC : H < C := by rw [hC]; exact HR.out.lt
   have L1 := (HRZ.out.keep ((Keeps.refl [] Z).drew) (by simp)).look F T (by omega) (by omega)
   obtain ⟨g, hmap, hg⟩ := HRZ.out
   have HG := gI hg
   have HMAP := gI hmap
   obtain ⟨u, hu⟩ : ∃ u, u = wdK es j F T := ⟨_, rfl⟩
   rw [← hu] at L1
   have HVT := gI (show wdK es (j + 1) F T = max u s1 by rw [HS2.out, if_pos ⟨rfl, rfl⟩, hu])
   have HVF := gI (show ∀ n m, ¬ (n = F ∧ m = T) → wdK es (j + 1) n m = wdK es j n m from fun n m h => by rw [HS2.out, if_neg (fun h2 => h ⟨h2.1.symm, h2.2.symm⟩)])
   have HZ1 := gI hZ1
   have HZ := gI hZ
   have HC := gI hC
   have HSZ1 := gI hs1
   have hmx : (if u < s1 then s1 else u : Int) = max u s1 := by split <;> omega
   rw [hla] at c3 ⊢
   clear hZ1 hZ hC hkZ1 hkZ2 hkZ hs1 hC1 hC2 hD2 hmap hg hu
   go_upto_region 5 with fail
   rw [← HZ1.out, ← HC.out]
   go_upto_region 6 with fail
   rw [HSZ1.out, ← HZ.out]
   clear v0 v1 v2 v3 c2 c3 c5 c6 y0 y1
   refine wp_region_held_drew (S := fun W => W.cell? ⟨C, 3, none⟩ = some (.int .i64 s1) ∧ W.cell? ⟨C + 1, 0, none⟩ = some (.int .i64 F) ∧ W.cell? ⟨C + 1, 1, none⟩ = some (.int .i64 T)) (by kernel_rfl) ⟨z3, q0, q1⟩ (fun hHeld => ?_)
   refine take_on (i := 0) (v := ?_) rfl (by kernel_rfl) (by kernel_rfl) (by kernel_rfl) (fun _ _ _ h => h) (by rfl) (by assumption) ?_ ?_
   rotate_left
   ·((intro w hSw; (try dsimp only at hSw); go_simp <;> with_reducible rfl); done)
   try simp only [Act.put, List.setIfInBounds_toArray, List.set_cons_zero, List.set_cons_succ]
   refine take_on (i := 1) (v := ?_) rfl (by kernel_rfl) (by kernel_rfl) (by kernel_rfl) (fun _ _ _ h => h) (by rfl) (by assumption) ?_ ?_
   rotate_left
   ·((intro w hSw; (try dsimp only at hSw); go_simp <;> with_reducible rfl); done)
   try simp only [Act.put, List.setIfInBounds_toArray, List.set_cons_zero, List.set_cons_succ]
   refine take_on (i := 2) (v := ?_) rfl (by kernel_rfl) (by kernel_rfl) (by kernel_rfl) (fun _ _ _ h => h) (by rfl) (by assumption) ?_ ?_
   rotate_left
   ·((intro w hSw; (try dsimp only at hSw); go_simp <;> with_reducible rfl); done)
   try simp only [Act.put, List.setIfInBounds_toArray, List.set_cons_zero, List.set_cons_succ]
   refine take_on (i := 3) (v := ?_) rfl (by kernel_rfl) (by kernel_rfl) (by kernel_rfl) (fun _ _ _ h => h) (by rfl) (by assumption) ?_ ?_
   rotate_left
   ·((intro w hSw; (try dsimp only at hSw); go_simp <;> with_reducible rfl); done)
   try simp only [Act.put, List.setIfInBounds_toArray, List.set_cons_zero, List.set_cons_succ]
   refine take_on (i := 5) (v := ?_) rfl (by kernel_rfl) (by kernel_rfl) (by kernel_rfl) (fun _ _ _ h => h) (by rfl) (by assumption) ?_ ?_
   rotate_left
   ·((intro w hSw; (try dsimp only at hSw); go_simp <;> with_reducible rfl); done)
   try simp only [Act.put, List.setIfInBounds_toArray, List.set_cons_zero, List.set_cons_succ]
   refine take_on (i := 6) (v := ?_) rfl (by kernel_rfl) (by kernel_rfl) (by kernel_rfl) (fun _ _ _ h => h) (by rfl) (by assumption) ?_ ?_
   rotate_left
   ·((intro w hSw; (try dsimp only at hSw); go_simp <;> with_reducible rfl); done)
   try simp only [Act.put, List.setIfInBounds_toArray, List.set_cons_zero, List.set_cons_succ]
   refine branch_one (i := 4) rfl (by kernel_rfl) (by rfl) (fun K hK => ?_)
   go_simp
   refine hK.out _ _ (⟨z3, q0, q1⟩) (fun hHeld => ?_)
   clear hK K
   try simp only [Act.put, List.setIfInBounds_toArray, List.set_cons_zero, List.set_cons_succ]
   refine take_on (i := 7) (v := ?_) rfl (by kernel_rfl) (by kernel_rfl) (by kernel_rfl) (fun _ _ _ h => h) (by rfl) (by assumption) ?_ ?_
   rotate_left
   ·((intro w hSw; (try dsimp only at hSw); go_simp <;> with_reducible rfl); done)
   try simp only [Act.put, List.setIfInBounds_toArray, List.set_cons_zero, List.set_cons_succ]
   refine branch_one (i := 8) rfl (by kernel_rfl) (by rfl) (fun K hK => ?_)
   refine wp_mapPut (.tmp 31) (.tmp 32) (.tmp 38) 135 rfl 136 3 duoKeyed Tryz.underlying135 H j g rfl (HMAP.out.keep ((Keeps.refl [] Z).drew) (by simp)) (by unfold maxLen; omega) (duov F T) (.int .i64 (max u s1)) rfl (by simp [Act.eval, Act.put, hmx]) (key2 (by unfold M64; omega) (by unfold M64; omega)) ?_
   intro w4 hm4 hk4
   have hkd : Keeps [H] Z w4 := ((Keeps.refl [H] Z).drew).trans hk4
   have HK4 := gI (HKZ.out.after hkd (fun b hb => .inr (by simp at hb; subst hb; exact Nat.le_of_eq HHH.out.symm)))
   have HR4 := gI (show WdAt w4 H es (j + 1) from ⟨_, hm4, fun n m => by
    by_cases hc : n = F ∧ m = T
    ·obtain ⟨rfl, rfl⟩ := hc
     simp [HVT.out]
    ·have hne : ¬ (duov (n : Int) m = duov F T) := fun e => by
      obtain ⟨e1, e2⟩ := duov_inj e
      exact hc ⟨by exact_mod_cast e1, by exact_mod_cast e2⟩
     simp only [if_neg hne]
     rw [HVF.out n m hc]
     exact HG.out n m⟩)
   have a3 := hkd.cell z3 (by simp; omega)
   have a0 := hkd.cell q0 (by simp; omega)
   have a1 := hkd.cell q1 (by simp; omega)
   clear hm4 hk4 hkd
   refine hK.out _ _ (⟨a3, a0, a1⟩) (fun hHeld => ?_)
   clear hK K
   try simp only [Act.put, List.setIfInBounds_toArray, List.set_cons_zero, List.set_cons_succ]
   refine wpAnyH_done (by kernel_rfl) ?_ _
   clear hHeld
   go_wp2
   go_roundw
   case rel => exact ⟨j + 1, by omega, by go_num, HK4.out, HR4.out⟩
   case measure => simp [intOf]; omega
  ·obtain rfl : j = L := by omega
   obtain ⟨wd, hwd⟩ : ∃ f, f = wdK es j := ⟨_, rfl⟩
   have HWE := gI hwd
   have HWB := gI (show ∀ n m, 0 ≤ wd n m ∧ wd n m ≤ 1099511627777 from fun n m => by rw [hwd]; exact HWD.out j n m)
   obtain ⟨first, hfi⟩ : ∃ f, f = x.first := ⟨_, rfl⟩
   rw [← hfi] at HFI HFB
   have HFE := gI hfi
   have HSK := gI (fun i => spdK_ok (of := of) (first := first) (wd := wd) (fun i => (HFB.out i).1) (fun n m => (HWB.out n m).1) (N := N) (ps := ps) i)
   rw [← HKK.out] at HSK
   obtain ⟨S, hS⟩ : ∃ S, S = wr.heap.size := ⟨_, rfl⟩
   have HHS := gI (show H < S by rw [hS]; exact HR.out.lt)
   obtain ⟨W5, hW5⟩ : ∃ W, W = wr.alloc (.cells (Array.replicate J (.int .i64 0)) 3) := ⟨_, rfl⟩
   have k1 : Keeps [] wr W5 := by rw [hW5]; exact Keeps.a1 _ _
   have hb1 : W5.heap[S]? = some (.cells (Array.replicate J (.int .i64 0)) 3 (0, 0)) := by rw [hW5, hS]; exact heap_alloc_new _ _
   have sl1 := SliceAt.of_row (size := 1) (c := J) hb1 (by simp) (by unfold maxLen; omega)
   have HST := gI (show SliceAt W5 3 1 (some S) J J (bi (spdK of first wd N ps 0).1) by simpa [bi, spdK, ← HKK.out] using sl1)
   have HKA := gI (show ∀ W, Keeps [S] W5 W → Keeps [] w W ∧ WdAt W H es j from fun W hk => by
    have h1 := HHS.out
    have h2 := HHH.out
    exact ⟨(HKP.out.trans k1).after hk (fun b hb => .inr (by simp at hb; subst hb; omega)), (HR.out.keep k1 (by simp)).keep hk (by simp; omega)⟩)
   have HW5 := gI hW5
   have HSS := gI hS
   have c6b := (HBX.out W5 (HKA.out W5 (Keeps.refl _ _)).1).2.2.2
   clear hwd hfi hS hW5 k1 hb1 sl1
   go_upto_region 9 with fail
   try simp only [List.toArray_replicate]
   rw [← HW5.out, ← HSS.out]
   go_upto_region 11 with fail
   clear c2 c3 c5 c6 c6b
   go_loopw [51, 8] (fun i s wr => ∃ k : Nat, k ≤ J ∧ i = .int .i64 k ∧ s = .int .i64 (spdK of first wd N ps k).2 ∧ Keeps [S] W5 wr ∧ SliceAt wr 3 1 (some S) J J (bi (spdK of first wd N ps k).1)) (fun i _ _ => J - (intOf i).toNat)
   case atStart => exact ⟨0, Nat.zero_le _, rfl, rfl, Keeps.refl _ _, HST.out⟩
   case round =>
    obtain ⟨k, hk, rfl, rfl, hkp, hs⟩ := hrel
    have HKP := gI hkp
    have HS := gI hs
    clear hkp hs
    have HKW := gI (HKA.out wr HKP.out).1
    obtain ⟨c2, c3, c5, c6⟩ := HBX.out wr HKW.out
    by_cases hkJ : k < J
    ·have hki : (k : Int) < (J : Int) := by omega
     have hw1 : IntKind.i64.wrap ((k : Int) + 1) = (k : Int) + 1 := IntWalk.i64_in _ (by omega)
     obtain ⟨p0, p1, p2, p3⟩ := HPT.out wr HKW.out k hkJ
     have HSE := gI (show spdK of first wd N ps (k + 1) = spdS of first wd N k (ps.getD k pt0).nodes (spdK of first wd N ps k) from rfl)
     have hsk := HSK.out k
     have HNDK := gI (HND.out k hkJ)
     have HNSK := gI (fun W h => HNDS.out W h k hkJ)
     obtain ⟨pt, hpt⟩ : ∃ p, p = ps.getD k pt0 := ⟨_, rfl⟩
     rw [← hpt] at p0 p1 p2 p3 HSE HNDK
     simp only [← hpt] at HNSK
     obtain ⟨na, nc, nodes, f1, f2, f3⟩ := pt
     simp only at p0 p1 p2 p3 HSE HNDK HNSK
     obtain ⟨s0, hs0⟩ : ∃ s, s = spdK of first wd N ps k := ⟨_, rfl⟩
     rw [← hs0] at hsk HSE HS ⊢
     obtain ⟨sk, sp⟩ := s0
     simp only at hsk HS ⊢
     have HSB := gI hsk.1
     have hsp := hsk.2
     have HSE2 := gI (show spdK of first wd N ps (k + 1) = (spdN of first wd N k nodes sk nodes.length, min (sp + min ((nodes.length : Int) * (spdN of first wd N k nodes sk nodes.length).getD k 0) 1099511627777) 1099511627777) from HSE.out)
     obtain ⟨nl, hnl⟩ : ∃ n, n = nodes.length := ⟨_, rfl⟩
     rw [← hnl] at p0 HSE2 HNDK
     simp only [← hnl] at HNSK
     obtain ⟨PB, hPB⟩ : ∃ P, P = wr.heap.size := ⟨_, rfl⟩
     obtain ⟨Z, hZ⟩ : ∃ Z, Z = wr.alloc (.cells #[sv na nl nc, .bool f1, .bool f2, .bool f3] 96) := ⟨_, rfl⟩
     have hkZ : Keeps [] wr Z := by rw [hZ]; exact Keeps.a1 _ _
     have hZH : Z.heap[PB]? = some (.cells #[sv na nl nc, .bool f1, .bool f2, .bool f3] 96 (0, 0)) := by rw [hZ, hPB]; exact heap_alloc_new _ _
     have HZH := gI hZH
     have z0 : Z.cell? ⟨PB, 0, none⟩ = some (sv na nl nc) := by simp [World.cell?, hZH]
     have HKZ := gI (show Keeps [S] W5 Z from HKP.out.trans (hkZ.mono (by simp)))
     have HSZ := gI (show SliceAt Z 3 1 (some S) J J (bi (spdN of first wd N k nodes sk 0)) from HS.out.keep hkZ (by simp))
     have HSPB := gI (show S < PB by rw [hPB]; exact HS.out.lt)
     have HPB := gI hPB
     have HZ := gI hZ
     have HNL := gI hnl
     obtain ⟨nd, hnd0⟩ : ∃ d, d = na.map (fun g => (⟨g, 0, none⟩ : Addr)) := ⟨_, rfl⟩
     simp only [sv, ← hnd0] at p0 z0 HZ
     have HND0 := gI hnd0
     clear hnd0
     clear hsk hpt hs0 hnl hPB hZ hkZ hZH
     go_upto_region 13 with fail
     rw [← HZ.out, ← HPB.out]
     clear p0 p1 p2 p3 c2 c3 c5 c6
     go_upto_region 14 with fail
     clear z0
     go_loopw [59] (fun i wr => ∃ q : Nat, q ≤ nl ∧ i = .int .i64 q ∧ Keeps [S] Z wr ∧ SliceAt wr 3 1 (some S) J J (bi (spdN of first wd N k nodes sk q))) (fun i _ => nl - (intOf i).toNat)
     case atStart => exact ⟨0, Nat.zero_le _, rfl, Keeps.refl _ _, HSZ.out⟩
     case round =>
      obtain ⟨q, hq, rfl, hkp, hs⟩ := hrel
      have HKQ := gI hkp
      have HSQ := gI hs
      clear hkp hs
      have HKV := gI (HKA.out wr (HKZ.out.trans HKQ.out)).1
      obtain ⟨c2, c3, c5, c6⟩ := HBX.out wr HKV.out
      have HBQ := gI (spdN_ok (of := of) (first := first) (wd := wd) (fun i => (HFB.out i).1) (fun n m => (HWB.out n m).1) (N := N) (i := k) (nodes := nodes) HSB.out q)
      by_cases hqn : q < nl
      ·have hnl6 := HNDK.out.1
       have hqi : (q : Int) < (nl : Int) := by omega
       have hw2 : IntKind.i64.wrap ((q : Int) + 1) = (q : Int) + 1 := IntWalk.i64_in _ (by omega)
       have hnd := HNSK.out wr HKV.out
       have hnv := HNDK.out.2 q hqn
       have HNE := gI (show spdN of first wd N k nodes sk (q + 1) = spdI of wd k (nodes.getD q 0).toNat (spdA first k (nodes.getD q 0).toNat (spdN of first wd N k nodes sk q)) N from rfl)
       obtain ⟨nb, hnb⟩ : ∃ nb, na = some nb := by
        cases na with
        | none => exfalso; have := hnd.2.1; omega
        | some nb => exact ⟨nb, rfl⟩
       have hnd1 : nd = some ⟨nb, 0, none⟩ := by rw [HND0.out, hnb]; rfl
       rw [hnb] at hnd
       subst hnd1
       have n0 := bi_cell hnd q (by rw [← HNL.out]; exact hqn)
       obtain ⟨nv, hnv2⟩ : ∃ v, v = nodes.getD q 0 := ⟨_, rfl⟩
       rw [← hnv2] at hnv n0 HNE
       obtain ⟨n, rfl⟩ := Int.eq_ofNat_of_zero_le hnv.1
       rw [Int.toNat_natCast] at HNE
       have hnN : n < N := by omega
       obtain ⟨fb, fo, hfa, f0⟩ := HFI.out wr HKV.out n hnN
       obtain ⟨sq, hsq⟩ : ∃ s, s = spdN of first wd N k nodes sk q := ⟨_, rfl⟩
       rw [← hsq] at HNE HSQ HBQ
       have hb1 := HBQ.out.2 k
       have hb2 := HFB.out n
       have HBA := gI (spdA_ok (first := first) (fun i => (HFB.out i).1) (i := k) (n := n) HBQ.out)
       have HAE := gI (show spdA first k n sq = sq.set k (min (sq.getD k 0 + first.getD n 0) 1099511627777) from rfl)
       have rK : wr.drew.cell? ⟨S, k, none⟩ = some (.int .i64 (sq.getD k 0)) := bi_cell HSQ.out k (by rw [HBQ.out.1]; exact hkJ)
       have rf : wr.drew.frozen? ⟨S, k, none⟩ = false := HSQ.out.fz k
       have g2 : wr.drew.cell? ⟨gb, 2, none⟩ = some (.slice (some ⟨fb, fo, none⟩) N x.fc) := by rw [← hfa]; exact c2
       have g0 : wr.drew.cell? ⟨fb, fo + n, none⟩ = some (.int .i64 (first.getD n 0)) := f0
       obtain ⟨v1, hv1⟩ : ∃ v, v = sq.getD k 0 := ⟨_, rfl⟩
       obtain ⟨v2, hv2⟩ : ∃ v, v = first.getD n 0 := ⟨_, rfl⟩
       rw [← hv1] at hb1 rK HAE
       rw [← hv2] at hb2 g0 HAE
       have HCP := gI (plus_any v1 v2 wr.drew hb1.1 hb1.2 hb2.1 hb2.2)
       obtain ⟨v3, hv3⟩ : ∃ v, v = min (v1 + v2) 1099511627777 := ⟨_, rfl⟩
       rw [← hv3] at HCP HAE
       obtain ⟨X, hX⟩ : ∃ X, X = (wr.setCell ⟨S, k, none⟩ (.int .i64 v3)).drew := ⟨_, rfl⟩
       have kX : Keeps [S] wr X := by rw [hX]; exact ((Keeps.refl [S] wr).setCell (by simp) _).drew
       have HKX := gI (show Keeps [S] Z X from HKQ.out.trans kX)
       have HSX := gI (show SliceAt X 3 1 (some S) J J (bi (spdI of wd k n (spdA first k n sq) 0)) by
        have h := (HSQ.out.set k (.int .i64 v3)).keep ((Keeps.refl [] _).drew) (by simp)
        rw [hX, spdI, HAE.out]
        simpa [bi, List.map_set] using h)
       have hXw := (HKA.out X (HKZ.out.trans HKX.out)).1
       have h2 := (HBX.out X hXw).1
       rw [hfa] at h2
       obtain ⟨fb2, fo2, hfa2, h0⟩ := HFI.out X hXw n hnN
       rw [hfa] at hfa2
       cases hfa2
       rw [← hv2] at h0
       obtain ⟨_, _, d5, _⟩ := HBX.out X hXw
       have HX := gI hX
       clear hnd hnv2 hsq hv1 hv2 hv3 hX kX hXw c2 c3 c5 c6 f0
       go_upto_region 16 with fail
       clear n0
       refine wp_region_held_drew (S := fun W => W.cell? ⟨gb, 2, none⟩ = some (.slice (some ⟨fb, fo, none⟩) N x.fc) ∧ W.cell? ⟨fb, fo + n, none⟩ = some (.int .i64 v2)) (by kernel_rfl) ⟨g2, g0⟩ (fun hHeld => ?_)
       refine take_on (i := 0) (v := ?_) rfl (by kernel_rfl) (by kernel_rfl) (by kernel_rfl) (fun _ _ _ h => h) (by rfl) (by assumption) ?_ ?_
       rotate_left
       ·((intro w hSw; (try dsimp only at hSw); go_simp <;> with_reducible rfl); done)
       try simp only [Act.put, List.setIfInBounds_toArray, List.set_cons_zero, List.set_cons_succ]
       refine take_on (i := 1) (v := ?_) rfl (by kernel_rfl) (by kernel_rfl) (by kernel_rfl) (fun _ _ _ h => h) (by rfl) (by assumption) ?_ ?_
       rotate_left
       ·((intro w hSw; (try dsimp only at hSw); go_simp <;> with_reducible rfl); done)
       try simp only [Act.put, List.setIfInBounds_toArray, List.set_cons_zero, List.set_cons_succ]
       refine take_on (i := 2) (v := ?_) rfl (by kernel_rfl) (by kernel_rfl) (by kernel_rfl) (fun _ _ _ h => h) (by rfl) (by assumption) ?_ ?_
       rotate_left
       ·((intro w hSw; (try dsimp only at hSw); go_simp <;> with_reducible rfl); done)
       try simp only [Act.put, List.setIfInBounds_toArray, List.set_cons_zero, List.set_cons_succ]
       refine take_on (i := 3) (v := ?_) rfl (by kernel_rfl) (by kernel_rfl) (by kernel_rfl) (fun _ _ _ h => h) (by rfl) (by assumption) ?_ ?_
       rotate_left
       ·((intro w hSw; (try dsimp only at hSw); go_simp <;> with_reducible rfl); done)
       try simp only [Act.put, List.setIfInBounds_toArray, List.set_cons_zero, List.set_cons_succ]
       refine take_on (i := 4) (v := ?_) rfl (by kernel_rfl) (by kernel_rfl) (by kernel_rfl) (fun _ _ _ h => h) (by rfl) (by assumption) ?_ ?_
       rotate_left
       ·((intro w hSw; (try dsimp only at hSw); go_simp <;> with_reducible rfl); done)
       try simp only [Act.put, List.setIfInBounds_toArray, List.set_cons_zero, List.set_cons_succ]
       refine take_on (i := 6) (v := ?_) rfl (by kernel_rfl) (by kernel_rfl) (by kernel_rfl) (fun _ _ _ h => h) (by rfl) (by assumption) ?_ ?_
       rotate_left
       ·((intro w hSw; (try dsimp only at hSw); go_simp <;> with_reducible rfl); done)
       try simp only [Act.put, List.setIfInBounds_toArray, List.set_cons_zero, List.set_cons_succ]
       refine take_on (i := 7) (v := ?_) rfl (by kernel_rfl) (by kernel_rfl) (by kernel_rfl) (fun _ _ _ h => h) (by rfl) (by assumption) ?_ ?_
       rotate_left
       ·((intro w hSw; (try dsimp only at hSw); go_simp <;> with_reducible rfl); done)
       try simp only [Act.put, List.setIfInBounds_toArray, List.set_cons_zero, List.set_cons_succ]
       refine take_on (i := 8) (v := ?_) rfl (by kernel_rfl) (by kernel_rfl) (by kernel_rfl) (fun _ _ _ h => h) (by rfl) (by assumption) ?_ ?_
       rotate_left
       ·((intro w hSw; (try dsimp only at hSw); go_simp <;> with_reducible rfl); done)
       try simp only [Act.put, List.setIfInBounds_toArray, List.set_cons_zero, List.set_cons_succ]
       refine take_on (i := 9) (v := ?_) rfl (by kernel_rfl) (by kernel_rfl) (by kernel_rfl) (fun _ _ _ h => h) (by rfl) (by assumption) ?_ ?_
       rotate_left
       ·((intro w hSw; (try dsimp only at hSw); go_simp <;> with_reducible rfl); done)
       try simp only [Act.put, List.setIfInBounds_toArray, List.set_cons_zero, List.set_cons_succ]
       refine take_on (i := 10) (v := ?_) rfl (by kernel_rfl) (by kernel_rfl) (by kernel_rfl) (fun _ _ _ h => h) (by rfl) (by assumption) ?_ ?_
       rotate_left
       ·((intro w hSw; (try dsimp only at hSw); go_simp <;> with_reducible rfl); done)
       try simp only [Act.put, List.setIfInBounds_toArray, List.set_cons_zero, List.set_cons_succ]
       refine take_on (i := 11) (v := ?_) rfl (by kernel_rfl) (by kernel_rfl) (by kernel_rfl) (fun _ _ _ h => h) (by rfl) (by assumption) ?_ ?_
       rotate_left
       ·((intro w hSw; (try dsimp only at hSw); go_simp <;> with_reducible rfl); done)
       try simp only [Act.put, List.setIfInBounds_toArray, List.set_cons_zero, List.set_cons_succ]
       refine take_on (i := 12) (v := ?_) rfl (by kernel_rfl) (by kernel_rfl) (by kernel_rfl) (fun _ _ _ h => h) (by rfl) (by assumption) ?_ ?_
       rotate_left
       ·((intro w hSw; (try dsimp only at hSw); go_simp <;> with_reducible rfl); done)
       try simp only [Act.put, List.setIfInBounds_toArray, List.set_cons_zero, List.set_cons_succ]
       refine take_on (i := 13) (v := ?_) rfl (by kernel_rfl) (by kernel_rfl) (by kernel_rfl) (fun _ _ _ h => h) (by rfl) (by assumption) ?_ ?_
       rotate_left
       ·((intro w hSw; (try dsimp only at hSw); go_simp <;> with_reducible rfl); done)
       try simp only [Act.put, List.setIfInBounds_toArray, List.set_cons_zero, List.set_cons_succ]
       refine branch_one (i := 5) rfl (by kernel_rfl) (by rfl) (fun K hK => ?_)
       go_simp
       refine hK.out _ _ (⟨g2, g0⟩) (fun hHeld => ?_)
       clear hK K
       try simp only [Act.put, List.setIfInBounds_toArray, List.set_cons_zero, List.set_cons_succ]
       refine branch_one (i := 14) rfl (by kernel_rfl) (by rfl) (fun K hK => ?_)
       go_simp
       with_reducible refine Calls.mono HCP.out ?_
       rintro e w8 ⟨rfl, rfl⟩
       refine hK.out _ _ (⟨g2, g0⟩) (fun hHeld => ?_)
       clear hK K
       try simp only [Act.put, List.setIfInBounds_toArray, List.set_cons_zero, List.set_cons_succ]
       refine take_on (i := 15) (v := ?_) rfl (by kernel_rfl) (by kernel_rfl) (by kernel_rfl) (fun _ _ _ h => h) (by rfl) (by assumption) ?_ ?_
       rotate_left
       ·((intro w hSw; (try dsimp only at hSw); go_simp <;> with_reducible rfl); done)
       try simp only [Act.put, List.setIfInBounds_toArray, List.set_cons_zero, List.set_cons_succ]
       refine branch_one (i := 16) rfl (by kernel_rfl) (by rfl) (fun K hK => ?_)
       go_simp
       rw [← HX.out]
       refine hK.out _ _ (⟨h2, h0⟩) (fun hHeld => ?_)
       clear hK K
       try simp only [Act.put, List.setIfInBounds_toArray, List.set_cons_zero, List.set_cons_succ]
       refine wpAnyH_done (by kernel_rfl) ?_ _
       clear hHeld g2 g0 h2 h0 rK rf
       obtain ⟨sA, hsA⟩ : ∃ s, s = spdA first k n sq := ⟨_, rfl⟩
       rw [← hsA] at HSX HNE HBA
       go_upto_region 18 with fail
       clear d5
       go_loopw [84] (fun i wr => ∃ t : Nat, t ≤ N ∧ i = .int .i64 t ∧ Keeps [S] Z wr ∧ SliceAt wr 3 1 (some S) J J (bi (spdI of wd k n sA t))) (fun i _ => N - (intOf i).toNat)
       case atStart => exact ⟨0, Nat.zero_le _, rfl, HKX.out, HSX.out⟩
       case round =>
        obtain ⟨t, ht, rfl, hkp, hs⟩ := hrel
        have HKT := gI hkp
        have HST2 := gI hs
        clear hkp hs
        have hKV := HKA.out wr (HKZ.out.trans HKT.out)
        have HBT := gI (spdI_ok (of := of) (wd := wd) (fun n m => (HWB.out n m).1) (i := k) (n := n) HBA.out t)
        by_cases htN : t < N
        ·have hti : (t : Int) < (N : Int) := by omega
         have hw3 : IntKind.i64.wrap ((t : Int) + 1) = (t : Int) + 1 := IntWalk.i64_in _ (by omega)
         have oT := HO.out wr hKV.1 t htN
         have hoJ := HOF.out t
         have HIE := gI (show spdI of wd k n sA (t + 1) = spdF of wd k n t (spdI of wd k n sA t) from rfl)
         obtain ⟨si, hsi⟩ : ∃ s, s = spdI of wd k n sA t := ⟨_, rfl⟩
         rw [← hsi] at HIE HST2 HBT
         have HFE2 := gI (show spdF of wd k n t si = if decide (0 ≤ of.getD t 0) && decide (of.getD t 0 ≠ k) then si.set k (min (si.getD k 0 + min (wd t n * si.getD (of.getD t 0).toNat 0) 1099511627777) 1099511627777) else si from rfl)
         have HWK := gI hKV.2
         obtain ⟨a, ha⟩ : ∃ a, a = of.getD t 0 := ⟨_, rfl⟩
         rw [← ha] at oT hoJ HFE2
         clear hsi ha hKV
         by_cases h0 : 0 ≤ a
         ·by_cases hak : a = k
          ·have HS3 := gI (show spdI of wd k n sA (t + 1) = si by rw [HIE.out, HFE2.out, if_neg (by simp [hak])])
           go_wp2
           go_roundw
           case rel => exact ⟨t + 1, by omega, by go_num, HKT.out, by rw [HS3.out]; exact HST2.out⟩
           case measure => simp [intOf]; omega
          ·obtain ⟨A, rfl⟩ := Int.eq_ofNat_of_zero_le h0
           have hAJ : A < J := by omega
           have hAk : A ≠ k := by omega
           rw [Int.toNat_natCast] at HFE2
           have HS3 := gI (show spdI of wd k n sA (t + 1) = si.set k (min (si.getD k 0 + min (wd t n * si.getD A 0) 1099511627777) 1099511627777) by rw [HIE.out, HFE2.out, if_pos (by simp; omega)])
           have hb1 := HBT.out.2 k
           have hb2 := HBT.out.2 A
           have hb3 := HWB.out t n
           have rK : wr.drew.cell? ⟨S, k, none⟩ = some (.int .i64 (si.getD k 0)) := bi_cell HST2.out k (by rw [HBT.out.1]; exact hkJ)
           have rA : wr.drew.cell? ⟨S, A, none⟩ = some (.int .i64 (si.getD A 0)) := bi_cell HST2.out A (by rw [HBT.out.1]; exact hAJ)
           have rf : wr.drew.frozen? ⟨S, k, none⟩ = false := HST2.out.fz k
           have rL := (HWK.out.keep ((Keeps.refl [] wr).drew) (by simp)).look t n (by omega) (by omega)
           rw [← HWE.out] at rL
           have hmul := Int.mul_nonneg hb3.1 hb2.1
           have HSA := gI (show ∀ v : Int, (si.set k v).getD A 0 = si.getD A 0 from fun v => by simp only [List.getD_eq_getElem?_getD, List.getElem?_set_ne (Ne.symm hAk)])
           obtain ⟨v1, hv1⟩ : ∃ v, v = si.getD k 0 := ⟨_, rfl⟩
           obtain ⟨v2, hv2⟩ : ∃ v, v = si.getD A 0 := ⟨_, rfl⟩
           obtain ⟨u, hu⟩ : ∃ v, v = wd t n := ⟨_, rfl⟩
           rw [← hv1] at hb1 rK HS3
           rw [← hv2] at hb2 rA HS3 HSA hmul
           rw [← hu] at hb3 rL HS3 hmul
           have HCT := gI (btimes_any u v2 wr.drew hb3.1 hb3.2 hb2.1 hb2.2)
           obtain ⟨m1, hm1⟩ : ∃ v, v = min (u * v2) 1099511627777 := ⟨_, rfl⟩
           have hmb : 0 ≤ m1 ∧ m1 ≤ 1099511627777 := by rw [hm1]; exact spd_min hmul
           rw [← hm1] at HCT HS3
           have HCP := gI (plus_any v1 m1 wr.drew hb1.1 hb1.2 hmb.1 hmb.2)
           obtain ⟨m2, hm2⟩ : ∃ v, v = min (v1 + m1) 1099511627777 := ⟨_, rfl⟩
           rw [← hm2] at HCP HS3
           obtain ⟨X, hX⟩ : ∃ X, X = (wr.setCell ⟨S, k, none⟩ (.int .i64 m2)).drew := ⟨_, rfl⟩
           have kX : Keeps [S] wr X := by rw [hX]; exact ((Keeps.refl [S] wr).setCell (by simp) _).drew
           have HKX := gI (show Keeps [S] Z X from HKT.out.trans kX)
           have HSX := gI (show SliceAt X 3 1 (some S) J J (bi (spdI of wd k n sA (t + 1))) by
            have h := (HST2.out.set k (.int .i64 m2)).keep ((Keeps.refl [] _).drew) (by simp)
            rw [hX, HS3.out]
            simpa [bi, List.map_set] using h)
           have sA : X.cell? ⟨S, A, none⟩ = some (.int .i64 v2) := by
            have h := bi_cell HSX.out A (by rw [HS3.out]; simp [HBT.out.1, hAJ])
            rw [HS3.out, HSA.out] at h
            exact h
           have sL := (HWK.out.keep kX (by have := HHS.out; simp; omega)).look t n (by omega) (by omega)
           rw [← HWE.out, ← hu] at sL
           have HX := gI hX
           clear hv1 hv2 hu hm1 hm2 hX kX hmul
           go_upto_region 21 with fail
           clear oT
           refine wp_region_held_drew (S := fun W => W.cell? ⟨S, A, none⟩ = some (.int .i64 v2) ∧ (Instr.lookup 135 (.map (some H)) (.agg #[.int .i64 t, .int .i64 n]) false).run Tryz.prog W = .ok (.int .i64 u) W) (by kernel_rfl) ⟨rA, rL⟩ (fun hHeld => ?_)
           refine take_on (i := 0) (v := ?_) rfl (by kernel_rfl) (by kernel_rfl) (by kernel_rfl) (fun _ _ _ h => h) (by rfl) (by assumption) ?_ ?_
           rotate_left
           ·((intro w hSw; (try dsimp only at hSw); go_simp <;> with_reducible rfl); done)
           try simp only [Act.put, List.setIfInBounds_toArray, List.set_cons_zero, List.set_cons_succ]
           refine take_on (i := 1) (v := ?_) rfl (by kernel_rfl) (by kernel_rfl) (by kernel_rfl) (fun _ _ _ h => h) (by rfl) (by assumption) ?_ ?_
           rotate_left
           ·((intro w hSw; (try dsimp only at hSw); go_simp <;> with_reducible rfl); done)
           try simp only [Act.put, List.setIfInBounds_toArray, List.set_cons_zero, List.set_cons_succ]
           refine take_on (i := 2) (v := ?_) rfl (by kernel_rfl) (by kernel_rfl) (by kernel_rfl) (fun _ _ _ h => h) (by rfl) (by assumption) ?_ ?_
           rotate_left
           ·((intro w hSw; (try dsimp only at hSw); go_simp <;> with_reducible rfl); done)
           try simp only [Act.put, List.setIfInBounds_toArray, List.set_cons_zero, List.set_cons_succ]
           refine take_on (i := 3) (v := ?_) rfl (by kernel_rfl) (by kernel_rfl) (by kernel_rfl) (fun _ _ _ h => h) (by rfl) (by assumption) ?_ ?_
           rotate_left
           ·((intro w hSw; (try dsimp only at hSw); go_simp <;> with_reducible rfl); done)
           try simp only [Act.put, List.setIfInBounds_toArray, List.set_cons_zero, List.set_cons_succ]
           refine take_on (i := 4) (v := ?_) rfl (by kernel_rfl) (by kernel_rfl) (by kernel_rfl) (fun _ _ _ h => h) (by rfl) (by assumption) ?_ ?_
           rotate_left
           ·((intro w hSw; (try dsimp only at hSw); go_simp <;> with_reducible rfl); done)
           try simp only [Act.put, List.setIfInBounds_toArray, List.set_cons_zero, List.set_cons_succ]
           refine take_on (i := 6) (v := ?_) rfl (by kernel_rfl) (by kernel_rfl) (by kernel_rfl) (fun _ _ _ h => h) (by rfl) (by assumption) ?_ ?_
           rotate_left
           ·((intro w hSw; (try dsimp only at hSw); go_simp <;> with_reducible rfl); done)
           try simp only [Act.put, List.setIfInBounds_toArray, List.set_cons_zero, List.set_cons_succ]
           refine take_on (i := 7) (v := ?_) rfl (by kernel_rfl) (by kernel_rfl) (by kernel_rfl) (fun _ _ _ h => h) (by rfl) (by assumption) ?_ ?_
           rotate_left
           ·((intro w hSw; (try dsimp only at hSw); go_simp <;> with_reducible rfl); done)
           try simp only [Act.put, List.setIfInBounds_toArray, List.set_cons_zero, List.set_cons_succ]
           refine take_on (i := 8) (v := ?_) rfl (by kernel_rfl) (by kernel_rfl) (by kernel_rfl) (fun _ _ _ h => h) (by rfl) (by assumption) ?_ ?_
           rotate_left
           ·((intro w hSw; (try dsimp only at hSw); go_simp <;> with_reducible rfl); done)
           try simp only [Act.put, List.setIfInBounds_toArray, List.set_cons_zero, List.set_cons_succ]
           refine take_on (i := 9) (v := .agg #[.int .i64 t, .int .i64 n]) rfl (by kernel_rfl) (by kernel_rfl) (by kernel_rfl) (fun _ _ _ h => h) (by rfl) (by assumption) ?_ ?_
           ·(intro w hSw; exact exec_build (parts := [(0, .tmp 103), (1, .tmp 104)]) rfl (built_duo2 _ _))
           try simp only [Act.put, List.setIfInBounds_toArray, List.set_cons_zero, List.set_cons_succ]
           refine take_on (i := 10) (v := ?_) rfl (by kernel_rfl) (by kernel_rfl) (by kernel_rfl) (fun _ _ _ h => h) (by rfl) (by assumption) ?_ ?_
           rotate_left
           ·((intro w hSw; (try dsimp only at hSw); go_simp <;> with_reducible rfl); done)
           try simp only [Act.put, List.setIfInBounds_toArray, List.set_cons_zero, List.set_cons_succ]
           refine take_on (i := 11) (v := ?_) rfl (by kernel_rfl) (by kernel_rfl) (by kernel_rfl) (fun _ _ _ h => h) (by rfl) (by assumption) ?_ ?_
           rotate_left
           ·((intro w hSw; (try dsimp only at hSw); go_simp <;> with_reducible rfl); done)
           try simp only [Act.put, List.setIfInBounds_toArray, List.set_cons_zero, List.set_cons_succ]
           refine take_on (i := 12) (v := ?_) rfl (by kernel_rfl) (by kernel_rfl) (by kernel_rfl) (fun _ _ _ h => h) (by rfl) (by assumption) ?_ ?_
           rotate_left
           ·((intro w hSw; (try dsimp only at hSw); go_simp <;> with_reducible rfl); done)
           try simp only [Act.put, List.setIfInBounds_toArray, List.set_cons_zero, List.set_cons_succ]
           refine take_on (i := 13) (v := ?_) rfl (by kernel_rfl) (by kernel_rfl) (by kernel_rfl) (fun _ _ _ h => h) (by rfl) (by assumption) ?_ ?_
           rotate_left
           ·((intro w hSw; (try dsimp only at hSw); go_simp <;> with_reducible rfl); done)
           try simp only [Act.put, List.setIfInBounds_toArray, List.set_cons_zero, List.set_cons_succ]
           refine take_on (i := 14) (v := ?_) rfl (by kernel_rfl) (by kernel_rfl) (by kernel_rfl) (fun _ _ _ h => h) (by rfl) (by assumption) ?_ ?_
           rotate_left
           ·((intro w hSw; (try dsimp only at hSw); go_simp <;> with_reducible rfl); done)
           try simp only [Act.put, List.setIfInBounds_toArray, List.set_cons_zero, List.set_cons_succ]
           refine branch_two (i := 5) (j := 15) rfl rfl (by kernel_rfl) (by rfl) (by rfl) (fun K hK => ?_) (fun K hK => ?_)
           ·go_simp
            refine hK.out _ _ (⟨rA, rL⟩) (fun hHeld => ?_)
            clear hK K
            try simp only [Act.put, List.setIfInBounds_toArray, List.set_cons_zero, List.set_cons_succ]
            refine branch_one (i := 15) rfl (by kernel_rfl) (by rfl) (fun K hK => ?_)
            go_simp
            with_reducible refine Calls.mono HCT.out ?_
            rintro e w8 ⟨rfl, rfl⟩
            refine hK.out _ _ (⟨rA, rL⟩) (fun hHeld => ?_)
            clear hK K
            try simp only [Act.put, List.setIfInBounds_toArray, List.set_cons_zero, List.set_cons_succ]
            refine branch_one (i := 16) rfl (by kernel_rfl) (by rfl) (fun K hK => ?_)
            go_simp
            with_reducible refine Calls.mono HCP.out ?_
            rintro e w8 ⟨rfl, rfl⟩
            refine hK.out _ _ (⟨rA, rL⟩) (fun hHeld => ?_)
            clear hK K
            try simp only [Act.put, List.setIfInBounds_toArray, List.set_cons_zero, List.set_cons_succ]
            refine take_on (i := 17) (v := ?_) rfl (by kernel_rfl) (by kernel_rfl) (by kernel_rfl) (fun _ _ _ h => h) (by rfl) (by assumption) ?_ ?_
            rotate_left
            ·((intro w hSw; (try dsimp only at hSw); go_simp <;> with_reducible rfl); done)
            try simp only [Act.put, List.setIfInBounds_toArray, List.set_cons_zero, List.set_cons_succ]
            refine branch_one (i := 18) rfl (by kernel_rfl) (by rfl) (fun K hK => ?_)
            go_simp
            rw [← HX.out]
            refine hK.out _ _ (⟨sA, sL⟩) (fun hHeld => ?_)
            clear hK K
            try simp only [Act.put, List.setIfInBounds_toArray, List.set_cons_zero, List.set_cons_succ]
            refine wpAnyH_done (by kernel_rfl) ?_ _
            clear hHeld rA rL sA sL rK rf
            go_wp2
            go_roundw
            case rel => exact ⟨t + 1, by omega, by go_num, HKX.out, HSX.out⟩
            case measure => simp [intOf]; omega
           ·go_simp
            with_reducible refine Calls.mono HCT.out ?_
            rintro e w8 ⟨rfl, rfl⟩
            refine hK.out _ _ (⟨rA, rL⟩) (fun hHeld => ?_)
            clear hK K
            try simp only [Act.put, List.setIfInBounds_toArray, List.set_cons_zero, List.set_cons_succ]
            refine branch_one (i := 5) rfl (by kernel_rfl) (by rfl) (fun K hK => ?_)
            go_simp
            refine hK.out _ _ (⟨rA, rL⟩) (fun hHeld => ?_)
            clear hK K
            try simp only [Act.put, List.setIfInBounds_toArray, List.set_cons_zero, List.set_cons_succ]
            refine branch_one (i := 16) rfl (by kernel_rfl) (by rfl) (fun K hK => ?_)
            go_simp
            with_reducible refine Calls.mono HCP.out ?_
            rintro e w8 ⟨rfl, rfl⟩
            refine hK.out _ _ (⟨rA, rL⟩) (fun hHeld => ?_)
            clear hK K
            try simp only [Act.put, List.setIfInBounds_toArray, List.set_cons_zero, List.set_cons_succ]
            refine take_on (i := 17) (v := ?_) rfl (by kernel_rfl) (by kernel_rfl) (by kernel_rfl) (fun _ _ _ h => h) (by rfl) (by assumption) ?_ ?_
            rotate_left
            ·((intro w hSw; (try dsimp only at hSw); go_simp <;> with_reducible rfl); done)
            try simp only [Act.put, List.setIfInBounds_toArray, List.set_cons_zero, List.set_cons_succ]
            refine branch_one (i := 18) rfl (by kernel_rfl) (by rfl) (fun K hK => ?_)
            go_simp
            rw [← HX.out]
            refine hK.out _ _ (⟨sA, sL⟩) (fun hHeld => ?_)
            clear hK K
            try simp only [Act.put, List.setIfInBounds_toArray, List.set_cons_zero, List.set_cons_succ]
            refine wpAnyH_done (by kernel_rfl) ?_ _
            clear hHeld rA rL sA sL rK rf
            go_wp2
            go_roundw
            case rel => exact ⟨t + 1, by omega, by go_num, HKX.out, HSX.out⟩
            case measure => simp [intOf]; omega
         ·have HS3 := gI (show spdI of wd k n sA (t + 1) = si by rw [HIE.out, HFE2.out, if_neg (by simp [h0])])
          go_wp2
          go_roundw
          case rel => exact ⟨t + 1, by omega, by go_num, HKT.out, by rw [HS3.out]; exact HST2.out⟩
          case measure => simp [intOf]; omega
        ·obtain rfl : t = N := by omega
         go_wp2
         go_roundw
         case rel => exact ⟨q + 1, by omega, by go_num, HKT.out, by rw [HNE.out]; exact HST2.out⟩
         case measure => simp [intOf]; omega
      ·obtain rfl : q = nl := by omega
       have HE24 := gI HSE2.out
       have hb1 := HBQ.out.2 k
       have hnl6 := HNDK.out.1
       have rK : wr.drew.cell? ⟨S, k, none⟩ = some (.int .i64 ((spdN of first wd N k nodes sk q).getD k 0)) := bi_cell HSQ.out k (by rw [HBQ.out.1]; exact hkJ)
       have z0 : wr.drew.cell? ⟨PB, 0, none⟩ = some (.slice nd q nc) := by
        have h := HKQ.out.heap HZH.out (by have := HSPB.out; simp; omega)
        have h2 : wr.cell? ⟨PB, 0, none⟩ = some (sv na q nc) := by simp [World.cell?, h]
        rw [HND0.out]
        exact h2
       obtain ⟨fin, hfin⟩ : ∃ s, s = spdN of first wd N k nodes sk q := ⟨_, rfl⟩
       rw [← hfin] at hb1 rK HE24 HSQ
       obtain ⟨v1, hv1⟩ : ∃ v, v = fin.getD k 0 := ⟨_, rfl⟩
       rw [← hv1] at hb1 rK HE24
       have hmul := Int.mul_nonneg (show (0 : Int) ≤ (q : Int) by omega) hb1.1
       have HCT := gI (btimes_any (q : Int) v1 wr.drew (by omega) (by omega) hb1.1 hb1.2)
       obtain ⟨m1, hm1⟩ : ∃ v, v = min ((q : Int) * v1) 1099511627777 := ⟨_, rfl⟩
       have hmb : 0 ≤ m1 ∧ m1 ≤ 1099511627777 := by rw [hm1]; exact spd_min hmul
       rw [← hm1] at HCT HE24
       have HCP := gI (plus_any sp m1 wr.drew hsp.1 hsp.2 hmb.1 hmb.2)
       obtain ⟨m2, hm2⟩ : ∃ v, v = min (sp + m1) 1099511627777 := ⟨_, rfl⟩
       rw [← hm2] at HCP HE24
       have HKN := gI (HKZ.out.trans HKQ.out.drew)
       have HSN := gI (show SliceAt wr.drew 3 1 (some S) J J (bi fin) from HSQ.out.keep ((Keeps.refl [] _).drew) (by simp))
       clear hfin hv1 hm1 hm2 hmul c2 c3 c5 c6
       go_upto_region 24 with fail
       refine wp_region_held_drew (S := fun W => W.cell? ⟨PB, 0, none⟩ = some (.slice nd q nc) ∧ W.cell? ⟨S, k, none⟩ = some (.int .i64 v1)) (by kernel_rfl) ⟨z0, rK⟩ (fun hHeld => ?_)
       refine take_on (i := 0) (v := ?_) rfl (by kernel_rfl) (by kernel_rfl) (by kernel_rfl) (fun _ _ _ h => h) (by rfl) (by assumption) ?_ ?_
       rotate_left
       ·((intro w hSw; (try dsimp only at hSw); go_simp <;> with_reducible rfl); done)
       try simp only [Act.put, List.setIfInBounds_toArray, List.set_cons_zero, List.set_cons_succ]
       refine take_on (i := 1) (v := ?_) rfl (by kernel_rfl) (by kernel_rfl) (by kernel_rfl) (fun _ _ _ h => h) (by rfl) (by assumption) ?_ ?_
       rotate_left
       ·((intro w hSw; (try dsimp only at hSw); go_simp <;> with_reducible rfl); done)
       try simp only [Act.put, List.setIfInBounds_toArray, List.set_cons_zero, List.set_cons_succ]
       refine take_on (i := 2) (v := ?_) rfl (by kernel_rfl) (by kernel_rfl) (by kernel_rfl) (fun _ _ _ h => h) (by rfl) (by assumption) ?_ ?_
       rotate_left
       ·((intro w hSw; (try dsimp only at hSw); go_simp <;> with_reducible rfl); done)
       try simp only [Act.put, List.setIfInBounds_toArray, List.set_cons_zero, List.set_cons_succ]
       refine take_on (i := 3) (v := ?_) rfl (by kernel_rfl) (by kernel_rfl) (by kernel_rfl) (fun _ _ _ h => h) (by rfl) (by assumption) ?_ ?_
       rotate_left
       ·((intro w hSw; (try dsimp only at hSw); go_simp <;> with_reducible rfl); done)
       try simp only [Act.put, List.setIfInBounds_toArray, List.set_cons_zero, List.set_cons_succ]
       refine take_on (i := 4) (v := ?_) rfl (by kernel_rfl) (by kernel_rfl) (by kernel_rfl) (fun _ _ _ h => h) (by rfl) (by assumption) ?_ ?_
       rotate_left
       ·((intro w hSw; (try dsimp only at hSw); go_simp <;> with_reducible rfl); done)
       try simp only [Act.put, List.setIfInBounds_toArray, List.set_cons_zero, List.set_cons_succ]
       refine take_on (i := 5) (v := ?_) rfl (by kernel_rfl) (by kernel_rfl) (by kernel_rfl) (fun _ _ _ h => h) (by rfl) (by assumption) ?_ ?_
       rotate_left
       ·((intro w hSw; (try dsimp only at hSw); go_simp <;> with_reducible rfl); done)
       try simp only [Act.put, List.setIfInBounds_toArray, List.set_cons_zero, List.set_cons_succ]
       refine take_on (i := 6) (v := ?_) rfl (by kernel_rfl) (by kernel_rfl) (by kernel_rfl) (fun _ _ _ h => h) (by rfl) (by assumption) ?_ ?_
       rotate_left
       ·((intro w hSw; (try dsimp only at hSw); go_simp <;> with_reducible rfl); done)
       try simp only [Act.put, List.setIfInBounds_toArray, List.set_cons_zero, List.set_cons_succ]
       refine take_on (i := 7) (v := ?_) rfl (by kernel_rfl) (by kernel_rfl) (by kernel_rfl) (fun _ _ _ h => h) (by rfl) (by assumption) ?_ ?_
       rotate_left
       ·((intro w hSw; (try dsimp only at hSw); go_simp <;> with_reducible rfl); done)
       try simp only [Act.put, List.setIfInBounds_toArray, List.set_cons_zero, List.set_cons_succ]
       refine branch_one (i := 8) rfl (by kernel_rfl) (by rfl) (fun K hK => ?_)
       go_simp
       with_reducible refine Calls.mono HCT.out ?_
       rintro e w8 ⟨rfl, rfl⟩
       refine hK.out _ _ (⟨z0, rK⟩) (fun hHeld => ?_)
       clear hK K
       try simp only [Act.put, List.setIfInBounds_toArray, List.set_cons_zero, List.set_cons_succ]
       refine branch_one (i := 9) rfl (by kernel_rfl) (by rfl) (fun K hK => ?_)
       go_simp
       with_reducible refine Calls.mono HCP.out ?_
       rintro e w8 ⟨rfl, rfl⟩
       refine hK.out _ _ (⟨z0, rK⟩) (fun hHeld => ?_)
       clear hK K
       try simp only [Act.put, List.setIfInBounds_toArray, List.set_cons_zero, List.set_cons_succ]
       refine take_on (i := 10) (v := ?_) rfl (by kernel_rfl) (by kernel_rfl) (by kernel_rfl) (fun _ _ _ h => h) (by rfl) (by assumption) ?_ ?_
       rotate_left
       ·((intro w hSw; (try dsimp only at hSw); go_simp <;> with_reducible rfl); done)
       try simp only [Act.put, List.setIfInBounds_toArray, List.set_cons_zero, List.set_cons_succ]
       refine wpAnyH_done (by kernel_rfl) ?_ _
       clear hHeld z0 rK
       go_wp2
       go_roundw
       case rel => exact ⟨k + 1, by omega, by go_num, by rw [HE24.out], HKN.out, by rw [HE24.out]; exact HSN.out⟩
       case measure => simp [intOf]; omega
    ·obtain rfl : k = J := by omega
     have HKE := gI (show sprP of x.first x.edges ps x.nodes.length = (spdK of first wd N ps k).2 by
      unfold sprP
      rw [← HNN.out, ← HES.out, ← HLL.out, ← HFE.out, ← HWE.out, ← HKK.out])
     go_wp2
     rw [HQ.out]
     exact ⟨by rw [HKE.out]; rfl, HKW.out⟩
end Go.Proofs.YtkekenaamnhbhaaGreat
