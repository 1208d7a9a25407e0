/- Part 15 of the proof. No condition: every lemma says its own. -/
import Derived.Test.YtkekenaamnhbhaaGreatZsan
namespace Go.Proofs.YtkekenaamnhbhaaGreat
open Go.RowKit Go.BigFrame Classical
set_option maxRecDepth 100000
set_option maxHeartbeats 16000000
theorem infoW64 : (Tryz.prog.info? 76).map (fun i => (i.zero, i.size, i.bytes)) = some (some (.int .u64 0), 1, 8) := by kernel_rfl
theorem built_duo (a b : Int) : Tryz.prog.built 136 [(0, .int .i64 a), (1, .int .i64 b)] = some #[.int .i64 a, .int .i64 b] := by kernel_rfl
structure DI (H : Nat) (W0 W : World) (gb : Nat) (x : Gr) (rb ob pb pc : Nat) (rows : List Nat) (of : List Int) (K : Nat) (ps : List Pt) : Prop where
 bn : BN W0 W gb x rb ob (some pb) pc rows of ps
 len : ps.length = K
 na : NaLt ps H
theorem DI.keepN {S : List Nat} {H : Nat} {W0 w w' : World} {gb : Nat} {x : Gr} {rb ob : Nat} {pb : Nat} {pc : Nat} {rows : List Nat} {of : List Int} {K : Nat} {ps : List Pt} (h : DI H W0 w gb x rb ob pb pc rows of K ps) (hH : BH H W0 gb rb ob pb) (k : Keeps S w w') (hS : ∀ b ∈ S, H ≤ b) : DI H W0 w' gb x rb ob pb pc rows of K ps :=
 ⟨h.bn.keepN k hH h.na hS, h.len, h.na⟩
theorem DI.drewN {H : Nat} {W0 w : World} {gb : Nat} {x : Gr} {rb ob : Nat} {pb : Nat} {pc : Nat} {rows : List Nat} {of : List Int} {K : Nat} {ps : List Pt} (h : DI H W0 w gb x rb ob pb pc rows of K ps) (hH : BH H W0 gb rb ob pb) (n : Nat) : DI H W0 (w.drewN n) gb x rb ob pb pc rows of K ps :=
 h.keepN hH ((Keeps.refl [] w).drewN n) (fun b hb => by cases hb)
theorem RdAt.drewN {w : World} {rm : Nat} {es : List E4} {k : Nat} (h : RdAt w rm es k) (n : Nat) : RdAt (w.drewN n) rm es k := h.keep ((Keeps.refl [] w).drewN n) (by simp)
theorem DI.set1 {H : Nat} {W0 w : World} {gb : Nat} {x : Gr} {rb ob : Nat} {pb : Nat} {pc : Nat} {rows : List Nat} {of : List Int} {K : Nat} {ps : List Pt} (h : DI H W0 w gb x rb ob pb pc rows of K ps) (i : Nat) (hi : i < K) : DI H W0 (w.setCell ⟨pb, i * 4 + 1, none⟩ (.bool true)) gb x rb ob pb pc rows of K (setLp ps i) :=
 ⟨h.bn.setPt _ i 1 _ (by rw [h.len]; exact hi) (by decide) rfl ⟨rfl, rfl, rfl⟩, by rw [setLp_length, h.len], h.na.set _ _ rfl⟩
theorem DI.set2 {H : Nat} {W0 w : World} {gb : Nat} {x : Gr} {rb ob : Nat} {pb : Nat} {pc : Nat} {rows : List Nat} {of : List Int} {K : Nat} {ps : List Pt} (h : DI H W0 w gb x rb ob pb pc rows of K ps) (i : Nat) (hi : i < K) (b : Bool) : DI H W0 (w.setCell ⟨pb, i * 4 + 2, none⟩ (.bool b)) gb x rb ob pb pc rows of K (setLd ps i b) :=
 ⟨h.bn.setPt _ i 2 _ (by rw [h.len]; exact hi) (by decide) rfl ⟨rfl, rfl, rfl⟩, by rw [setLd_length, h.len], h.na.set _ _ rfl⟩
theorem DI.set3 {H : Nat} {W0 w : World} {gb : Nat} {x : Gr} {rb ob : Nat} {pb : Nat} {pc : Nat} {rows : List Nat} {of : List Int} {K : Nat} {ps : List Pt} (h : DI H W0 w gb x rb ob pb pc rows of K ps) (i : Nat) (hi : i < K) (b : Bool) : DI H W0 (w.setCell ⟨pb, i * 4 + 3, none⟩ (.bool b)) gb x rb ob pb pc rows of K (setOp ps i b) :=
 ⟨h.bn.setPt _ i 3 _ (by rw [h.len]; exact hi) (by decide) rfl ⟨rfl, rfl, rfl⟩, by simp [setOp, h.len], h.na.set _ _ rfl⟩
set_option linter.unusedSimpArgs false in
theorem describe_any : DesOK := by
 intro W0 w gb x rb ob pa pc rows of ps h pre
 obtain ⟨ho, hN, hK, hof, hE, hel, hcl⟩ := pre
 have hK0 : 0 < ps.length := by
  have h1 := hof of.length
  simp at h1
  omega
 obtain ⟨pb, rfl, _⟩ := pt_cells h.bg.prt hK0
 obtain ⟨iu, hiu, huz, hus, hub⟩ := infoParts infoW64
 obtain ⟨ie, hie, hez, hes, heb⟩ := infoParts infoEd
 have HIE := gI (And.intro hie (And.intro hez (And.intro hes heb)))
 obtain ⟨N, hNN⟩ : ∃ N, N = x.nodes.length := ⟨_, rfl⟩
 obtain ⟨L, hLL⟩ : ∃ L, L = x.edges.length := ⟨_, rfl⟩
 obtain ⟨K, hKK⟩ : ∃ K, K = ps.length := ⟨_, rfl⟩
 obtain ⟨Q, hQ⟩ : ∃ Q, Q = DesOut W0 gb x rb ob rows of ps := ⟨_, rfl⟩
 rw [← hQ]
 have HQ := gI hQ
 have HM2 : ∀ W : World, (Instr.makeSlice 97 (.int .i64 (N : Nat)) (.int .i64 (N : Nat))).run Tryz.prog W = .ok (.slice (some ⟨W.heap.size, 0, none⟩) N N) (W.alloc (.cells (List.replicate N (.int .u64 0)).toArray 76)) :=
  fun W => run_make_one Tryz.underlying97 hiu huz hus hub rfl W N (by omega)
 have HMM1 : ∀ W : World, (Instr.makeMap 163 none).run Tryz.prog W = .ok (.map (some W.heap.size)) (W.alloc (.map #[] 0)) := fun W => run_makeMap _ W
 have HMM2 : ∀ W : World, (Instr.makeMap 164 none).run Tryz.prog W = .ok (.map (some W.heap.size)) (W.alloc (.map #[] 0)) := fun W => run_makeMap _ W
 obtain ⟨H, hHH⟩ : ∃ H, H = w.heap.size := ⟨_, rfl⟩
 have hlt := h.lt
 have HH := gI (show BH H W0 gb rb ob pb by rw [hHH]; exact ⟨h.k.size, hlt.1, hlt.2.1, hlt.2.2.1, hlt.2.2.2.1 pb rfl⟩)
 have HD0 := gI (show DI H W0 w gb x rb ob pb pc rows of K ps from ⟨h, hKK.symm, by rw [hHH]; exact hlt.2.2.2.2⟩)
 have HBX := gI (show ∀ (W : World) (qs : List Pt), DI H W0 W gb x rb ob pb pc rows of K qs → W.cell? ⟨gb, 1, none⟩ = some (.slice x.na N x.nc) ∧ W.cell? ⟨gb, 3, none⟩ = some (.slice x.ea L x.ec) ∧ W.cell? ⟨gb, 5, none⟩ = some (.slice (some ⟨ob, 0, none⟩) N N) ∧ W.cell? ⟨gb, 6, none⟩ = some (.slice (some ⟨pb, 0, none⟩) K pc) from fun W qs hb => by
  have h := bg_cells hb.bn.bg.box
  rw [hb.len] at h
  rw [hNN, hLL]
  exact ⟨h.1.2.1, h.1.2.2.2, h.2.2.1, h.2.2.2⟩)
 have HO := gI (show ∀ (W : World) (qs : List Pt), DI H W0 W gb x rb ob pb pc rows of K qs → ∀ i, i < N → W.cell? ⟨ob, i, none⟩ = some (.int .i64 (of.getD i 0)) from fun W qs hb i hi => bi_cell hb.bn.bg.ofs i (by rw [ho, ← hNN]; exact hi))
 have HED := gI (show ∀ (W : World) (qs : List Pt), DI H W0 W gb x rb ob pb pc rows of K qs → ∀ i, i < L → _ from fun W qs hb i hi => ed_cells hb.bn.bg.gr.edges (i := i) (by rw [← hLL]; exact hi))
 have HPT := gI (show ∀ (W : World) (qs : List Pt), DI H W0 W gb x rb ob pb pc rows of K qs → ∀ i, i < K → (W.cell? ⟨pb, i * 4 + 1, none⟩ = some (.bool (qs.getD i pt0).loop) ∧ W.cell? ⟨pb, i * 4 + 2, none⟩ = some (.bool (qs.getD i pt0).leads) ∧ W.cell? ⟨pb, i * 4 + 3, none⟩ = some (.bool (qs.getD i pt0).opn)) ∧ ∀ j, W.frozen? ⟨pb, j, none⟩ = false from fun W qs hb i hi => by
  obtain ⟨p2, e, h1, h2, h3, h4⟩ := pt_cells hb.bn.bg.prt (i := i) (by rw [hb.len]; exact hi)
  cases e
  exact ⟨⟨h2, h3, h4⟩, fun j => hb.bn.bg.prt.fz j⟩)
 have HE := gI (show ∀ i, i < L → (0 ≤ (x.edges.getD i e40).fr ∧ (x.edges.getD i e40).fr < N) ∧ (0 ≤ (x.edges.getD i e40).tt ∧ (x.edges.getD i e40).tt < N) ∧ 0 ≤ (x.edges.getD i e40).cl ∧ (x.edges.getD i e40).cl ≤ 1000000 by rw [hLL, hNN]; exact hE)
 have HF64 := gI (show ∀ i, (x.edges.getD i e40).fr.toNat < 64 from fun i => by
  by_cases hi : i < x.edges.length
  ·have := (hE i hi).1; omega
  ·rw [List.getD_eq_getElem?_getD, List.getElem?_eq_none (by omega)]; decide)
 have HOF := gI (show ∀ i, of.getD i 0 < K by rw [hKK]; exact hof)
 have HCL := gI (show ∀ i, i < L → 0 ≤ of.getD (x.edges.getD i e40).fr.toNat 0 → 0 ≤ of.getD (x.edges.getD i e40).tt.toNat 0 by rw [hLL]; exact hcl)
 have hL6 : L ≤ 1000000 := by rw [hLL]; exact hel
 have hN64 : N ≤ 64 := by rw [hNN]; exact hN
 have HOL := gI (show of.length = N by rw [hNN]; exact ho)
 have HNN := gI hNN
 have HLL := gI hLL
 have HKK := gI hKK
 have HHH := gI hHH
 have hK6 : K ≤ 1000000 := by rw [hKK]; exact hK
 obtain ⟨_, c3, c5, c6⟩ := HBX.out w ps HD0.out
 obtain ⟨es, hes2⟩ : ∃ es, es = x.edges := ⟨_, rfl⟩
 rw [← hes2] at HED HE HF64 HCL HLL
 have HES := gI hes2
 obtain ⟨Y, hY⟩ : ∃ Y, Y = w.alloc (.map #[] 0) := ⟨_, rfl⟩
 have hkY : Keeps [] w Y := by rw [hY]; exact Keeps.a1 _ _
 have HDY := gI (HD0.out.keepN HH.out hkY (by simp))
 have HRY := gI (show RdAt Y H es 0 from ⟨fun _ => none, by rw [hY, hHH]; exact MapAt.made w _ _, fun c => rfl⟩)
 have HY := gI hY
 have d3 := (HBX.out Y ps HDY.out).2.1
 clear h ho hN hK hof hE hel hcl hK0 hiu huz hus hub hie hez hes heb hNN hLL hKK hQ hHH hlt hes2 hkY hY
 go_enter Tryz.func64, Tryz.ntmps64
 go_upto_region 1 with fail
 rw [← HY.out, ← HHH.out]
 go_upto_region 2 with fail
 clear c3 c5 c6 d3
 go_loopw [23] (fun i wr => ∃ j : Nat, j ≤ L ∧ i = .int .i64 j ∧ DI H W0 wr gb x rb ob pb pc rows of K (lpK of es ps j) ∧ RdAt wr H es j) (fun i _ => L - (intOf i).toNat)
 case atStart => exact ⟨0, Nat.zero_le _, rfl, HDY.out, HRY.out⟩
 case round =>
  obtain ⟨j, hj, rfl, hd, hr⟩ := hrel
  have HD := gI hd
  have HR := gI hr
  clear hd hr
  obtain ⟨c1, c3, c5, c6⟩ := HBX.out wr _ HD.out
  by_cases hjL : j < L
  ·have hji : (j : Int) < (L : Int) := by omega
   have hw1 : IntKind.i64.wrap ((j : Int) + 1) = (j : Int) + 1 := IntWalk.i64_in _ (by omega)
   obtain ⟨b, off, hla, v0, v1, v2, v3⟩ := HED.out wr _ HD.out j hjL
   have hbj := HE.out j hjL
   have HS := gI (show lpK of es ps (j + 1) = if lpB of (es.getD j e40) then setLp (lpK of es ps j) (of.getD (es.getD j e40).fr.toNat 0).toNat else lpK of es ps j from rfl)
   have HRS := gI (show ∀ c, rdK es (j + 1) c = if (es.getD j e40).cl = c then rdK es j c ||| 2 ^ (es.getD j e40).fr.toNat else rdK es j c from fun c => rfl)
   have HRB := gI (fun c => rdK_lt es HF64.out c j)
   obtain ⟨e, he⟩ : ∃ e, e = es.getD j e40 := ⟨_, rfl⟩
   rw [← he] at v0 v1 v2 v3 hbj HS
   simp only [← he] at HRS
   clear he
   obtain ⟨f1, t1, l1, s1⟩ := e
   simp only at v0 v1 v2 v3 hbj
   obtain ⟨F, rfl⟩ := Int.eq_ofNat_of_zero_le hbj.1.1
   obtain ⟨T, rfl⟩ := Int.eq_ofNat_of_zero_le hbj.2.1.1
   have hFN : F < N := by omega
   have hTN : T < N := by omega
   obtain ⟨qs, hqs⟩ : ∃ q, q = lpK of es ps j := ⟨_, rfl⟩
   rw [← hqs] at HS HD
   have HS2 := gI (show lpK of es ps (j + 1) = if decide (0 ≤ of.getD F 0) && decide (of.getD F 0 = of.getD T 0) then setLp qs (of.getD F 0).toNat else qs from HS.out)
   have HRS2 := gI (show ∀ c, rdK es (j + 1) c = if l1 = c then rdK es j c ||| 2 ^ F else rdK es j c from HRS.out)
   obtain ⟨C, hC⟩ : ∃ C, C = wr.heap.size := ⟨_, rfl⟩
   obtain ⟨Z, hZ⟩ : ∃ Z, Z = wr.alloc (.cells #[.int .i64 F, .int .i64 T, .int .i64 l1, .int .i64 s1] 125) := ⟨_, rfl⟩
   have hkZ : Keeps [] wr Z := by rw [hZ]; exact Keeps.a1 _ _
   have HDZ := gI (HD.out.keepN HH.out hkZ (by simp))
   have hZH : Z.heap[C]? = some (.cells #[.int .i64 F, .int .i64 T, .int .i64 l1, .int .i64 s1] 125 (0, 0)) := by rw [hZ, hC]; exact heap_alloc_new wr _
   have HZH := gI hZH
   have z0 : Z.cell? ⟨C, 0, none⟩ = some (.int .i64 F) := by simp [World.cell?, hZH]
   have z1 : Z.cell? ⟨C, 1, none⟩ = some (.int .i64 T) := by simp [World.cell?, hZH]
   have z2 : Z.cell? ⟨C, 2, none⟩ = some (.int .i64 l1) := by simp [World.cell?, hZH]
   have hHC : H < C := by rw [hC]; exact HR.out.lt
   have hrz := HR.out.keep hkZ (by simp)
   obtain ⟨g, hmap, hg⟩ := hrz
   have hek : -9223372036854775808 ≤ l1 ∧ l1 ≤ 9223372036854775807 := by omega
   have L1 : (Instr.lookup 163 (.map (some H)) (.int .i64 l1) false).run Tryz.prog Z.drew = .ok (.int .u64 (rdK es j l1 : Nat)) Z.drew := by
    have h := (hmap.keep ((Keeps.refl [] Z).drew) (by simp)).look false intKeyed Tryz.underlying163 (z := .int .u64 0) (by kernel_rfl) (keyI hek)
    rw [hg l1] at h
    exact h
   have h3 : ((2 ^ F : Nat) : Int) = (2 : Int) ^ F := by norm_cast
   have h1 : IntKind.u64.wrap ((2 : Int) ^ F) = ((2 ^ F : Nat) : Int) := by
    have := u64_nat (2 ^ F) (two_pow_lt (by omega))
    rw [← this]; norm_cast
   have hor := or_u64 (rdK es j l1) (2 ^ F) (HRB.out l1) (two_pow_lt (by omega))
   have HRV := gI (show rdK es (j + 1) l1 = rdK es j l1 ||| 2 ^ F by rw [HRS2.out, if_pos rfl])
   have HRO := gI (show ∀ c, c ≠ l1 → rdK es (j + 1) c = rdK es j c from fun c hc => by rw [HRS2.out, if_neg (Ne.symm hc)])
   obtain ⟨r1, hr1⟩ : ∃ r, r = rdK es j l1 := ⟨_, rfl⟩
   rw [← hr1] at L1 hor HRV
   obtain ⟨r2, hr2⟩ : ∃ r, r = r1 ||| 2 ^ F := ⟨_, rfl⟩
   rw [← hr2] at hor HRV
   rw [h3] at hor
   have HMAP := gI hmap
   have HG := gI hg
   have HEK := gI hek
   have HKZ := gI hkZ
   have HZ := gI hZ
   have HC := gI hC
   rw [hla] at c3 ⊢
   clear hZ hC hkZ hZH hqs hr1 hr2 hmap hg hek
   go_upto_region 4 with fail
   rw [← HZ.out, ← HC.out]
   clear v0 v1 v2 v3 c1 c3 c5 c6
   refine wp_region_held_drew (S := fun W => W.cell? ⟨C, 0, none⟩ = some (.int .i64 F) ∧ W.cell? ⟨C, 2, none⟩ = some (.int .i64 l1)) (by kernel_rfl) ⟨z0, z2⟩ (fun hHeld => ?_)
   refine take_on (i := 0) (v := ?_) rfl (by kernel_rfl) (by kernel_rfl) (by kernel_rfl) (fun _ _ _ h => h) (by rfl) (by assumption) ?_ ?_
   rotate_left
   ·((intro w hSw; (try dsimp only at hSw); go_simp <;> with_reducible rfl); done)
   try simp only [Act.put, List.setIfInBounds_toArray, List.set_cons_zero, List.set_cons_succ]
   refine take_on (i := 1) (v := ?_) rfl (by kernel_rfl) (by kernel_rfl) (by kernel_rfl) (fun _ _ _ h => h) (by rfl) (by assumption) ?_ ?_
   rotate_left
   ·((intro w hSw; (try dsimp only at hSw); go_simp <;> with_reducible rfl); done)
   try simp only [Act.put, List.setIfInBounds_toArray, List.set_cons_zero, List.set_cons_succ]
   refine take_on (i := 2) (v := ?_) rfl (by kernel_rfl) (by kernel_rfl) (by kernel_rfl) (fun _ _ _ h => h) (by rfl) (by assumption) ?_ ?_
   rotate_left
   ·((intro w hSw; (try dsimp only at hSw); go_simp <;> with_reducible rfl); done)
   try simp only [Act.put, List.setIfInBounds_toArray, List.set_cons_zero, List.set_cons_succ]
   refine take_on (i := 4) (v := ?_) rfl (by kernel_rfl) (by kernel_rfl) (by kernel_rfl) (fun _ _ _ h => h) (by rfl) (by assumption) ?_ ?_
   rotate_left
   ·((intro w hSw; (try dsimp only at hSw); go_simp <;> with_reducible rfl); done)
   try simp only [Act.put, List.setIfInBounds_toArray, List.set_cons_zero, List.set_cons_succ]
   refine take_on (i := 5) (v := ?_) rfl (by kernel_rfl) (by kernel_rfl) (by kernel_rfl) (fun _ _ _ h => h) (by rfl) (by assumption) ?_ ?_
   rotate_left
   ·((intro w hSw; (try dsimp only at hSw); go_simp <;> with_reducible rfl); done)
   try simp only [Act.put, List.setIfInBounds_toArray, List.set_cons_zero, List.set_cons_succ]
   refine take_on (i := 6) (v := ?_) rfl (by kernel_rfl) (by kernel_rfl) (by kernel_rfl) (fun _ _ _ h => h) (by rfl) (by assumption) ?_ ?_
   rotate_left
   ·((intro w hSw; (try dsimp only at hSw); go_simp <;> with_reducible rfl); done)
   try simp only [Act.put, List.setIfInBounds_toArray, List.set_cons_zero, List.set_cons_succ]
   refine branch_one (i := 3) rfl (by kernel_rfl) (by rfl) (fun K hK => ?_)
   go_simp
   refine hK.out _ _ (⟨z0, z2⟩) (fun hHeld => ?_)
   clear hK K
   try simp only [Act.put, List.setIfInBounds_toArray, List.set_cons_zero, List.set_cons_succ]
   refine take_on (i := 7) (v := ?_) rfl (by kernel_rfl) (by kernel_rfl) (by kernel_rfl) (fun _ _ _ h => h) (by rfl) (by assumption) ?_ ?_
   rotate_left
   ·((intro w hSw; (try dsimp only at hSw); go_simp <;> with_reducible rfl); done)
   try simp only [Act.put, List.setIfInBounds_toArray, List.set_cons_zero, List.set_cons_succ]
   refine branch_one (i := 8) rfl (by kernel_rfl) (by rfl) (fun K hK => ?_)
   refine wp_mapPut (.tmp 27) (.tmp 29) (.tmp 34) 163 rfl 3 76 intKeyed Tryz.underlying163 H j g rfl (HMAP.out.keep ((Keeps.refl [] Z).drew) (by simp)) (by unfold maxLen; omega) (.int .i64 l1) (.int .u64 (r2 : Nat)) rfl rfl (keyI HEK.out) ?_
   intro w4 hm4 hk4
   have hkd : Keeps [H] Z w4 := ((Keeps.refl [H] Z).drew).trans hk4
   have HD4 := gI (HDZ.out.keepN HH.out hkd (fun b hb => by simp at hb; omega))
   have HR4 := gI (show RdAt w4 H es (j + 1) from ⟨_, hm4, fun c => by
    by_cases hc : c = l1
    ·subst hc
     simp [HRV.out]
    ·have hne : (Value.int .i64 c) ≠ .int .i64 l1 := by simpa using hc
     simp only [if_neg hne]
     rw [HRO.out c hc]
     exact HG.out c⟩)
   have hCH : C ∉ [H] := by simp; omega
   have y0 := hkd.cell z0 hCH
   have y1 := hkd.cell z1 hCH
   have y2 := hkd.cell z2 hCH
   clear hkd hm4 hk4
   refine hK.out _ _ (⟨y0, y2⟩) (fun hHeld => ?_)
   clear hK K
   try simp only [Act.put, List.setIfInBounds_toArray, List.set_cons_zero, List.set_cons_succ]
   refine wpAnyH_done (by kernel_rfl) ?_ _
   clear hHeld
   obtain ⟨_, _, c5, _⟩ := HBX.out w4 _ HD4.out
   have oF := HO.out w4 _ HD4.out F hFN
   have oT := HO.out w4 _ HD4.out T hTN
   have hoFK := HOF.out F
   obtain ⟨a, ha⟩ : ∃ a, a = of.getD F 0 := ⟨_, rfl⟩
   obtain ⟨c, hc⟩ : ∃ c, c = of.getD T 0 := ⟨_, rfl⟩
   rw [← ha] at oF hoFK HS2
   rw [← hc] at oT HS2
   clear ha hc z0 z1 z2 L1 hor h1 h3
   have HREL := gI (show lpK of es ps (j + 1) = qs → ∀ W, DI H W0 W gb x rb ob pb pc rows of K qs → RdAt W H es (j + 1) → ∃ k : Nat, k ≤ L ∧ Value.int .i64 ((j : Int) + 1) = .int .i64 k ∧ DI H W0 W gb x rb ob pb pc rows of K (lpK of es ps k) ∧ RdAt W H es k from fun h W h1 h2 => ⟨j + 1, by omega, by go_num, by rw [h]; exact h1, h2⟩)
   by_cases h0 : 0 ≤ a
   ·by_cases hac : a = c
    ·have HS3 := gI (show lpK of es ps (j + 1) = setLp qs a.toNat by rw [HS2.out, if_pos (by simp [← hac, h0])])
     subst hac
     obtain ⟨A, rfl⟩ := Int.eq_ofNat_of_zero_le h0
     have hAK : A < K := by omega
     rw [Int.toNat_natCast] at HS3
     go_wp2
     go_quiet (fail)
     rename Nat => nq1
     go_wp2
     go_quiet (fail)
     rename Nat => nq2
     obtain ⟨V, hV⟩ : ∃ V, V = (w4.drewN nq1).drewN nq2 := ⟨_, rfl⟩
     have HDV := gI (show DI H W0 V gb x rb ob pb pc rows of K qs by rw [hV]; exact (HD4.out.drewN HH.out _).drewN HH.out _)
     have HRV2 := gI (show RdAt V H es (j + 1) by rw [hV]; exact (HR4.out.drewN _).drewN _)
     rw [← hV]
     clear hV
     obtain ⟨_, _, _, c6⟩ := HBX.out V _ HDV.out
     obtain ⟨⟨p1, _, _⟩, pf⟩ := HPT.out V _ HDV.out A hAK
     have pf1 := pf (A * 4 + 1)
     have HDX := gI (HDV.out.set1 A hAK)
     have HRX := gI (HRV2.out.keep ((Keeps.refl [pb] V).setCell (p := ⟨pb, A * 4 + 1, none⟩) (by simp) (.bool true)) (by have := HH.out.p; simp; omega))
     clear pf c5 oF oT
     go_wp2
     go_roundw
     case rel => exact ⟨j + 1, by omega, by go_num, by rw [HS3.out]; exact HDX.out, HRX.out⟩
     case measure => simp [intOf]; omega
    ·have HS3 := gI (HREL.out (by rw [HS2.out, if_neg (by simp [hac])]))
     have hd1 : decide (a = c) = false := by simpa using hac
     have hd2 : (a == c) = false := by simpa using hac
     go_wp2
     go_quiet (fail)
     go_wp2
     go_quiet (fail)
     go_wp2
     go_roundw
     case rel => exact HS3.out _ (HD4.out.drewN HH.out _) (HR4.out.drewN _)
     case measure => simp [intOf]; omega
   ·have HS3 := gI (HREL.out (by rw [HS2.out, if_neg (by simp [h0])]))
    have hd1 : decide (0 ≤ a) = false := by simpa using h0
    go_wp2
    go_quiet (fail)
    go_wp2
    go_quiet (fail)
    go_wp2
    go_roundw
    case rel => exact HS3.out _ (HD4.out.drewN HH.out _) (HR4.out.drewN _)
    case measure => simp [intOf]; omega
  ·obtain rfl : j = L := by omega
   obtain ⟨rd, hrd⟩ : ∃ r, r = rdK es j := ⟨_, rfl⟩
   have HRD := gI (show ∀ c, rdK es j c = rd c from fun c => by rw [hrd])
   have HRB := gI (show ∀ c, rd c < 2 ^ 64 from fun c => by rw [hrd]; exact rdK_lt es HF64.out c j)
   have HRDE := gI hrd
   obtain ⟨P1, hP1⟩ : ∃ p, p = lpK of es ps j := ⟨_, rfl⟩
   rw [← hP1] at HD
   have HP1 := gI hP1
   obtain ⟨M, hM⟩ : ∃ M, M = wr.heap.size := ⟨_, rfl⟩
   have HHM := gI (show H < M by rw [hM]; exact HR.out.lt)
   obtain ⟨W1, hW1⟩ : ∃ W, W = wr.alloc (.cells (Array.replicate N (.int .u64 0)) 76) := ⟨_, rfl⟩
   have k1 : Keeps [] wr W1 := by rw [hW1]; exact Keeps.a1 _ _
   have s1 : W1.heap.size = M + 1 := by rw [hW1, hM]; simp
   obtain ⟨W2, hW2⟩ : ∃ W, W = W1.alloc (.map #[] 0) := ⟨_, rfl⟩
   have k2 : Keeps [] W1 W2 := by rw [hW2]; exact Keeps.a1 _ _
   have k3 : Keeps [] wr W2 := k1.trans k2
   have hb1 : W1.heap[M]? = some (.cells (Array.replicate N (.int .u64 0)) 76 (0, 0)) := by rw [hW1, hM]; exact heap_alloc_new _ _
   have sl1 := SliceAt.of_row (size := 1) (c := N) (k2.heap hb1 (by simp)) (by simp) (by unfold maxLen; omega)
   have HD2 := gI (HD.out.keepN HH.out k3 (by simp))
   have HR2 := gI (HR.out.keep k3 (by simp))
   have hma := MapAt.made W1 Tryz.prog 136
   rw [s1, ← hW2] at hma
   have HST := gI (show ∃ sl, SliceAt W2 76 1 (some M) N N (bu (mtK es rd N 0)) ∧ By W2 (M + 1) sl (es.take 0) ∧ ByA (M + 1) (M + 1) sl from ⟨_, by simpa [bu, mtK] using sl1, By.made hma, ByA.made (Nat.le_refl _)⟩)
   have HW1 := gI hW1
   have HW2 := gI hW2
   have HS1 := gI s1
   have HM := gI hM
   obtain ⟨_, c3b, _, _⟩ := HBX.out W2 _ HD2.out
   have c1b := (HBX.out W2 _ HD2.out).1
   clear hrd hP1 hM hW1 k1 s1 hW2 k2 k3 hb1 sl1 hma
   go_upto_region 10 with fail
   try simp only [List.toArray_replicate]
   rw [← HW1.out, ← HM.out]
   go_upto_region 11 with fail
   rw [HS1.out, ← HW2.out]
   go_upto_region 12 with fail
   clear c1 c3 c5 c6 c1b c3b
   go_loopw [79] (fun i wr => ∃ (q : Nat) (sl : Nat → Int → Option Nat × Nat), q ≤ j ∧ i = .int .i64 q ∧ DI H W0 wr gb x rb ob pb pc rows of K P1 ∧ RdAt wr H es j ∧ SliceAt wr 76 1 (some M) N N (bu (mtK es rd N q)) ∧ By wr (M + 1) sl (es.take q) ∧ ByA (M + 1) (M + 1) sl) (fun i _ => j - (intOf i).toNat)
   case atStart =>
    obtain ⟨sl, h1, h2, h3⟩ := HST.out
    exact ⟨0, sl, Nat.zero_le _, rfl, HD2.out, HR2.out, h1, h2, h3⟩
   case round =>
    obtain ⟨q, sl, hq, rfl, hd, hr, hs, hby, hba⟩ := hrel
    have HD := gI hd
    have HR := gI hr
    have HS := gI hs
    have HBY := gI hby
    have HBA := gI hba
    clear hd hr hs hby hba
    obtain ⟨c1, c3, c5, c6⟩ := HBX.out wr _ HD.out
    by_cases hqL : q < j
    ·have hqi : (q : Int) < (j : Int) := by omega
     have hw1 : IntKind.i64.wrap ((q : Int) + 1) = (q : Int) + 1 := IntWalk.i64_in _ (by omega)
     obtain ⟨b, off, hla, v0, v1, v2, v3⟩ := HED.out wr _ HD.out q hqL
     have hbj := HE.out q hqL
     have hmt := mtK_ok es rd HRB.out N q
     have HMS := gI (show mtK es rd N (q + 1) = (mtK es rd N q).set (es.getD q e40).fr.toNat ((mtK es rd N q).getD (es.getD q e40).fr.toNat 0 ||| rd (es.getD q e40).cl) from rfl)
     have HTK := gI (show es.take (q + 1) = es.take q ++ [es.getD q e40] by
      have h : q < es.length := by rw [← HLL.out]; exact hqL
      rw [List.take_succ_eq_append_getElem h, List.getD_eq_getElem?_getD, List.getElem?_eq_getElem h]; rfl)
     have HTL := gI (show (es.take q).length = q by rw [List.length_take, ← HLL.out]; omega)
     obtain ⟨e, he⟩ : ∃ e, e = es.getD q e40 := ⟨_, rfl⟩
     rw [← he] at v0 v1 v2 v3 hbj HMS HTK
     clear he
     obtain ⟨f1, t1, l1, s1⟩ := e
     simp only at v0 v1 v2 v3 hbj
     obtain ⟨F, rfl⟩ := Int.eq_ofNat_of_zero_le hbj.1.1
     obtain ⟨T, rfl⟩ := Int.eq_ofNat_of_zero_le hbj.2.1.1
     have hFN : F < N := by omega
     have hek : -9223372036854775808 ≤ l1 ∧ l1 ≤ 9223372036854775807 := by omega
     have hFM : M64 (F : Int) := by unfold M64; omega
     obtain ⟨m0, hm0⟩ : ∃ m, m = mtK es rd N q := ⟨_, rfl⟩
     rw [← hm0] at HMS HS hmt
     have HMS2 := gI (show mtK es rd N (q + 1) = m0.set F (m0.getD F 0 ||| rd l1) from HMS.out)
     obtain ⟨C, hC⟩ : ∃ C, C = wr.heap.size := ⟨_, rfl⟩
     obtain ⟨Z, hZ⟩ : ∃ Z, Z = wr.alloc (.cells #[.int .i64 F, .int .i64 T, .int .i64 l1, .int .i64 s1] 125) := ⟨_, rfl⟩
     have hkZ : Keeps [] wr Z := by rw [hZ]; exact Keeps.a1 _ _
     have HDZ := gI (HD.out.keepN HH.out hkZ (by simp))
     have HRZ := gI (HR.out.keep hkZ (by simp))
     have HSZ := gI (HS.out.keep hkZ (by simp))
     have HBYZ := gI (HBY.out.keep HBA.out hkZ (by simp))
     have hZH : Z.heap[C]? = some (.cells #[.int .i64 F, .int .i64 T, .int .i64 l1, .int .i64 s1] 125 (0, 0)) := by rw [hZ, hC]; exact heap_alloc_new wr _
     have z0 : Z.cell? ⟨C, 0, none⟩ = some (.int .i64 F) := by simp [World.cell?, hZH]
     have z1 : Z.cell? ⟨C, 1, none⟩ = some (.int .i64 T) := by simp [World.cell?, hZH]
     have z2 : Z.cell? ⟨C, 2, none⟩ = some (.int .i64 l1) := by simp [World.cell?, hZH]
     have z3 : Z.cell? ⟨C, 3, none⟩ = some (.int .i64 s1) := by simp [World.cell?, hZH]
     have hMC : M + 1 < C := by rw [hC]; exact HBY.out.lt
     obtain ⟨g, hmap, hg⟩ := HRZ.out
     have L1 : (Instr.lookup 163 (.map (some H)) (.int .i64 l1) false).run Tryz.prog Z.drew = .ok (.int .u64 (rd l1 : Nat)) Z.drew := by
      have h := (hmap.keep ((Keeps.refl [] Z).drew) (by simp)).look false intKeyed Tryz.underlying163 (z := .int .u64 0) (by kernel_rfl) (keyI hek)
      rw [hg l1, HRD.out] at h
      exact h
     have u0 := bu_cell HSZ.out F (by rw [hmt.2]; exact hFN)
     have uf := HSZ.out.fz F
     have hor := or_u64 (m0.getD F 0) (rd l1) (hmt.1 F) (HRB.out l1)
     obtain ⟨r1, hr1⟩ : ∃ r, r = m0.getD F 0 := ⟨_, rfl⟩
     obtain ⟨r2, hr2⟩ : ∃ r, r = rd l1 := ⟨_, rfl⟩
     rw [← hr1] at u0
     rw [← hr1, ← hr2] at hor HMS2
     rw [← hr2] at L1
     obtain ⟨r3, hr3⟩ : ∃ r, r = r1 ||| r2 := ⟨_, rfl⟩
     rw [← hr3] at hor HMS2
     obtain ⟨X, hX⟩ : ∃ X, X = (Z.setCell ⟨M, F, none⟩ (.int .u64 (r3 : Int))).drew := ⟨_, rfl⟩
     have kX : Keeps [M] Z X := by rw [hX]; exact ((Keeps.refl [M] Z).setCell (by simp) _).drew
     have HDX := gI (HDZ.out.keepN HH.out kX (fun b hb => by have := HHM.out; simp at hb; omega))
     have HRX := gI (HRZ.out.keep kX (by have := HHM.out; simp; omega))
     have HSX := gI (show SliceAt X 76 1 (some M) N N (bu (mtK es rd N (q + 1))) by
      have h := (HSZ.out.set F (.int .u64 (r3 : Int))).keep ((Keeps.refl [] _).drew) (by simp)
      rw [hX, HMS2.out]
      simpa [bu, List.map_set] using h)
     have HBYX := gI (HBYZ.out.keep HBA.out kX (by simp))
     have hMCn : C ∉ [M] := by simp; omega
     have x0 := kX.cell z0 hMCn
     have x1 := kX.cell z1 hMCn
     have x2 := kX.cell z2 hMCn
     have x3 := kX.cell z3 hMCn
     have HX := gI hX
     have HZ := gI hZ
     have HC := gI hC
     have HSZX := gI (show M + 1 ≤ X.heap.size by have h1 := hkZ.size; have h2 := kX.size; rw [hC] at hMC; omega)
     rw [hla] at c3 ⊢
     clear hZ hC hkZ hZH hm0 hr1 hr2 hr3 hmap hg hX kX
     go_upto_region 14 with fail
     rw [← HZ.out, ← HC.out]
     clear v0 v1 v2 v3 c1 c3 c5 c6
     go_region
     rw [← HX.out]
     obtain ⟨gm, hmap, hg⟩ := HBYX.out.map
     rw [HTL.out] at hmap
     have hval : (gm (duov F l1)).getD (.slice none 0 0) = sv (sl F l1).1 (sel (es.take q) F l1).length (sl F l1).2 := by
      rw [hg.1 F l1]
      split
      ·rename_i hnil
       rw [HBYX.out.nil F l1 hnil, hnil]; rfl
      ·rfl
     have hlook : ∀ W, Keeps [] X W → (Instr.lookup 164 (.map (some (M + 1))) (.agg #[.int .i64 F, .int .i64 l1]) false).run Tryz.prog W = .ok (.slice ((sl F l1).1.map fun g => ⟨g, 0, none⟩) (sel (es.take q) F l1).length (sl F l1).2) W := fun W hk => by
      have h := (hmap.keep hk (by simp)).look false duoKeyed Tryz.underlying164 (z := .slice none 0 0) (by kernel_rfl) (key2 hFM hek)
      rw [hval] at h
      exact h
     have L2 := hlook X.drew ((Keeps.refl [] X).drew)
     have K2 : Keeps [] X (X.alloc (.cells #[.int .i64 F, .int .i64 T, .int .i64 l1, .int .i64 s1] 125)).drew := ((Keeps.refl [] X).alloc _).drew
     have L3 := hlook _ K2
     have HBW := gI (show ∀ W, Keeps [] X W → By W (M + 1) sl (es.take q) from fun W hk => HBYX.out.keep HBA.out hk (by simp))
     have HSL := gI (Nat.le_trans (sel_le (es.take q) F l1) (Nat.le_of_eq HTL.out))
     have HMAP := gI hmap
     have HGM := gI hg
     have HEK := gI hek
     have HFM := gI hFM
     have HNC := gI (show ∀ x, x ∈ [C, gb, rb, ob, pb, H, M, M + 1] → x ∉ (sl F l1).1.toList from fun x hx hm => by
      have h1 : (sl F l1).1 = some x := by simpa using hm
      have h2 := HBA.out.slo F l1 x h1
      have h3 := HBY.out.slt h1
      have h4 := HC.out
      have h5 := HHM.out
      have h6 := HH.out.g
      have h7 := HH.out.r
      have h8 := HH.out.o
      have h9 := HH.out.p
      simp only [List.mem_cons, List.not_mem_nil, or_false] at hx
      rcases hx with rfl | rfl | rfl | rfl | rfl | rfl | rfl | rfl <;> omega)
     have HNEWS := gI (show ∀ (j : Nat) (u : Value), (E4.cells ⟨F, T, l1, s1⟩)[j]? = some u → (X.alloc (.cells #[.int .i64 F, .int .i64 T, .int .i64 l1, .int .i64 s1] 125)).drew.cell? ((⟨X.heap.size, 0, none⟩ : Addr).add j) = some u from news_row X (E4.cells ⟨F, T, l1, s1⟩) 125)
     have HONE := gI (show ∀ u ∈ E4.cells ⟨F, T, l1, s1⟩, u.oneCell' = true from fun u hu => by
      simp [E4.cells] at hu
      rcases hu with rfl | rfl | rfl | rfl <;> rfl)
     have k0 := K2.cell x0 (by simp)
     have k1 := K2.cell x1 (by simp)
     have k2 := K2.cell x2 (by simp)
     have k3 := K2.cell x3 (by simp)
     have hCM : C ≠ M + 1 := by omega
     have HCM := gI hCM
     clear hmap hg hval hlook hek hFM z0 z1 z2 z3 L1 u0 uf hor
     go_wp2
     refine wp_region_held_drew (S := fun w' => w'.cell? ⟨C, 0, none⟩ = some (.int .i64 F) ∧ w'.cell? ⟨C, 1, none⟩ = some (.int .i64 T) ∧ w'.cell? ⟨C, 2, none⟩ = some (.int .i64 l1) ∧ w'.cell? ⟨C, 3, none⟩ = some (.int .i64 s1)) (by kernel_rfl) ⟨x0, x1, x2, x3⟩ (fun hHeld => ?_)
     refine take_on (i := 0) (v := ?_) rfl (by kernel_rfl) (by kernel_rfl) (by kernel_rfl) (fun _ _ _ h => h) (by rfl) (by assumption) ?_ ?_
     rotate_left
     ·((intro w hSw; (try dsimp only at hSw); go_simp <;> with_reducible rfl); done)
     try simp only [Act.put, List.setIfInBounds_toArray, List.set_cons_zero, List.set_cons_succ]
     refine take_on (i := 1) (v := ?_) rfl (by kernel_rfl) (by kernel_rfl) (by kernel_rfl) (fun _ _ _ h => h) (by rfl) (by assumption) ?_ ?_
     rotate_left
     ·((intro w hSw; (try dsimp only at hSw); go_simp <;> with_reducible rfl); done)
     try simp only [Act.put, List.setIfInBounds_toArray, List.set_cons_zero, List.set_cons_succ]
     refine take_on (i := 2) (v := ?_) rfl (by kernel_rfl) (by kernel_rfl) (by kernel_rfl) (fun _ _ _ h => h) (by rfl) (by assumption) ?_ ?_
     rotate_left
     ·((intro w hSw; (try dsimp only at hSw); go_simp <;> with_reducible rfl); done)
     try simp only [Act.put, List.setIfInBounds_toArray, List.set_cons_zero, List.set_cons_succ]
     refine take_on (i := 3) (v := ?_) rfl (by kernel_rfl) (by kernel_rfl) (by kernel_rfl) (fun _ _ _ h => h) (by rfl) (by assumption) ?_ ?_
     rotate_left
     ·((intro w hSw; (try dsimp only at hSw); go_simp <;> with_reducible rfl); done)
     try simp only [Act.put, List.setIfInBounds_toArray, List.set_cons_zero, List.set_cons_succ]
     refine take_on (i := 4) (v := ?_) rfl (by kernel_rfl) (by kernel_rfl) (by kernel_rfl) (fun _ _ _ h => h) (by rfl) (by assumption) ?_ ?_
     rotate_left
     ·((intro w hSw; (try dsimp only at hSw); go_simp <;> with_reducible rfl); done)
     try simp only [Act.put, List.setIfInBounds_toArray, List.set_cons_zero, List.set_cons_succ]
     refine take_on (i := 5) (v := .agg #[.int .i64 F, .int .i64 l1]) rfl (by kernel_rfl) (by kernel_rfl) (by kernel_rfl) (fun _ _ _ h => h) (by rfl) (by assumption) ?_ ?_
     ·(intro w hSw; exact exec_build (parts := [(0, .tmp 96), (1, .tmp 98)]) rfl (built_duo _ _))
     try simp only [Act.put, List.setIfInBounds_toArray, List.set_cons_zero, List.set_cons_succ]
     refine take_on (i := 6) (v := ?_) rfl (by kernel_rfl) (by kernel_rfl) (by kernel_rfl) (fun _ _ _ h => h) (by rfl) (by assumption) ?_ ?_
     rotate_left
     ·((intro w hSw; (try dsimp only at hSw); go_simp <;> with_reducible rfl); done)
     try simp only [Act.put, List.setIfInBounds_toArray, List.set_cons_zero, List.set_cons_succ]
     refine take_on (i := 7) (v := ?_) rfl (by kernel_rfl) (by kernel_rfl) (by kernel_rfl) (fun _ _ _ h => h) (by rfl) (by assumption) ?_ ?_
     rotate_left
     ·((intro w hSw; (try dsimp only at hSw); go_simp <;> with_reducible rfl); done)
     try simp only [Act.put, List.setIfInBounds_toArray, List.set_cons_zero, List.set_cons_succ]
     refine take_on (i := 8) (v := ?_) rfl (by kernel_rfl) (by kernel_rfl) (by kernel_rfl) (fun _ _ _ h => h) (by rfl) (by assumption) ?_ ?_
     rotate_left
     ·((intro w hSw; (try dsimp only at hSw); go_simp <;> with_reducible rfl); done)
     try simp only [Act.put, List.setIfInBounds_toArray, List.set_cons_zero, List.set_cons_succ]
     refine take_on (i := 9) (v := ?_) rfl (by kernel_rfl) (by kernel_rfl) (by kernel_rfl) (fun _ _ _ h => h) (by rfl) (by assumption) ?_ ?_
     rotate_left
     ·((intro w hSw; (try dsimp only at hSw); go_simp <;> with_reducible rfl); done)
     try simp only [Act.put, List.setIfInBounds_toArray, List.set_cons_zero, List.set_cons_succ]
     refine take_on (i := 10) (v := ?_) rfl (by kernel_rfl) (by kernel_rfl) (by kernel_rfl) (fun _ _ _ h => h) (by rfl) (by assumption) ?_ ?_
     rotate_left
     ·((intro w hSw; (try dsimp only at hSw); go_simp <;> with_reducible rfl); done)
     try simp only [Act.put, List.setIfInBounds_toArray, List.set_cons_zero, List.set_cons_succ]
     refine take_on (i := 11) (v := .agg #[.int .i64 F, .int .i64 l1]) rfl (by kernel_rfl) (by kernel_rfl) (by kernel_rfl) (fun _ _ _ h => h) (by rfl) (by assumption) ?_ ?_
     ·(intro w hSw; exact exec_build (parts := [(0, .tmp 102), (1, .tmp 104)]) rfl (built_duo _ _))
     try simp only [Act.put, List.setIfInBounds_toArray, List.set_cons_zero, List.set_cons_succ]
     refine take_on (i := 13) (v := ?_) rfl (by kernel_rfl) (by kernel_rfl) (by kernel_rfl) (fun _ _ _ h => h) (by rfl) (by assumption) ?_ ?_
     rotate_left
     ·((intro w hSw; (try dsimp only at hSw); go_simp <;> with_reducible rfl); done)
     try simp only [Act.put, List.setIfInBounds_toArray, List.set_cons_zero, List.set_cons_succ]
     refine branch_two (i := 12) (j := 14) rfl rfl (by kernel_rfl) (by rfl) (by rfl) (fun K hK => ?_) (fun K hK => ?_)
     ·go_simp
      refine hK.out _ _ (⟨x0, x1, x2, x3⟩) (fun hHeld => ?_)
      clear hK K
      try simp only [Act.put, List.setIfInBounds_toArray, List.set_cons_zero, List.set_cons_succ]
      refine branch_one (i := 14) rfl (by kernel_rfl) (by rfl) (fun K hK => ?_)
      go_simp
      refine hK.out _ _ (⟨k0, k1, k2, k3⟩) (fun hHeld => ?_)
      clear hK K
      try simp only [Act.put, List.setIfInBounds_toArray, List.set_cons_zero, List.set_cons_succ]
      refine branch_one (i := 15) rfl (by kernel_rfl) (by rfl) (fun K hK => ?_)
      refine wp_append_sl (.tmp 106) (.tmp 108) 87 rfl 125 ie _ 4 32 Tryz.underlying87 HIE.out.1 HIE.out.2.1 HIE.out.2.2.1 HIE.out.2.2.2 rfl (by decide) (sl F l1).1 (sel (es.take q) F l1).length (sl F l1).2 (flatE (sel (es.take q) F l1)) rfl ((HBW.out _ K2).sls F l1) ⟨X.heap.size, 0, none⟩ 1 1 (E4.cells ⟨F, T, l1, s1⟩) rfl rfl HNEWS.out HONE.out (by decide) (by have := HSL.out; omega) (by have := HSL.out; omega) ?_
      intro g c2 w3 hsl3 hk3 hg3
      have y0 := hk3.cell k0 (HNC.out C (by simp))
      have y1 := hk3.cell k1 (HNC.out C (by simp))
      have y2 := hk3.cell k2 (HNC.out C (by simp))
      have y3 := hk3.cell k3 (HNC.out C (by simp))
      refine hK.out _ _ (⟨y0, y1, y2, y3⟩) (fun hHeld => ?_)
      clear hK K
      try simp only [Act.put, List.setIfInBounds_toArray, List.set_cons_zero, List.set_cons_succ]
      refine branch_one (i := 16) rfl (by kernel_rfl) (by rfl) (fun K hK => ?_)
      refine wp_mapPut (.tmp 94) (.tmp 99) (.tmp 109) 164 rfl 136 87 duoKeyed Tryz.underlying164 (M + 1) q gm rfl ((HMAP.out.keep K2 (by simp)).keep hk3 (HNC.out (M + 1) (by simp))) (by unfold maxLen; omega) (duov F l1) (sv (some g) ((sel (es.take q) F l1).length + 1) c2) rfl rfl (key2 HFM.out HEK.out) ?_
      intro w4 hm4 hk4
      have n4 : C ∉ [M + 1] := by simpa using HCM.out
      have q0 := hk4.cell y0 n4
      have q1 := hk4.cell y1 n4
      have q2 := hk4.cell y2 n4
      have q3 := hk4.cell y3 n4
      have HSTEP := gI ((HBW.out _ K2).step (e := ⟨F, T, l1, s1⟩) (g := g) (c2 := c2) HBA.out rfl hsl3 hk3 hg3 hk4 gm HGM.out (by rw [HTL.out]; exact hm4) (Nat.le_trans HSZX.out K2.size))
      rw [← HTK.out] at HSTEP
      have HKB := gI (show ∀ b ∈ (sl F l1).1.toList, M + 1 ≤ b from fun b hb => (HBA.out.slo F l1 b (by simpa using hb)).1)
      have HD4 := gI (((HDX.out.keepN HH.out K2 (by simp)).keepN HH.out hk3 (fun b hb => by have := HKB.out b hb; have := HHM.out; omega)).keepN HH.out hk4 (fun b hb => by have := HHM.out; simp at hb; omega))
      have HR4 := gI (((HRX.out.keep K2 (by simp)).keep hk3 (HNC.out H (by simp))).keep hk4 (by have := HHM.out; simp; omega))
      have HS4 := gI (((HSX.out.keep K2 (by simp)).keep hk3 (fun g e => by cases e; exact HNC.out M (by simp))).keep hk4 (fun g e => by cases e; simp))
      clear hsl3 hk3 hg3 hm4 hk4
      refine hK.out _ _ (⟨q0, q1, q2, q3⟩) (fun hHeld => ?_)
      clear hK K
      try simp only [Act.put, List.setIfInBounds_toArray, List.set_cons_zero, List.set_cons_succ]
      refine wpAnyH_done (by kernel_rfl) ?_ _
      clear hHeld
      go_wp2
      go_roundw
      case rel => exact ⟨q + 1, _, by omega, by go_num, HD4.out, HR4.out, HS4.out, HSTEP.out.1, HSTEP.out.2⟩
      case measure => simp [intOf]; omega
     ·go_simp
      refine hK.out _ _ (⟨k0, k1, k2, k3⟩) (fun hHeld => ?_)
      clear hK K
      try simp only [Act.put, List.setIfInBounds_toArray, List.set_cons_zero, List.set_cons_succ]
      refine branch_one (i := 12) rfl (by kernel_rfl) (by rfl) (fun K hK => ?_)
      go_simp
      refine hK.out _ _ (⟨k0, k1, k2, k3⟩) (fun hHeld => ?_)
      clear hK K
      try simp only [Act.put, List.setIfInBounds_toArray, List.set_cons_zero, List.set_cons_succ]
      refine branch_one (i := 15) rfl (by kernel_rfl) (by rfl) (fun K hK => ?_)
      refine wp_append_sl (.tmp 106) (.tmp 108) 87 rfl 125 ie _ 4 32 Tryz.underlying87 HIE.out.1 HIE.out.2.1 HIE.out.2.2.1 HIE.out.2.2.2 rfl (by decide) (sl F l1).1 (sel (es.take q) F l1).length (sl F l1).2 (flatE (sel (es.take q) F l1)) rfl ((HBW.out _ K2).sls F l1) ⟨X.heap.size, 0, none⟩ 1 1 (E4.cells ⟨F, T, l1, s1⟩) rfl rfl HNEWS.out HONE.out (by decide) (by have := HSL.out; omega) (by have := HSL.out; omega) ?_
      intro g c2 w3 hsl3 hk3 hg3
      have y0 := hk3.cell k0 (HNC.out C (by simp))
      have y1 := hk3.cell k1 (HNC.out C (by simp))
      have y2 := hk3.cell k2 (HNC.out C (by simp))
      have y3 := hk3.cell k3 (HNC.out C (by simp))
      refine hK.out _ _ (⟨y0, y1, y2, y3⟩) (fun hHeld => ?_)
      clear hK K
      try simp only [Act.put, List.setIfInBounds_toArray, List.set_cons_zero, List.set_cons_succ]
      refine branch_one (i := 16) rfl (by kernel_rfl) (by rfl) (fun K hK => ?_)
      refine wp_mapPut (.tmp 94) (.tmp 99) (.tmp 109) 164 rfl 136 87 duoKeyed Tryz.underlying164 (M + 1) q gm rfl ((HMAP.out.keep K2 (by simp)).keep hk3 (HNC.out (M + 1) (by simp))) (by unfold maxLen; omega) (duov F l1) (sv (some g) ((sel (es.take q) F l1).length + 1) c2) rfl rfl (key2 HFM.out HEK.out) ?_
      intro w4 hm4 hk4
      have n4 : C ∉ [M + 1] := by simpa using HCM.out
      have q0 := hk4.cell y0 n4
      have q1 := hk4.cell y1 n4
      have q2 := hk4.cell y2 n4
      have q3 := hk4.cell y3 n4
      have HSTEP := gI ((HBW.out _ K2).step (e := ⟨F, T, l1, s1⟩) (g := g) (c2 := c2) HBA.out rfl hsl3 hk3 hg3 hk4 gm HGM.out (by rw [HTL.out]; exact hm4) (Nat.le_trans HSZX.out K2.size))
      rw [← HTK.out] at HSTEP
      have HKB := gI (show ∀ b ∈ (sl F l1).1.toList, M + 1 ≤ b from fun b hb => (HBA.out.slo F l1 b (by simpa using hb)).1)
      have HD4 := gI (((HDX.out.keepN HH.out K2 (by simp)).keepN HH.out hk3 (fun b hb => by have := HKB.out b hb; have := HHM.out; omega)).keepN HH.out hk4 (fun b hb => by have := HHM.out; simp at hb; omega))
      have HR4 := gI (((HRX.out.keep K2 (by simp)).keep hk3 (HNC.out H (by simp))).keep hk4 (by have := HHM.out; simp; omega))
      have HS4 := gI (((HSX.out.keep K2 (by simp)).keep hk3 (fun g e => by cases e; exact HNC.out M (by simp))).keep hk4 (fun g e => by cases e; simp))
      clear hsl3 hk3 hg3 hm4 hk4
      refine hK.out _ _ (⟨q0, q1, q2, q3⟩) (fun hHeld => ?_)
      clear hK K
      try simp only [Act.put, List.setIfInBounds_toArray, List.set_cons_zero, List.set_cons_succ]
      refine wpAnyH_done (by kernel_rfl) ?_ _
      clear hHeld
      go_wp2
      go_roundw
      case rel => exact ⟨q + 1, _, by omega, by go_num, HD4.out, HR4.out, HS4.out, HSTEP.out.1, HSTEP.out.2⟩
      case measure => simp [intOf]; omega
    ·obtain rfl : q = j := by omega
     have hmt := mtK_ok es rd HRB.out N q
     obtain ⟨mt, hmte⟩ : ∃ m, m = mtK es rd N q := ⟨_, rfl⟩
     rw [← hmte] at HS hmt
     have HMT := gI hmt
     have HMTE := gI hmte
     rw [show es.take q = es from List.take_of_length_le (by rw [← HLL.out]; omega)] at HBY
     obtain ⟨gm, hmap, hg⟩ := HBY.out.map
     rw [← HLL.out] at hmap
     have HMAP := gI hmap
     have HG := gI hg
     obtain ⟨r, hr⟩ : ∃ r, r = wr.heap.size := ⟨_, rfl⟩
     have HMr := gI (show M + 1 < r by rw [hr]; exact HBY.out.lt)
     have HSLr := gI (show ∀ n c g, (sl n c).1 = some g → M + 1 ≤ g ∧ g < r from fun n c g e => ⟨(HBA.out.slo n c g e).1, by rw [hr]; exact HBY.out.slt e⟩)
     have HRr := gI hr
     clear hmt hmte hmap hg hr c1 c3 c5 c6
     go_wp2_with (at_range; refine wpList_rangeMap rfl (.tmp 111) 164 rfl 136 87 duoKeyed Tryz.underlying164 (M + 1) q gm rfl HMAP.out ?hk)
     case hk =>
      intro w5 cnt hr5 hk5 hs5
      rw [← HRr.out] at hr5 ⊢
      have HD5 := gI (HD.out.keepN HH.out hk5 (by simp))
      have HKW := gI (show ∀ W, Keeps [r, pb] w5 W → SliceAt W 76 1 (some M) N N (bu mt) ∧ ∀ (n : Nat) c, EdIn W ((sl n c).1.map fun g => ⟨g, 0, none⟩) (sel es n c) from fun W hk => by
       have h1 := HHM.out
       have h2 := HH.out.p
       have h3 := HMr.out
       refine ⟨(HS.out.keep hk5 (by simp)).keep hk (fun g e => by cases e; simp; omega), fun n c => ?_⟩
       have h := ((HBY.out.sls n c).keep hk5 (by simp)).keep hk (fun g e => by have := HSLr.out n c g e; simp; omega)
       exact h.edIn rfl)
      have HST := gI (show ∃ (left : Value → Bool) (cnt : Nat), RangeAt w5 Tryz.prog 136 (M + 1) r q gm left cnt ∧ DI H W0 w5 gb x rb ob pb pc rows of K (opL of mt es (fun (m : Nat) (d : Int) => !left (duov m d)) P1) ∧ Keeps [r, pb] w5 w5 from ⟨_, cnt, hr5, (by
       rw [opL_none]
       ·exact HD5.out
       ·intro e he
        obtain ⟨i, hi, hie⟩ := List.getElem_of_mem he
        have h1 := (HE.out i (by rw [HLL.out]; exact hi)).1.1
        rw [List.getD_eq_getElem?_getD, List.getElem?_eq_getElem hi, Option.getD_some, hie] at h1
        rw [HG.out.1, if_neg]
        ·rfl
        ·intro hnil
         have h2 : e ∈ sel es e.fr.toNat e.cl := mem_sel.2 ⟨he, by omega, rfl⟩
         rw [hnil] at h2
         cases h2), Keeps.refl _ _⟩)
      clear hr5 hk5 hs5
      go_wp2
      go_loopw [] (fun wr => ∃ (left : Value → Bool) (cnt : Nat), RangeAt wr Tryz.prog 136 (M + 1) r q gm left cnt ∧ DI H W0 wr gb x rb ob pb pc rows of K (opL of mt es (fun (m : Nat) (d : Int) => !left (duov m d)) P1) ∧ Keeps [r, pb] w5 wr) (fun wr => wr.rangeLeft (M + 1) r)
      case atStart => exact HST.out
      case round =>
       obtain ⟨left, cnt', hrg, hd, hk⟩ := hrel
       have HRG := gI hrg
       have HD := gI hd
       have HK := gI hk
       clear hrg hd hk HST
       go_wp2_with (at_next; refine wpList_nextMap rfl _ rfl 136 duoKeyed (M + 1) r q gm left cnt' rfl HRG.out ?hDone ?hMore)
       case hDone =>
        intro hd0
        have HDA := gI (show DI H W0 wr gb x rb ob pb pc rows of K (opA of mt es P1) by
         have h := HD.out
         rw [opL_all] at h
         ·exact h
         ·intro e he
          obtain ⟨i, hi, hie⟩ := List.getElem_of_mem he
          have h1 := HE.out i (by rw [HLL.out]; exact hi)
          rw [List.getD_eq_getElem?_getD, List.getElem?_eq_getElem hi, Option.getD_some, hie] at h1
          rw [hd0 _ (key2 (by unfold M64; omega) (by unfold M64; omega))]
          rfl)
        clear hd0
        obtain ⟨P2, hP2⟩ : ∃ p, p = opA of mt es P1 := ⟨_, rfl⟩
        rw [← hP2] at HDA
        have HP2 := gI hP2
        have HLD := gI (show DI H W0 wr gb x rb ob pb pc rows of K (ldK of es P2 0) from HDA.out)
        have HP2L := gI HDA.out.len
        have hwK : IntKind.i64.wrap ((K : Int) - 1) = (K : Int) - 1 := IntWalk.i64_in _ (by omega)
        obtain ⟨_, _, _, c6⟩ := HBX.out wr _ HDA.out
        clear hP2
        go_upto_region 24 with fail
        clear c6 hwK
        go_loopw [13] (fun i wr => ∃ p : Nat, p ≤ K ∧ i = .int .i64 ((K : Int) - 1 - p) ∧ DI H W0 wr gb x rb ob pb pc rows of K (ldK of es P2 p)) (fun i _ => (intOf i + 1).toNat)
        case atStart => exact ⟨0, Nat.zero_le _, by congr 1; omega, HLD.out⟩
        case round =>
         obtain ⟨p, hp, rfl, hd⟩ := hrel
         have HDP := gI hd
         clear hd
         by_cases hpK : p < K
         ·obtain ⟨A, hA⟩ : ∃ A : Nat, A = K - 1 - p := ⟨_, rfl⟩
          have hAi : (K : Int) - 1 - p = A := by omega
          have hAK : A < K := by omega
          have hApos : (0 : Int) ≤ (A : Int) := by omega
          rw [hAi]
          have HLS := gI (show ldK of es P2 (p + 1) = ldI of es A (ldK of es P2 p) q by rw [ldK, HP2L.out, ← hA, ← HLL.out])
          obtain ⟨Pj, hPj⟩ : ∃ z, z = ldK of es P2 p := ⟨_, rfl⟩
          rw [← hPj] at HDP HLS
          have HAI := gI (show (A : Int) - 1 = (K : Int) - 1 - ((p + 1 : Nat) : Int) by omega)
          have hwA : IntKind.i64.wrap ((A : Int) - 1) = (A : Int) - 1 := IntWalk.i64_in _ (by omega)
          have hAp := gI hAi
          obtain ⟨_, _, _, c6⟩ := HBX.out wr _ HDP.out
          obtain ⟨⟨p1, p2, _⟩, pf⟩ := HPT.out wr _ HDP.out A hAK
          have pf2 := pf (A * 4 + 2)
          have HL0 := gI (show ldI of es A Pj 0 = setLd Pj A (Pj.getD A pt0).loop from rfl)
          obtain ⟨lb, hlb⟩ : ∃ b, b = (Pj.getD A pt0).loop := ⟨_, rfl⟩
          rw [← hlb] at p1 HL0
          obtain ⟨X, hX⟩ : ∃ X, X = (wr.setCell ⟨pb, A * 4 + 2, none⟩ (.bool lb)).drew := ⟨_, rfl⟩
          have HDX := gI (show DI H W0 X gb x rb ob pb pc rows of K (ldI of es A Pj 0) by rw [hX, HL0.out]; exact (HDP.out.set2 A hAK lb).keepN HH.out ((Keeps.refl [] _).drew) (by simp))
          have HX := gI hX
          obtain ⟨_, d3, _, _⟩ := HBX.out X _ HDX.out
          clear hA hAi hPj hlb hX pf
          go_upto_region 26 with fail
          go_region
          rw [← HX.out]
          clear c6 p1 p2 pf2
          go_upto_region 28 with fail
          clear d3
          go_loopw [192] (fun i wr => ∃ k : Nat, k ≤ q ∧ i = .int .i64 k ∧ DI H W0 wr gb x rb ob pb pc rows of K (ldI of es A Pj k)) (fun i _ => q - (intOf i).toNat)
          case atStart => exact ⟨0, Nat.zero_le _, rfl, HDX.out⟩
          case round =>
           obtain ⟨k, hk, rfl, hd⟩ := hrel
           have HDK := gI hd
           clear hd
           by_cases hkq : k < q
           ·have hki : (k : Int) < (q : Int) := by omega
            have hw1 : IntKind.i64.wrap ((k : Int) + 1) = (k : Int) + 1 := IntWalk.i64_in _ (by omega)
            obtain ⟨b, off, hla, v0, v1, v2, v3⟩ := HED.out wr _ HDK.out k hkq
            have hbj := HE.out k hkq
            have hcl := HCL.out k hkq
            have HS := gI (show ldI of es A Pj (k + 1) = ldS of A (es.getD k e40) (ldI of es A Pj k) from rfl)
            obtain ⟨e, he⟩ : ∃ e, e = es.getD k e40 := ⟨_, rfl⟩
            rw [← he] at v0 v1 v2 v3 hbj hcl HS
            clear he
            obtain ⟨f1, t1, l1, s1⟩ := e
            simp only at v0 v1 v2 v3 hbj hcl
            obtain ⟨F, rfl⟩ := Int.eq_ofNat_of_zero_le hbj.1.1
            obtain ⟨T, rfl⟩ := Int.eq_ofNat_of_zero_le hbj.2.1.1
            have hFN : F < N := by omega
            have hTN : T < N := by omega
            obtain ⟨qs, hqs⟩ : ∃ z, z = ldI of es A Pj k := ⟨_, rfl⟩
            rw [← hqs] at HS HDK
            have HS2 := gI (show ldI of es A Pj (k + 1) = if decide (of.getD F 0 = A) && (qs.getD (of.getD T 0).toNat pt0).leads then setLd qs A true else qs from HS.out)
            rw [Int.toNat_natCast, Int.toNat_natCast] at hcl
            obtain ⟨C, hC⟩ : ∃ C, C = wr.heap.size := ⟨_, rfl⟩
            obtain ⟨Z, hZ⟩ : ∃ Z, Z = wr.alloc (.cells #[.int .i64 F, .int .i64 T, .int .i64 l1, .int .i64 s1] 125) := ⟨_, rfl⟩
            have hkZ : Keeps [] wr Z := by rw [hZ]; exact Keeps.a1 _ _
            have HDZ := gI (HDK.out.keepN HH.out hkZ (by simp))
            have hZH : Z.heap[C]? = some (.cells #[.int .i64 F, .int .i64 T, .int .i64 l1, .int .i64 s1] 125 (0, 0)) := by rw [hZ, hC]; exact heap_alloc_new wr _
            have z0 : Z.cell? ⟨C, 0, none⟩ = some (.int .i64 F) := by simp [World.cell?, hZH]
            have z1 : Z.cell? ⟨C, 1, none⟩ = some (.int .i64 T) := by simp [World.cell?, hZH]
            have oF := HO.out Z _ HDZ.out F hFN
            have oT := HO.out Z _ HDZ.out T hTN
            have hoT := HOF.out T
            obtain ⟨_, d3, d5, d6⟩ := HBX.out Z _ HDZ.out
            have HZ := gI hZ
            have HC := gI hC
            obtain ⟨a, ha⟩ : ∃ a, a = of.getD F 0 := ⟨_, rfl⟩
            obtain ⟨c, hc⟩ : ∃ c, c = of.getD T 0 := ⟨_, rfl⟩
            rw [← ha] at oF HS2 hcl
            rw [← hc] at oT HS2 hcl hoT
            have HREL := gI (show ldI of es A Pj (k + 1) = qs → ∀ n, ∃ z : Nat, z ≤ q ∧ Value.int .i64 ((k : Int) + 1) = .int .i64 z ∧ DI H W0 (Z.drewN n) gb x rb ob pb pc rows of K (ldI of es A Pj z) from fun h n => ⟨k + 1, by omega, by go_num, by rw [h]; exact HDZ.out.drewN HH.out n⟩)
            rw [hla] at d3 ⊢
            have c3 := (HBX.out wr _ HDK.out).2.1
            rw [hla] at c3
            clear hqs hC hZ hkZ hZH ha hc
            go_upto_region 30 with fail
            rw [← HZ.out, ← HC.out]
            clear v0 v1 v2 v3 c3
            by_cases haA : a = A
            ·have hc0 := hcl (by omega)
             obtain ⟨G, rfl⟩ := Int.eq_ofNat_of_zero_le hc0
             have hGK : G < K := by omega
             rw [Int.toNat_natCast] at HS2
             obtain ⟨⟨_, p2, _⟩, _⟩ := HPT.out Z _ HDZ.out G hGK
             obtain ⟨lb2, hlb2⟩ : ∃ b, b = (qs.getD G pt0).leads := ⟨_, rfl⟩
             rw [← hlb2] at p2 HS2
             clear hlb2
             cases lb2 with
             | false =>
              have HR2 := gI (HREL.out (by rw [HS2.out, if_neg (by simp)]))
              go_quiet (fail)
              go_wp2
              go_roundw
              case rel => exact HR2.out _
              case measure => simp [intOf]; omega
             | true =>
              have HS3 := gI (show ldI of es A Pj (k + 1) = setLd qs A true by rw [HS2.out, if_pos (by simp [haA])])
              go_quiet (fail)
              rename Nat => nq1
              obtain ⟨V, hV⟩ : ∃ V, V = Z.drewN nq1 := ⟨_, rfl⟩
              have HDV := gI (show DI H W0 V gb x rb ob pb pc rows of K qs by rw [hV]; exact HDZ.out.drewN HH.out _)
              rw [← hV]
              clear hV oF oT d3 d5 d6 p2
              obtain ⟨_, _, _, d6⟩ := HBX.out V _ HDV.out
              obtain ⟨⟨_, p2, _⟩, pf⟩ := HPT.out V _ HDV.out A hAK
              have pf2 := pf (A * 4 + 2)
              have HDX2 := gI (show DI H W0 (V.setCell ⟨pb, A * 4 + 2, none⟩ (.bool true)) gb x rb ob pb pc rows of K (ldI of es A Pj (k + 1)) by rw [HS3.out]; exact HDV.out.set2 A hAK true)
              clear pf
              go_wp2
              go_roundw
              case rel => exact ⟨k + 1, by omega, by go_num, HDX2.out⟩
              case measure => simp [intOf]; omega
            ·have HR2 := gI (HREL.out (by rw [HS2.out, if_neg (by simp [haA])]))
             have hd1 : decide (a = (A : Int)) = false := by simpa using haA
             have hd2 : (a == (A : Int)) = false := by simpa using haA
             go_quiet (fail)
             go_wp2
             go_roundw
             case rel => exact HR2.out _
             case measure => simp [intOf]; omega
           ·obtain rfl : k = q := by omega
            go_wp2
            go_roundw
            case rel => exact ⟨p + 1, by omega, by rw [HAI.out], by rw [HLS.out]; exact HDK.out⟩
            case measure => simp [intOf]; try omega
         ·obtain rfl : p = K := by omega
          have hm1 : (p : Int) - 1 - p = -1 := by omega
          rw [hm1]
          go_wp2
          go_end0
          rw [HQ.out]
          refine ⟨⟨_, rfl⟩, some pb, pc, ?_⟩
          have e : desP of x.edges x.nodes.length ps = ldK of es P2 p := by
           rw [← HES.out, ← HNN.out, HP2.out, HMTE.out, HRDE.out, HP1.out, HKK.out, HLL.out]; rfl
          rw [e]
          exact HDP.out.bn
       case hMore =>
        intro xv cv w2 cnt2 hkx hlx hgx hr2 hlt2 hk2 hsz2 hen
        obtain ⟨n, c, rfl, hsel⟩ := HG.out.2 xv (by rw [hgx]; rfl)
        rw [HG.out.1 n c, if_neg hsel] at hgx
        cases hgx
        have hnN : n < N := by
         obtain ⟨e, he⟩ := List.exists_mem_of_ne_nil _ hsel
         obtain ⟨h1, h2, _⟩ := mem_sel.1 he
         obtain ⟨i, hi, hie⟩ := List.getElem_of_mem h1
         have h3 := (HE.out i (by rw [HLL.out]; exact hi)).1
         rw [List.getD_eq_getElem?_getD, List.getElem?_eq_getElem hi, Option.getD_some, hie] at h3
         omega
        have hV : (fun (m : Nat) (d : Int) => !(left (duov m d) && !decide (duov m d = duov n c))) = addV (fun (m : Nat) (d : Int) => !left (duov m d)) n c := by
         funext m d
         unfold addV
         by_cases hm : m = n ∧ d = c
         ·obtain ⟨rfl, rfl⟩ := hm
          simp
         ·have h1 : ¬ (duov (m : Int) d = duov n c) := fun e => by
           obtain ⟨e1, e2⟩ := duov_inj e
           exact hm ⟨by exact_mod_cast e1, e2⟩
          have h2 : (decide (m = n) && decide (d = c)) = false := by
           rw [Bool.and_eq_false_iff, decide_eq_false_iff_not, decide_eq_false_iff_not]
           by_cases e1 : m = n
           ·exact .inr (fun e2 => hm ⟨e1, e2⟩)
           ·exact .inl e1
          rw [h2]
          simp [h1]
        obtain ⟨V, hVd⟩ : ∃ V : Nat → Int → Bool, V = fun (m : Nat) (d : Int) => !left (duov m d) := ⟨_, rfl⟩
        rw [← hVd] at hV HD
        have HREL := gI (show ∀ W, Keeps [pb] w2 W → DI H W0 W gb x rb ob pb pc rows of K (opL of mt es (addV V n c) P1) → ∃ (left : Value → Bool) (cnt : Nat), RangeAt W Tryz.prog 136 (M + 1) r q gm left cnt ∧ DI H W0 W gb x rb ob pb pc rows of K (opL of mt es (fun (m : Nat) (d : Int) => !left (duov m d)) P1) ∧ Keeps [r, pb] w5 W from fun W hk hd => by
         have h1 := HHM.out
         have h2 := HH.out.p
         have h3 := HMr.out
         exact ⟨_, cnt2, hr2.keep hk (by simp; omega) (by simp; omega), by rw [hV]; exact hd, (HK.out.trans (hk2.mono (by simp))).trans (hk.mono (by simp))⟩)
        have HMEA := gI (show ∀ W, Keeps [pb] w2 W → W.rangeLeft (M + 1) r < wr.rangeLeft (M + 1) r from fun W hk => by
         have h1 := HHM.out
         have h2 := HH.out.p
         have h3 := HMr.out
         rw [(hr2.keep hk (by simp; omega) (by simp; omega)).left_eq, HRG.out.left_eq]
         exact hlt2)
        have HK2 := gI (show Keeps [r, pb] w5 w2 from HK.out.trans (hk2.mono (by simp)))
        obtain ⟨qs, hqs⟩ : ∃ q, q = opL of mt es V P1 := ⟨_, rfl⟩
        rw [← hqs] at HD
        have HD2 := gI (HD.out.keepN HH.out hk2 (fun b hb => by have h1 := HHM.out; have h3 := HMr.out; simp at hb; omega))
        obtain ⟨D, hD⟩ : ∃ D, D = w2.heap.size := ⟨_, rfl⟩
        obtain ⟨Z, hZ⟩ : ∃ Z, Z = w2.alloc (.cells #[.int .i64 n, .int .i64 c] 136) := ⟨_, rfl⟩
        have hkZ : Keeps [] w2 Z := by rw [hZ]; exact Keeps.a1 _ _
        have hZH : Z.heap[D]? = some (.cells #[.int .i64 n, .int .i64 c] 136 (0, 0)) := by rw [hZ, hD]; exact heap_alloc_new _ _
        have z0 : Z.cell? ⟨D, 0, none⟩ = some (.int .i64 n) := by simp [World.cell?, hZH]
        have HDZ := gI (HD2.out.keepN HH.out hkZ (by simp))
        have HKZ := gI hkZ
        have oN := HO.out Z _ HDZ.out n hnN
        have hoK := HOF.out n
        obtain ⟨_, _, c5, c6⟩ := HBX.out Z _ HDZ.out
        simp only [duov, sv] at hen
        have HSAME := gI (show (∀ i, i < P1.length → of.getD n 0 = i → (P1.getD i pt0).loop = false ∨ (qs.getD i pt0).opn = true) → opL of mt es (addV V n c) P1 = qs from fun h => by rw [hqs]; exact opL_same hsel P1 (by rw [← hqs]; exact h))
        have HP1L := gI (show P1.length = K by have h := HD.out.len; rw [hqs, opL_length] at h; exact h)
        have HQL := gI (show ∀ i, i < K → (qs.getD i pt0).loop = (P1.getD i pt0).loop from fun i hi => by rw [hqs, opL_get of mt es V P1 (by rw [HP1L.out]; exact hi)])
        have HSETO := gI (show ∀ f, f < K → of.getD n 0 = f → (P1.getD f pt0).loop = true → (qs.getD f pt0).opn = false → opL of mt es (addV V n c) P1 = setOp qs f (opnK of mt f (sel es n c) (sel es n c).length) from fun f hf h1 h2 h3 => by rw [hqs]; exact opL_set hsel P1 (by rw [HP1L.out]; exact hf) h1 h2 (by rw [← hqs]; exact h3))
        have HZ := gI hZ
        have HDD := gI hD
        obtain ⟨a, ha⟩ : ∃ a, a = of.getD n 0 := ⟨_, rfl⟩
        rw [← ha] at oN hoK HSAME HSETO
        clear hkx hlx hr2 hlt2 hk2 hsz2 hV hVd hqs hD hZ hkZ hZH ha
        go_upto_region 20 with fail
        rw [← HZ.out, ← HDD.out]
        clear hen
        have HSM := gI (show opL of mt es (addV V n c) P1 = qs → ∀ m, (∃ (left : Value → Bool) (cnt : Nat), RangeAt (Z.drewN m) Tryz.prog 136 (M + 1) r q gm left cnt ∧ DI H W0 (Z.drewN m) gb x rb ob pb pc rows of K (opL of mt es (fun (m : Nat) (d : Int) => !left (duov m d)) P1) ∧ Keeps [r, pb] w5 (Z.drewN m)) ∧ (Z.drewN m).rangeLeft (M + 1) r < wr.rangeLeft (M + 1) r from fun h m => by
         have k : Keeps [pb] w2 (Z.drewN m) := (HKZ.out.mono (by simp)).drewN m
         exact ⟨HREL.out _ k (by rw [h]; exact HDZ.out.drewN HH.out m), HMEA.out _ k⟩)
        by_cases h0 : a < 0
        ·have HR2 := gI (HSM.out (HSAME.out (fun i hi e => by omega)))
         go_quiet (fail)
         go_wp2
         go_roundw
         case rel => exact (HR2.out _).1
         case measure => exact (HR2.out _).2
        ·obtain ⟨A, rfl⟩ := Int.eq_ofNat_of_zero_le (show 0 ≤ a by omega)
         have hAK : A < K := by omega
         obtain ⟨⟨p1, _, p3⟩, pf⟩ := HPT.out Z _ HDZ.out A hAK
         rw [HQL.out A hAK] at p1
         have HSO2 := gI (HSETO.out A hAK rfl)
         have HSS := gI (show ((P1.getD A pt0).loop = false ∨ (qs.getD A pt0).opn = true) → opL of mt es (addV V n c) P1 = qs from fun h => HSAME.out (fun i hi e => by
          obtain rfl : A = i := by omega
          exact h))
         obtain ⟨lb, hlb⟩ : ∃ b, b = (P1.getD A pt0).loop := ⟨_, rfl⟩
         obtain ⟨ob2, hob⟩ : ∃ b, b = (qs.getD A pt0).opn := ⟨_, rfl⟩
         rw [← hlb] at p1 HSS HSO2
         rw [← hob] at p3 HSS HSO2
         clear hlb hob pf
         cases lb with
         | false =>
          have HR2 := gI (HSM.out (HSS.out (.inl rfl)))
          go_quiet (fail)
          go_wp2
          go_roundw
          case rel => exact (HR2.out _).1
          case measure => exact (HR2.out _).2
         | true =>
          cases ob2 with
          | true =>
           have HR2 := gI (HSM.out (HSS.out (.inr rfl)))
           go_quiet (fail)
           go_wp2
           go_roundw
           case rel => exact (HR2.out _).1
           case measure => exact (HR2.out _).2
          | false =>
           have HSO3 := gI (HSO2.out rfl rfl)
           go_quiet (fail)
           rename Nat => nq1
           go_upto_region 22 with fail
           obtain ⟨V2, hV2⟩ : ∃ V2, V2 = Z.drewN nq1 := ⟨_, rfl⟩
           have HDV := gI (show DI H W0 V2 gb x rb ob pb pc rows of K qs by rw [hV2]; exact HDZ.out.drewN HH.out _)
           have HK2V := gI (show Keeps [] w2 V2 by rw [hV2]; exact HKZ.out.drewN _)
           rw [← hV2]
           clear hV2 p1 p3 c5 c6 oN
           have HDV1 := gI (show DI H W0 V2.drew gb x rb ob pb pc rows of K qs from HDV.out.keepN HH.out ((Keeps.refl [] V2).drew) (by simp))
           obtain ⟨_, _, _, c6⟩ := HBX.out V2.drew _ HDV1.out
           obtain ⟨hsm, hsl⟩ := HKW.out V2.drew ((HK2.out.trans (HK2V.out.mono (by simp))).drew)
           have HC := gI (opens_any V2.drew gb x rb ob (some pb) pc rows of qs HDV1.out.bn.bg _ (sl n c).2 (sel es n c) (hsl n c) (Nat.le_trans (sel_le _ _ _) (by rw [← HLL.out]; exact hL6)) M mt (by rw [← HNN.out]; exact hsm) (by rw [← HNN.out]; exact HMT.out.2) (by rw [← HNN.out]; exact HOL.out) (by rw [← HNN.out]; exact hN64) A (fun i hi => by
            have h1 : (sel es n c).getD i e40 ∈ sel es n c := by
             rw [List.getD_eq_getElem?_getD, List.getElem?_eq_getElem hi]
             exact List.getElem_mem hi
            obtain ⟨h2, _⟩ := mem_sel.1 h1
            obtain ⟨k, hk, hke⟩ := List.getElem_of_mem h2
            have h3 := (HE.out k (by rw [HLL.out]; exact hk)).2.1
            rw [List.getD_eq_getElem?_getD (l := es), List.getElem?_eq_getElem hk, Option.getD_some, hke] at h3
            rw [← HNN.out]
            exact h3) (fun i _ => HMT.out.1 i))
           rw [← HNN.out] at HC
           obtain ⟨b3, hb3⟩ : ∃ b, b = opnK of mt A (sel es n c) (sel es n c).length := ⟨_, rfl⟩
           rw [← hb3] at HC HSO3
           clear hsm hsl hb3
           refine wp_region_held_drew (S := fun W => W.cell? ⟨gb, 6, none⟩ = some (.slice (some ⟨pb, 0, none⟩) K pc)) (by kernel_rfl) c6 (fun hHeld => ?_)
           refine take_on (i := 0) (v := ?_) rfl (by kernel_rfl) (by kernel_rfl) (by kernel_rfl) (fun _ _ _ h => h) (by rfl) (by assumption) ?_ ?_
           rotate_left
           ·((intro w hSw; (try dsimp only at hSw); go_simp <;> with_reducible rfl); done)
           try simp only [Act.put, List.setIfInBounds_toArray, List.set_cons_zero, List.set_cons_succ]
           refine take_on (i := 1) (v := ?_) rfl (by kernel_rfl) (by kernel_rfl) (by kernel_rfl) (fun _ _ _ h => h) (by rfl) (by assumption) ?_ ?_
           rotate_left
           ·((intro w hSw; (try dsimp only at hSw); go_simp <;> with_reducible rfl); done)
           try simp only [Act.put, List.setIfInBounds_toArray, List.set_cons_zero, List.set_cons_succ]
           refine take_on (i := 2) (v := ?_) rfl (by kernel_rfl) (by kernel_rfl) (by kernel_rfl) (fun _ _ _ h => h) (by rfl) (by assumption) ?_ ?_
           rotate_left
           ·((intro w hSw; (try dsimp only at hSw); go_simp <;> with_reducible rfl); done)
           try simp only [Act.put, List.setIfInBounds_toArray, List.set_cons_zero, List.set_cons_succ]
           refine take_on (i := 3) (v := ?_) rfl (by kernel_rfl) (by kernel_rfl) (by kernel_rfl) (fun _ _ _ h => h) (by rfl) (by assumption) ?_ ?_
           rotate_left
           ·((intro w hSw; (try dsimp only at hSw); go_simp <;> with_reducible rfl); done)
           try simp only [Act.put, List.setIfInBounds_toArray, List.set_cons_zero, List.set_cons_succ]
           refine take_on (i := 4) (v := ?_) rfl (by kernel_rfl) (by kernel_rfl) (by kernel_rfl) (fun _ _ _ h => h) (by rfl) (by assumption) ?_ ?_
           rotate_left
           ·((intro w hSw; (try dsimp only at hSw); go_simp <;> with_reducible rfl); done)
           try simp only [Act.put, List.setIfInBounds_toArray, List.set_cons_zero, List.set_cons_succ]
           refine take_on (i := 5) (v := ?_) rfl (by kernel_rfl) (by kernel_rfl) (by kernel_rfl) (fun _ _ _ h => h) (by rfl) (by assumption) ?_ ?_
           rotate_left
           ·((intro w hSw; (try dsimp only at hSw); go_simp <;> with_reducible rfl); done)
           try simp only [Act.put, List.setIfInBounds_toArray, List.set_cons_zero, List.set_cons_succ]
           refine take_on (i := 6) (v := ?_) rfl (by kernel_rfl) (by kernel_rfl) (by kernel_rfl) (fun _ _ _ h => h) (by rfl) (by assumption) ?_ ?_
           rotate_left
           ·((intro w hSw; (try dsimp only at hSw); go_simp <;> with_reducible rfl); done)
           try simp only [Act.put, List.setIfInBounds_toArray, List.set_cons_zero, List.set_cons_succ]
           refine take_on (i := 7) (v := ?_) rfl (by kernel_rfl) (by kernel_rfl) (by kernel_rfl) (fun _ _ _ h => h) (by rfl) (by assumption) ?_ ?_
           rotate_left
           ·((intro w hSw; (try dsimp only at hSw); go_simp <;> with_reducible rfl); done)
           try simp only [Act.put, List.setIfInBounds_toArray, List.set_cons_zero, List.set_cons_succ]
           refine take_on (i := 8) (v := ?_) rfl (by kernel_rfl) (by kernel_rfl) (by kernel_rfl) (fun _ _ _ h => h) (by rfl) (by assumption) ?_ ?_
           rotate_left
           ·((intro w hSw; (try dsimp only at hSw); go_simp <;> with_reducible rfl); done)
           try simp only [Act.put, List.setIfInBounds_toArray, List.set_cons_zero, List.set_cons_succ]
           refine branch_one (i := 9) rfl (by kernel_rfl) (by rfl) (fun K hK => ?_)
           go_simp
           with_reducible refine Calls.mono HC.out ?_
           rintro e w8 ⟨rfl, hk8⟩
           have HD8 := gI (HDV1.out.keepN HH.out hk8 (by simp))
           have d6 := (HBX.out w8 _ HD8.out).2.2.2
           obtain ⟨⟨_, _, p3⟩, pf⟩ := HPT.out w8 _ HD8.out A hAK
           have pf3 := pf (A * 4 + 3)
           have HK8 := gI (show Keeps [] w2 w8 from HK2V.out.drew.trans hk8)
           have hpg : pb ≠ gb := (HD8.out.bn.np pb rfl).2.1
           obtain ⟨X, hX⟩ : ∃ X, X = w8.setCell ⟨pb, A * 4 + 3, none⟩ (.bool b3) := ⟨_, rfl⟩
           have HDX := gI (show DI H W0 X gb x rb ob pb pc rows of _ (opL of mt es (addV V n c) P1) by rw [hX, HSO3.out]; exact HD8.out.set3 A hAK b3)
           have HKX := gI (show Keeps [pb] w2 X by rw [hX]; exact (HK8.out.mono (by simp)).setCell (p := ⟨pb, A * 4 + 3, none⟩) (.inl (by simp)) _)
           have e6 := (HBX.out X _ HDX.out).2.2.2
           have HX := gI hX
           clear hk8 pf hX
           refine hK.out _ _ (d6) (fun hHeld => ?_)
           clear hK K
           try simp only [Act.put, List.setIfInBounds_toArray, List.set_cons_zero, List.set_cons_succ]
           refine take_on (i := 10) (v := ?_) rfl (by kernel_rfl) (by kernel_rfl) (by kernel_rfl) (fun _ _ _ h => h) (by rfl) (by assumption) ?_ ?_
           rotate_left
           ·((intro w hSw; (try dsimp only at hSw); go_simp <;> with_reducible rfl); done)
           try simp only [Act.put, List.setIfInBounds_toArray, List.set_cons_zero, List.set_cons_succ]
           refine take_on (i := 11) (v := ?_) rfl (by kernel_rfl) (by kernel_rfl) (by kernel_rfl) (fun _ _ _ h => h) (by rfl) (by assumption) ?_ ?_
           rotate_left
           ·((intro w hSw; (try dsimp only at hSw); go_simp <;> with_reducible rfl); done)
           try simp only [Act.put, List.setIfInBounds_toArray, List.set_cons_zero, List.set_cons_succ]
           refine branch_one (i := 12) rfl (by kernel_rfl) (by rfl) (fun K hK => ?_)
           go_simp
           rw [← HX.out]
           refine hK.out _ _ (e6) (fun hHeld => ?_)
           clear hK K
           try simp only [Act.put, List.setIfInBounds_toArray, List.set_cons_zero, List.set_cons_succ]
           refine wpAnyH_done (by kernel_rfl) ?_ _
           clear hHeld
           have HR2 := gI (And.intro (HREL.out X HKX.out HDX.out) (HMEA.out X HKX.out))
           go_wp2
           go_roundw
           case rel => exact HR2.out.1
           case measure => exact HR2.out.2
end Go.Proofs.YtkekenaamnhbhaaGreat
