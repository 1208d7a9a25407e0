/- Part 16 of the proof. No condition: every lemma says its own. -/
import Derived.Test.YtkekenaamnhbhaaGreatZsam
namespace Go.Proofs.YtkekenaamnhbhaaGreat
open Go.RowKit Go.Sort Go.BigFrame Classical
set_option maxRecDepth 100000
set_option maxHeartbeats 16000000
set_option linter.unusedSimpArgs false in
theorem doubleNext_ok (x : Gr) (rows : List Nat) (wb pw pp part : Nat) (W0 : World) (hw : WaysAt W0 wb x rows) (ok : GrOK x) (hpw : W0.cell? ⟨pw, 0, none⟩ = some (.pointer (some ⟨wb, 0, none⟩))) (hpp : W0.cell? ⟨pp, 0, none⟩ = some (.int .u64 part)) (hpl : part < 2 ^ 64) :
  NextOK W0 (DOK x.nodes.length) 101 #[.pointer (some ⟨pw, 0, none⟩), .pointer (some ⟨pp, 0, none⟩)] (DSucc x.edges part) := by
 intro p9 p11 p12 J hJ s l0 U W hs hj
 obtain ⟨hge, hkp⟩ := hJ.ge l0 U W hj
 obtain ⟨a, b, d⟩ := s
 obtain ⟨⟨ha0, ha1⟩, ⟨hb0, hb1⟩, hd⟩ := hs
 simp only at ha0 ha1 hb0 hb1 hd
 obtain ⟨a, rfl⟩ := Int.eq_ofNat_of_zero_le ha0
 obtain ⟨b, rfl⟩ := Int.eq_ofNat_of_zero_le hb0
 have ha : a < x.nodes.length := by omega
 have hb : b < x.nodes.length := by omega
 obtain ⟨ob, rb, hbx, hus, hmaps⟩ := hw.box
 have h4 := (way_cells hbx).2.2.2.2.1
 obtain ⟨mb, g, k, hm1, hm2, hm3, hm4⟩ := WaysAt.edges hmaps ha
 obtain ⟨mb2, g2, k2, hn1, hn2, hn3, hn4⟩ := WaysAt.edges hmaps hb
 have ln := ok.ln
 have le := ok.le
 have HED := gI (show ∀ n c, ∀ e ∈ sel x.edges n c, (0 ≤ e.tt ∧ e.tt < x.nodes.length) from fun n c e he => (ok.ed e (mem_sel.1 he).1).2.1)
 have HCL := gI (show ∀ e ∈ x.edges, M64 e.cl from fun e he => M64.small (ok.ed e he).2.2.1.1 (by have := (ok.ed e he).2.2.1.2; have := hw.gr.lc; omega))
 obtain ⟨E, hE⟩ : ∃ E, E = x.edges := ⟨_, rfl⟩
 obtain ⟨N, hN⟩ : ∃ N, N = x.nodes.length := ⟨_, rfl⟩
 rw [← hN] at h4 ha hb ln hJ HED
 rw [← hE] at hm4 hn4 le HED HCL ⊢
 simp only [triv]
 obtain ⟨B, hB⟩ : ∃ B, B = W.heap.size := ⟨_, rfl⟩
 obtain ⟨X, hX⟩ : ∃ X, X = W.alloc (.cells #[.int .i64 a, .int .i64 b, .int .i64 d] 175) := ⟨_, rfl⟩
 have hkX : Keeps [] W X := by rw [hX]; exact Keeps.a1 _ _
 have hbX : X.heap[B]? = some (.cells #[.int .i64 a, .int .i64 b, .int .i64 d] 175 (0, 0)) := by rw [hX, hB]; exact heap_alloc_new W _
 have b0 : X.cell? ⟨B, 0, none⟩ = some (.int .i64 a) := by simp [World.cell?, hbX]
 have b1 : X.cell? ⟨B, 1, none⟩ = some (.int .i64 b) := by simp [World.cell?, hbX]
 have b2 : X.cell? ⟨B, 2, none⟩ = some (.int .i64 d) := by simp [World.cell?, hbX]
 have hk0 : Keeps [] W0 X := hkp.trans hkX
 have cw := hk0.cell hpw (by simp)
 have c4 := hk0.cell h4 (by simp)
 have ca := hk0.cell hm1 (by simp)
 have hma := hm2.keep hk0 (by simp)
 have hXs : X.heap.size = W.heap.size + 1 := by rw [hX]; simp
 have hUX : ∀ y ∈ U, y < B := fun y hy => by have := (hge y hy).2; omega
 have hW0X := hkp.size
 have HX := gI hX
 have HB := gI hB
 have HKX := gI hkX
 have HK0 := gI hk0
 have HJ := gI hJ
 have HJ0 := gI (show J l0 U X from hJ.stab l0 U W X [] hj hkX (by simp))
 have HPW := gI hpw
 have HPP := gI hpp
 have H4 := gI h4
 have HM1 := gI hm1
 have HM2 := gI hm2
 have HM4 := gI hm4
 have HN1 := gI hn1
 have HN2 := gI hn2
 have HN4 := gI hn4
 have HXS := gI hXs
 have HUX := gI hUX
 have HGE := gI (fun y hy => (hge y hy).1)
 have HB0 := gI b0
 have HB1 := gI b1
 have HB2 := gI b2
 have HE := gI hE
 have HW0X := gI hW0X
 have HPL := gI hpl
 clear hw ok hJ hj hge hkp hbx hus hmaps hm1 hm2 hm4 hn1 hn2 hn4 hpw hpp h4 hX hkX hbX hk0 hE hN hXs hUX hW0X hB ha0 ha1 hb0 hb1 hpl
 show Calls Tryz.prog 101 #[.agg #[.int .i64 a, .int .i64 b, .int .i64 d], .func (.func 114) #[] #[.pointer (some ⟨p9, 0, none⟩), .pointer (some ⟨p11, 0, none⟩), .pointer (some ⟨p12, 0, none⟩)], .pointer (some ⟨pw, 0, none⟩), .pointer (some ⟨pp, 0, none⟩)] W _
 go_enter Tryz.func101, Tryz.ntmps101
 go_upto_region 1 with fail
 rw [← HX.out, ← HB.out]
 refine wp_region_held_drew (S := fun w' => (w'.cell? ⟨pw, 0, none⟩ = some (.pointer (some ⟨wb, 0, none⟩)) ∧ w'.cell? ⟨B, 0, none⟩ = some (.int .i64 a)) ∧ w'.cell? ⟨wb, 4, none⟩ = some (.slice (some ⟨ob, 0, none⟩) N N) ∧ w'.cell? ⟨ob, a, none⟩ = some (.map (some mb))) (by kernel_rfl) ⟨⟨cw, b0⟩, c4, ca⟩ (fun hHeld => ?_)
 refine take_on (i := 0) (v := ?_) rfl (by kernel_rfl) (by kernel_rfl) (by kernel_rfl) (fun _ _ _ h => h) (by rfl) (by assumption) ?_ ?_
 rotate_left
 ·((intro w hSw; (try dsimp only at hSw); go_simp <;> with_reducible rfl); done)
 try simp only [Act.put, List.setIfInBounds_toArray, List.set_cons_zero, List.set_cons_succ]
 refine take_on (i := 1) (v := ?_) rfl (by kernel_rfl) (by kernel_rfl) (by kernel_rfl) (fun _ _ _ h => h) (by rfl) (by assumption) ?_ ?_
 rotate_left
 ·((intro w hSw; (try dsimp only at hSw); go_simp <;> with_reducible rfl); done)
 try simp only [Act.put, List.setIfInBounds_toArray, List.set_cons_zero, List.set_cons_succ]
 refine take_on (i := 2) (v := ?_) rfl (by kernel_rfl) (by kernel_rfl) (by kernel_rfl) (fun _ _ _ h => h) (by rfl) (by assumption) ?_ ?_
 rotate_left
 ·((intro w hSw; (try dsimp only at hSw); go_simp <;> with_reducible rfl); done)
 try simp only [Act.put, List.setIfInBounds_toArray, List.set_cons_zero, List.set_cons_succ]
 refine take_on (i := 3) (v := ?_) rfl (by kernel_rfl) (by kernel_rfl) (by kernel_rfl) (fun _ _ _ h => h) (by rfl) (by assumption) ?_ ?_
 rotate_left
 ·((intro w hSw; (try dsimp only at hSw); go_simp <;> with_reducible rfl); done)
 try simp only [Act.put, List.setIfInBounds_toArray, List.set_cons_zero, List.set_cons_succ]
 refine take_on (i := 4) (v := ?_) rfl (by kernel_rfl) (by kernel_rfl) (by kernel_rfl) (fun _ _ _ h => h) (by rfl) (by assumption) ?_ ?_
 rotate_left
 ·((intro w hSw; (try dsimp only at hSw); go_simp <;> with_reducible rfl); done)
 try simp only [Act.put, List.setIfInBounds_toArray, List.set_cons_zero, List.set_cons_succ]
 refine take_on (i := 5) (v := ?_) rfl (by kernel_rfl) (by kernel_rfl) (by kernel_rfl) (fun _ _ _ h => h) (by rfl) (by assumption) ?_ ?_
 rotate_left
 ·((intro w hSw; (try dsimp only at hSw); go_simp <;> with_reducible rfl); done)
 try simp only [Act.put, List.setIfInBounds_toArray, List.set_cons_zero, List.set_cons_succ]
 refine take_on (i := 6) (v := ?_) rfl (by kernel_rfl) (by kernel_rfl) (by kernel_rfl) (fun _ _ _ h => h) (by rfl) (by assumption) ?_ ?_
 rotate_left
 ·((intro w hSw; (try dsimp only at hSw); go_simp <;> with_reducible rfl); done)
 try simp only [Act.put, List.setIfInBounds_toArray, List.set_cons_zero, List.set_cons_succ]
 refine take_on (i := 7) (v := ?_) rfl (by kernel_rfl) (by kernel_rfl) (by kernel_rfl) (fun _ _ _ h => h) (by rfl) (by assumption) ?_ ?_
 rotate_left
 ·((intro w hSw; (try dsimp only at hSw); go_simp <;> with_reducible rfl); done)
 try simp only [Act.put, List.setIfInBounds_toArray, List.set_cons_zero, List.set_cons_succ]
 refine branch_one (i := 8) rfl (by kernel_rfl) (by rfl) (fun K hK => ?_)
 refine wp_range (.tmp 20) 172 rfl 3 87 intKeyed Tryz.underlying172 mb k g rfl (hma.keep ((Keeps.refl [] X).drew) (by simp)) ?_
 intro w1 cnt hr1 hk1 hs1
 have hkx1 : Keeps [] X w1 := ((Keeps.refl [] X).drew).trans hk1
 refine hK.out _ _ (⟨⟨hkx1.cell cw (by simp), hkx1.cell b0 (by simp)⟩, hkx1.cell c4 (by simp), hkx1.cell ca (by simp)⟩) (fun hHeld => ?_)
 clear hK K
 try simp only [Act.put, List.setIfInBounds_toArray, List.set_cons_zero, List.set_cons_succ]
 refine wpAnyH_done (by kernel_rfl) ?_ _
 obtain ⟨r, hr⟩ : ∃ r, r = X.heap.size := ⟨_, rfl⟩
 have hr2 : X.drew.heap.size = r := by rw [hr]; rfl
 rw [hr2] at hr1 hs1 ⊢
 have HR := gI hr
 have HR1 := gI hr1
 have HK1 := gI hkx1
 have HS1 := gI hs1
 clear hr hr2 hr1 hk1 hkx1 hs1 hHeld hma cw b0 b1 b2 c4 ca
 have HK0A := gI (show ∀ V : World, Keeps (r :: U) X V → Keeps [] W0 V from fun V hk => HK0.out.after hk (fun y hy => .inr (by
  rcases List.mem_cons.1 hy with e | e
  ·have := HR.out; have := HXS.out; have := HW0X.out; omega
  ·exact HGE.out y e)))
 have HBA := gI (show ∀ V : World, Keeps (r :: U) X V → (V.cell? ⟨B, 0, none⟩ = some (.int .i64 a) ∧ V.cell? ⟨B, 1, none⟩ = some (.int .i64 b) ∧ V.cell? ⟨B, 2, none⟩ = some (.int .i64 d)) from fun V hk => by
  have hn : B ∉ r :: U := fun hm => by
   rcases List.mem_cons.1 hm with e | e
   ·have := HR.out; have := HXS.out; have := HB.out; omega
   ·have := HUX.out B e; omega
  exact ⟨hk.cell HB0.out hn, hk.cell HB1.out hn, hk.cell HB2.out hn⟩)
 have HST := gI (show ∃ (left : Value → Bool) (cnt : Nat) (l : List (Int × Tri)) (U' : List Nat), RangeAt w1 Tryz.prog 3 mb r k g left cnt ∧ J (l0 ++ l) U' w1 ∧ (∀ y ∈ U', y ∈ U ∨ r < y) ∧ Keeps (r :: U) X w1 ∧ (∀ c t, (c, t) ∈ l ↔ DSucc E part (a, b, d) c t ∧ left (.int .i64 c) = false) from
  ⟨_, cnt, [], U, HR1.out, by rw [List.append_nil]; exact HJ.out.stab l0 U X w1 [] HJ0.out HK1.out (by simp), fun y hy => .inl hy, HK1.out.mono (by simp), fun c t => by
   constructor
   ·intro h; cases h
   ·rintro ⟨⟨e, he, f, _, h1, _, h3, _⟩, h⟩
    exfalso
    have h5 := (HM4.out c).1.2 (fun hnil => by
     have : e ∈ sel E a c := mem_sel.2 ⟨he, h1, h3⟩
     rw [hnil] at this
     cases this)
    rw [h5] at h
    cases h⟩)
 go_wp2
 go_loopw [] (fun wr => ∃ (left : Value → Bool) (cnt : Nat) (l : List (Int × Tri)) (U' : List Nat), RangeAt wr Tryz.prog 3 mb r k g left cnt ∧ J (l0 ++ l) U' wr ∧ (∀ y ∈ U', y ∈ U ∨ r < y) ∧ Keeps (r :: U) X wr ∧ (∀ c t, (c, t) ∈ l ↔ DSucc E part (a, b, d) c t ∧ left (.int .i64 c) = false)) (fun wr => wr.rangeLeft mb r)
 case atStart => exact HST.out
 case round =>
  obtain ⟨left, cnt', l, U', hrg, hj, hu', hk, hl⟩ := hrel
  have HRG := gI hrg
  have HJL := gI hj
  have HU' := gI hu'
  have HK := gI hk
  have HL := gI hl
  clear hrg hj hu' hk hl HST HR1 HK1 HJ0
  go_wp2_with (at_next; refine wpList_nextMap rfl _ rfl 3 intKeyed mb r k g left cnt' rfl HRG.out ?hDone ?hMore)
  case hDone =>
   intro hd0
   have HD0 := gI hd0
   clear hd0
   go_wp2
   go_end0
   refine ⟨rfl, l, U', HJL.out, fun y hy => ?_, (HKX.out.mono (S' := U) (by simp)).after HK.out (fun y hy => ?_), fun c t => ?_⟩
   ·rcases HU'.out y hy with h | h
    ·exact .inl h
    ·exact .inr (by have := HR.out; have := HXS.out; omega)
   ·rcases List.mem_cons.1 hy with e | e
    ·exact .inr (by have := HR.out; have := HXS.out; omega)
    ·exact .inl e
   ·rw [HL.out c t]
    constructor
    ·exact fun h => h.1
    ·intro h
     refine ⟨h, HD0.out _ (keyI ?_)⟩
     obtain ⟨e, he, f, _, _, _, h3, _⟩ := h
     rw [← h3]
     exact HCL.out e he
  case hMore =>
   intro xv cv w2 cnt2 hkx hlx hgx hr2 hlt2 hk2 hsz2 hen
   obtain ⟨c, rfl, hcm⟩ := isKey_int hkx
   obtain ⟨hsel, ea, ec, hv, hed⟩ := HM4.out c
   rw [hgx] at hv
   simp only [Option.getD_some] at hv
   subst hv
   obtain ⟨_, fa2, fc2, hv2, hed2⟩ := HN4.out c
   have hrU : r ∉ U' := fun hm => by
    rcases HU'.out r hm with h | h
    ·have := HUX.out r h; have := HR.out; have := HXS.out; have := HB.out; omega
    ·omega
   have hrge : W0.heap.size ≤ r := by have := HR.out; have := HXS.out; have := HW0X.out; omega
   have HJ2 := gI (show J (l0 ++ l) U' w2 from HJ.out.stab _ U' wr w2 [r] HJL.out hk2 (by intro y hy; simp at hy; subst hy; exact ⟨hrU, hrge⟩))
   have HKW2 := gI (show Keeps (r :: U) X w2 from HK.out.trans (hk2.mono (by intro y hy; simp at hy; subst hy; exact .inl (by simp))))
   have HLT2 := gI (show ∀ y ∈ U', y < w2.heap.size from fun y hy => (((HJ.out.ge _ U' w2 HJ2.out).1) y hy).2)
   have HU'X := gI (show ∀ y ∈ U', y ∈ r :: U ∨ X.heap.size ≤ y from fun y hy => by
    rcases HU'.out y hy with h | h
    ·exact .inl (by simp [h])
    ·exact .inr (by have := HR.out; omega))
   obtain ⟨L1, hL1⟩ : ∃ L1, L1 = sel E a c := ⟨_, rfl⟩
   obtain ⟨L2, hL2⟩ : ∃ L2, L2 = sel E b c := ⟨_, rfl⟩
   have HE1 := gI (show ∀ e ∈ L1, (0 ≤ e.tt ∧ e.tt < N) from fun e he => HED.out a c e (hL1 ▸ he))
   have HE2 := gI (show ∀ e ∈ L2, (0 ≤ e.tt ∧ e.tt < N) from fun e he => HED.out b c e (hL2 ▸ he))
   have HLE1 := gI (show L1.length ≤ 65536 by rw [hL1]; exact Nat.le_trans (sel_le _ _ _) le)
   have HLE2 := gI (show L2.length ≤ 65536 by rw [hL2]; exact Nat.le_trans (sel_le _ _ _) le)
   have HLK := gI (show ∀ V : World, Keeps (r :: U) X V → (Instr.lookup 172 (.map (some mb2)) (.int .i64 c) false).run Tryz.prog V = .ok (.slice fa2 L2.length fc2) V from fun V hk => by
    have h := (HN2.out.keep (HK0A.out V hk) (by simp)).look false intKeyed Tryz.underlying172 (z := .slice none 0 0) (by kernel_rfl) (keyI hcm)
    simp only [Bool.false_eq_true, if_false] at h
    rw [hv2, ← hL2] at h
    exact h)
   rw [← hL1] at hed hen ⊢
   rw [← hL2] at hed2
   have HEDA := gI hed
   have HEDB := gI hed2
   have HLL1 := gI hL1
   have HLL2 := gI hL2
   have HR2 := gI hr2
   have HLT3 := gI hlt2
   have HK2 := gI hk2
   have HLX := gI hlx
   have l1le := HLE1.out
   have l2le := HLE2.out
   have HMU := gI (show mb ∉ U' ∧ r ∉ U' from ⟨fun hm => by
    have h1 := HM2.out.lt
    rcases HU'.out mb hm with h | h
    ·have := HGE.out mb h; omega
    ·have := HR.out; have := HXS.out; have := HW0X.out; omega, hrU⟩)
   clear hsel hv2 hed hed2 hL1 hL2 hr2 hlt2 hk2 hlx hrU hrge hgx hcm hkx
   go_wp2
   obtain ⟨wq, hwq⟩ : ∃ wq, wq = wr := ⟨_, rfl⟩
   go_loopw [29] (fun v wr => ∃ (p : Nat) (l2 : List (Int × Tri)) (U2 : List Nat), p ≤ L1.length ∧ v = .int .i64 p ∧ J (l0 ++ (l ++ l2)) U2 wr ∧ (∀ y ∈ U2, y ∈ U' ∨ w2.heap.size ≤ y) ∧ Keeps U' w2 wr ∧ (∀ c' t, (c', t) ∈ l2 ↔ c' = c ∧ ∃ e ∈ L1.take p, ∃ f ∈ L2, part.testBit e.tt.toNat = true ∧ part.testBit f.tt.toNat = true ∧ t = dTo (a, b, d) e f)) (fun v _ => L1.length - (intOf v).toNat)
   case atStart => exact ⟨0, [], U', Nat.zero_le _, rfl, by rw [List.append_nil]; exact HJ2.out, fun y hy => .inl hy, Keeps.refl _ _, fun c' t => by simp⟩
   case round =>
    obtain ⟨p, l2, U2, hp, rfl, hj2, hu2, hk2, hl2⟩ := hrel
    have HJ3 := gI hj2
    have HU2 := gI hu2
    have HK3 := gI hk2
    have HL2 := gI hl2
    by_cases hpl : p < L1.length
    ·have hkX2 : Keeps (r :: U) X wr := HKW2.out.after hk2 HU'X.out
     have hk02 := HK0A.out wr hkX2
     obtain ⟨be, oe, rfl, hce⟩ := (HEDA.out.keep hk02) (by omega)
     obtain ⟨x0, x1, x2, x3⟩ := hce p hpl
     have htk : L1.take (p + 1) = L1.take p ++ [L1[p]] := List.take_succ_eq_append_getElem hpl
     have hte := HE1.out L1[p] (List.getElem_mem hpl)
     obtain ⟨e, he⟩ : ∃ e, e = L1[p] := ⟨_, rfl⟩
     rw [← he] at x0 x1 x2 x3 htk hte
     obtain ⟨ef, et, ek, ew⟩ := e
     simp only at x0 x1 x2 x3 hte
     obtain ⟨t1, rfl⟩ := Int.eq_ofNat_of_zero_le hte.1
     obtain ⟨Ce, hCe⟩ : ∃ C, C = wr.heap.size := ⟨_, rfl⟩
     obtain ⟨Z, hZ⟩ : ∃ Z, Z = wr.alloc (.cells #[.int .i64 ef, .int .i64 t1, .int .i64 ek, .int .i64 ew] 125) := ⟨_, rfl⟩
     have hkZ : Keeps [] wr Z := by rw [hZ]; exact Keeps.a1 _ _
     have hZH : Z.heap[Ce]? = some (.cells #[.int .i64 ef, .int .i64 t1, .int .i64 ek, .int .i64 ew] 125 (0, 0)) := by rw [hZ, hCe]; exact heap_alloc_new wr _
     have hkXZ : Keeps (r :: U) X Z := hkX2.trans (hkZ.mono (by simp))
     have hk0Z := HK0A.out Z hkXZ
     have cw := hk0Z.cell HPW.out (by simp)
     have c4 := hk0Z.cell H4.out (by simp)
     have cb := hk0Z.cell HN1.out (by simp)
     have b1 := (HBA.out Z hkXZ).2.1
     have LQ : ∀ q, (Instr.lookup 172 (.map (some mb2)) (.int .i64 c) false).run Tryz.prog (Z.drewN q) = .ok (.slice fa2 L2.length fc2) (Z.drewN q) := fun q => HLK.out (Z.drewN q) (hkXZ.drewN q)
     have HZ := gI hZ
     have HCE := gI hCe
     have HZH := gI hZH
     have HTK := gI htk
     have HT1 := gI hte.2
     have HKXZ := gI hkXZ
     have HKZ := gI hkZ
     have HJZ := gI (show J (l0 ++ (l ++ l2)) U2 Z from HJ.out.stab _ U2 wr Z [] hj2 hkZ (by simp))
     have HU2Z := gI (show ∀ y ∈ U2, y < Ce from fun y hy => by rw [hCe]; exact ((HJ.out.ge _ U2 wr hj2).1 y hy).2)
     have HU2X := gI (show ∀ y ∈ U2, y ∈ r :: U ∨ X.heap.size ≤ y from fun y hy => by
      rcases hu2 y hy with h | h
      ·exact HU'X.out y h
      ·exact .inr (Nat.le_trans HKW2.out.size h))
     clear hce he hte hZ hCe hkZ hZH hkXZ hk0Z hkX2 hk02 hj2 hu2 hk2 hl2 htk
     go_upto_region 7 with fail
     rw [← HZ.out, ← HCE.out]
     go_quiet (fail)
     have hnq := (Keeps.refl [] Z).drewN nq
     have HKQ := gI (show Keeps (r :: U) X (Z.drewN nq) from HKXZ.out.trans (hnq.mono (by simp)))
     have HJQ := gI (show J (l0 ++ (l ++ l2)) U2 (Z.drewN nq) from HJ.out.stab _ U2 Z _ [] HJZ.out hnq (by simp))
     have HQH := gI (show (Z.drewN nq).heap[Ce]? = some (.cells #[.int .i64 ef, .int .i64 t1, .int .i64 ek, .int .i64 ew] 125 (0, 0)) from HZH.out)
     have HQS := gI (show (Z.drewN nq).heap.size = Ce + 1 from by
       have h : Z.heap.size = wr.heap.size + 1 := by rw [HZ.out]; simp
       show Z.heap.size = Ce + 1
       rw [h, HCE.out])
     have HKWQ := gI (show Keeps U' w2 (Z.drewN nq) from (HK3.out.trans (HKZ.out.mono (by simp))).drewN nq)
     clear hnq cw c4 cb b1 LQ x0 x1 x2 x3
     generalize Z.drewN nq = V at *
     go_wp2
     obtain ⟨wq2, hwq2⟩ : ∃ wq, wq = wr := ⟨_, rfl⟩
     go_loopw [44] (fun v wr => ∃ (q : Nat) (l3 : List (Int × Tri)) (U3 : List Nat), q ≤ L2.length ∧ v = .int .i64 q ∧ J (l0 ++ (l ++ (l2 ++ l3))) U3 wr ∧ (∀ y ∈ U3, y ∈ U2 ∨ V.heap.size ≤ y) ∧ Keeps U2 V wr ∧ (∀ c' t, (c', t) ∈ l3 ↔ c' = c ∧ ∃ f ∈ L2.take q, part.testBit t1 = true ∧ part.testBit f.tt.toNat = true ∧ t = dTo (a, b, d) ⟨ef, t1, ek, ew⟩ f)) (fun v _ => L2.length - (intOf v).toNat)
     case atStart => exact ⟨0, [], U2, Nat.zero_le _, rfl, by rw [List.append_nil]; exact HJQ.out, fun y hy => .inl hy, Keeps.refl _ _, fun c' t => by simp⟩
     case round =>
      obtain ⟨q, l3, U3, hq, rfl, hj3, hu3, hk3, hl3⟩ := hrel
      have HJ4 := gI hj3
      have HU3 := gI hu3
      have HK4 := gI hk3
      have HL3 := gI hl3
      by_cases hql : q < L2.length
      ·have hkX3 : Keeps (r :: U) X wr := HKQ.out.after hk3 HU2X.out
       have hk03 := HK0A.out wr hkX3
       obtain ⟨bf, of_, rfl, hcf⟩ := (HEDB.out.keep hk03) (by omega)
       obtain ⟨x0, x1, x2, x3⟩ := hcf q hql
       have htk : L2.take (q + 1) = L2.take q ++ [L2[q]] := List.take_succ_eq_append_getElem hql
       have htf := HE2.out L2[q] (List.getElem_mem hql)
       obtain ⟨f, hf⟩ : ∃ f, f = L2[q] := ⟨_, rfl⟩
       rw [← hf] at x0 x1 x2 x3 htk htf
       obtain ⟨ff, ft, fk, fw⟩ := f
       simp only at x0 x1 x2 x3 htf
       obtain ⟨t2, rfl⟩ := Int.eq_ofNat_of_zero_le htf.1
       obtain ⟨Cf, hCf⟩ : ∃ C, C = wr.heap.size := ⟨_, rfl⟩
       obtain ⟨Z3, hZ3⟩ : ∃ Z, Z = wr.alloc (.cells #[.int .i64 ff, .int .i64 t2, .int .i64 fk, .int .i64 fw] 125) := ⟨_, rfl⟩
       have hkZ : Keeps [] wr Z3 := by rw [hZ3]; exact Keeps.a1 _ _
       have hZH : Z3.heap[Cf]? = some (.cells #[.int .i64 ff, .int .i64 t2, .int .i64 fk, .int .i64 fw] 125 (0, 0)) := by rw [hZ3, hCf]; exact heap_alloc_new wr _
       have hkXZ : Keeps (r :: U) X Z3 := hkX3.trans (hkZ.mono (by simp))
       have hk0Z := HK0A.out Z3 hkXZ
       have hCeU : Ce ∉ U2 := fun hm => by have := HU2Z.out Ce hm; omega
       have hEH := hkZ.heap (hk3.heap HQH.out hCeU) (by simp)
       have e0 : Z3.cell? ⟨Ce, 0, none⟩ = some (.int .i64 ef) := by simp [World.cell?, hEH]
       have e1 : Z3.cell? ⟨Ce, 1, none⟩ = some (.int .i64 t1) := by simp [World.cell?, hEH]
       have e2 : Z3.cell? ⟨Ce, 2, none⟩ = some (.int .i64 ek) := by simp [World.cell?, hEH]
       have e3 : Z3.cell? ⟨Ce, 3, none⟩ = some (.int .i64 ew) := by simp [World.cell?, hEH]
       have f0 : Z3.cell? ⟨Cf, 0, none⟩ = some (.int .i64 ff) := by simp [World.cell?, hZH]
       have f1 : Z3.cell? ⟨Cf, 1, none⟩ = some (.int .i64 t2) := by simp [World.cell?, hZH]
       have f2 : Z3.cell? ⟨Cf, 2, none⟩ = some (.int .i64 fk) := by simp [World.cell?, hZH]
       have f3 : Z3.cell? ⟨Cf, 3, none⟩ = some (.int .i64 fw) := by simp [World.cell?, hZH]
       have cp := hk0Z.cell HPP.out (by simp)
       have b2 := (HBA.out Z3 hkXZ).2.2
       have ht1 := HT1.out
       have hh1 := gI (fun W => hasN_any part t1 W (by omega) HPL.out)
       have hh2 := gI (fun W => hasN_any part t2 W (by omega) HPL.out)
       obtain ⟨tb1, htb1⟩ : ∃ tb, tb = part.testBit t1 := ⟨_, rfl⟩
       obtain ⟨tb2, htb2⟩ : ∃ tb, tb = part.testBit t2 := ⟨_, rfl⟩
       simp only [← htb1] at hh1
       simp only [← htb2] at hh2
       have HZ := gI hZ3
       have HCF := gI hCf
       have HTK2 := gI htk
       have HTF := gI htf.2
       have HKZ3 := gI hkZ
       have HTB1 := gI htb1
       have HTB2 := gI htb2
       have HJZ3 := gI (show J (l0 ++ (l ++ (l2 ++ l3))) U3 Z3 from HJ.out.stab _ U3 wr Z3 [] hj3 hkZ (by simp))
       have HKV := gI (show Keeps U2 V Z3 from hk3.trans (hkZ.mono (by simp)))
       have HDOK := gI (show DOK N (dTo (a, b, d) ⟨ef, t1, ek, ew⟩ ⟨ff, t2, fk, fw⟩) from by
        have h2 := htf.2
        refine ⟨⟨?_, ?_⟩, ⟨?_, ?_⟩, ?_⟩
        ·show 0 ≤ min (t1 : Int) t2; omega
        ·show min (t1 : Int) t2 < N; omega
        ·show 0 ≤ max (t1 : Int) t2; omega
        ·show max (t1 : Int) t2 < N; omega
        ·show (if _ then (1 : Int) else d) = 0 ∨ (if _ then (1 : Int) else d) = 1
         split
         ·exact .inr rfl
         ·exact hd)
       have HADD := gI (show part.testBit t1 = true → part.testBit t2 = true → ∀ c' t, (c', t) ∈ l3 ++ [(c, dTo (a, b, d) ⟨ef, t1, ek, ew⟩ ⟨ff, t2, fk, fw⟩)] ↔ c' = c ∧ ∃ f ∈ L2.take (q + 1), part.testBit t1 = true ∧ part.testBit f.tt.toNat = true ∧ t = dTo (a, b, d) ⟨ef, t1, ek, ew⟩ f from fun hb1 hb2 c' t => by
        rw [mem_snoc, hl3 c' t, htk]
        constructor
        ·rintro (⟨h1, f, hf, h2⟩ | ⟨h1, h2⟩)
         ·exact ⟨h1, f, by simp [hf], h2⟩
         ·exact ⟨h1, ⟨ff, t2, fk, fw⟩, by simp, hb1, hb2, h2⟩
        ·rintro ⟨h1, f, hf, h2, h3, h4⟩
         rcases List.mem_append.1 hf with hf | hf
         ·exact .inl ⟨h1, f, hf, h2, h3, h4⟩
         ·simp at hf
          subst hf
          exact .inr ⟨h1, h4⟩)
       have HSKIP := gI (show (part.testBit t1 = false ∨ part.testBit t2 = false) → ∀ c' t, (c', t) ∈ l3 ↔ c' = c ∧ ∃ f ∈ L2.take (q + 1), part.testBit t1 = true ∧ part.testBit f.tt.toNat = true ∧ t = dTo (a, b, d) ⟨ef, t1, ek, ew⟩ f from fun hb c' t => by
        rw [hl3 c' t, htk]
        constructor
        ·rintro ⟨h1, f, hf, h2⟩
         exact ⟨h1, f, by simp [hf], h2⟩
        ·rintro ⟨h1, f, hf, h2, h3, h4⟩
         rcases List.mem_append.1 hf with hf | hf
         ·exact ⟨h1, f, hf, h2, h3, h4⟩
         ·simp at hf
          subst hf
          exfalso
          rcases hb with hb | hb
          ·rw [hb] at h2; cases h2
          ·rw [show ((t2 : Int)).toNat = t2 by omega, hb] at h3; cases h3)
       clear hcf hf htf hCf hZ3 hkZ hZH hkXZ hk0Z hCeU hEH hkX3 hk03 hj3 hu3 hk3 hl3 htk htb1 htb2
       cases tb1 with
       | false =>
        go_upto_region 10 with fail
        rw [← HZ.out, ← HCF.out]
        clear x0 x1 x2 x3
        go_wp2_with (go_at_call 99; (first | with_reducible refine (hh1.out _).mono ?_ | with_reducible refine (hh2.out _).mono ?_); rintro e w' ⟨rfl, rfl⟩)
        go_roundw
        case rel => exact ⟨q + 1, l3, U3, hql, by go_num, HJZ3.out, HU3.out, HKV.out, HSKIP.out (.inl HTB1.out.symm)⟩
        case measure => simp [intOf]; omega
       | true =>
        cases tb2 with
        | false =>
         go_upto_region 10 with fail
         rw [← HZ.out, ← HCF.out]
         clear x0 x1 x2 x3
         go_wp2_with (go_at_call 99; (first | with_reducible refine (hh1.out _).mono ?_ | with_reducible refine (hh2.out _).mono ?_); rintro e w' ⟨rfl, rfl⟩)
         go_roundw
         case rel => exact ⟨q + 1, l3, U3, hql, by go_num, HJZ3.out, HU3.out, HKV.out, HSKIP.out (.inr HTB2.out.symm)⟩
         case measure => simp [intOf]; omega
        | true =>
         go_upto_region 10 with fail
         rw [← HZ.out, ← HCF.out]
         clear x0 x1 x2 x3
         go_upto_region 12 with (go_at_call 99; (first | with_reducible refine (hh1.out _).mono ?_ | with_reducible refine (hh2.out _).mono ?_); rintro e w' ⟨rfl, rfl⟩)
         obtain ⟨T3, hT3⟩ : ∃ T3, T3 = dTo (a, b, d) ⟨ef, t1, ek, ew⟩ ⟨ff, t2, fk, fw⟩ := ⟨_, rfl⟩
         have HNEW := gI (HADD.out HTB1.out.symm HTB2.out.symm)
         have HGO := gI (show ∀ u v y : Int, (u, v, y) = T3 → Calls Tryz.prog 114 #[.int .i64 c, .agg #[.int .i64 u, .int .i64 v, .int .i64 y], .pointer (some ⟨p9, 0, none⟩), .pointer (some ⟨p11, 0, none⟩), .pointer (some ⟨p12, 0, none⟩)] Z3 fun e W' => e = .returned (.tuple #[]) ∧ ∃ U4, J (l0 ++ (l ++ (l2 ++ (l3 ++ [(c, T3)])))) U4 W' ∧ Keeps U3 Z3 W' ∧ ∀ x ∈ U4, x ∈ U3 ∨ Z3.heap.size ≤ x from fun u v y hu => by
          have h := HJ.out.step _ U3 Z3 c T3 HJZ3.out (by rw [hT3]; exact HDOK.out)
          rw [← hu] at h ⊢
          simp only [List.append_assoc] at h ⊢
          exact h)
         rw [← hT3] at HNEW
         have HT3 := gI hT3
         have HU3V := gI (show ∀ y ∈ U3, y ∈ U2 ∨ V.heap.size ≤ y from HU3.out)
         clear hT3
         rcases Nat.lt_trichotomy t1 t2 with ho | ho | ho
         ·have ho2 : ¬ t2 < t1 := by omega
          have ho3 : ¬ t1 = t2 := by omega
          have ho4 : ¬ t2 = t1 := by omega
          by_cases hff : ef = ff
          ·subst hff
           have HTC := gI (show (((t1 : Int), (t2 : Int), 1) : Tri) = T3 by rw [HT3.out]; simp [dTo, E4.mk.injEq, *]; try omega)
           go_wp2_with fail
           refine (HGO.out _ _ _ HTC.out).mono ?_
           rintro e w5 ⟨rfl, U4, hj5, hk5, hu5⟩
           have HJ5 := gI hj5
           have HK5 := gI (HKV.out.after hk5 HU3V.out)
           have HU5 := gI (show ∀ y ∈ U4, y ∈ U2 ∨ V.heap.size ≤ y from fun y hy => by
            rcases hu5 y hy with h | h
            ·exact HU3V.out y h
            ·exact .inr (Nat.le_trans HKV.out.size h))
           clear hj5 hk5 hu5
           go_wp2
           go_roundw
           case rel => exact ⟨q + 1, l3 ++ [(c, T3)], U4, hql, by go_num, HJ5.out, HU5.out, HK5.out, HNEW.out⟩
           case measure => simp [intOf]; omega
          ·have hff2 : ¬ ff = ef := fun h => hff h.symm
           have HTC := gI (show (((t1 : Int), (t2 : Int), 1) : Tri) = T3 by rw [HT3.out]; simp [dTo, E4.mk.injEq, *]; try omega)
           go_wp2_with fail
           refine (HGO.out _ _ _ HTC.out).mono ?_
           rintro e w5 ⟨rfl, U4, hj5, hk5, hu5⟩
           have HJ5 := gI hj5
           have HK5 := gI (HKV.out.after hk5 HU3V.out)
           have HU5 := gI (show ∀ y ∈ U4, y ∈ U2 ∨ V.heap.size ≤ y from fun y hy => by
            rcases hu5 y hy with h | h
            ·exact HU3V.out y h
            ·exact .inr (Nat.le_trans HKV.out.size h))
           clear hj5 hk5 hu5
           go_wp2
           go_roundw
           case rel => exact ⟨q + 1, l3 ++ [(c, T3)], U4, hql, by go_num, HJ5.out, HU5.out, HK5.out, HNEW.out⟩
           case measure => simp [intOf]; omega
         ·subst ho
          by_cases hff : ef = ff
          ·subst hff
           by_cases hkk : ek = fk
           ·subst hkk
            by_cases hww : ew = fw
            ·subst hww
             by_cases h1w : 1 < ew
             ·skip
              have HTC := gI (show (((t1 : Int), (t1 : Int), 1) : Tri) = T3 by rw [HT3.out]; simp [dTo, E4.mk.injEq, *]; try omega)
              go_wp2_with fail
              refine (HGO.out _ _ _ HTC.out).mono ?_
              rintro e w5 ⟨rfl, U4, hj5, hk5, hu5⟩
              have HJ5 := gI hj5
              have HK5 := gI (HKV.out.after hk5 HU3V.out)
              have HU5 := gI (show ∀ y ∈ U4, y ∈ U2 ∨ V.heap.size ≤ y from fun y hy => by
               rcases hu5 y hy with h | h
               ·exact HU3V.out y h
               ·exact .inr (Nat.le_trans HKV.out.size h))
              clear hj5 hk5 hu5
              go_wp2
              go_roundw
              case rel => exact ⟨q + 1, l3 ++ [(c, T3)], U4, hql, by go_num, HJ5.out, HU5.out, HK5.out, HNEW.out⟩
              case measure => simp [intOf]; omega
             ·skip
              have HTC := gI (show (((t1 : Int), (t1 : Int), d) : Tri) = T3 by rw [HT3.out]; simp [dTo, E4.mk.injEq, *]; try omega)
              go_wp2_with fail
              refine (HGO.out _ _ _ HTC.out).mono ?_
              rintro e w5 ⟨rfl, U4, hj5, hk5, hu5⟩
              have HJ5 := gI hj5
              have HK5 := gI (HKV.out.after hk5 HU3V.out)
              have HU5 := gI (show ∀ y ∈ U4, y ∈ U2 ∨ V.heap.size ≤ y from fun y hy => by
               rcases hu5 y hy with h | h
               ·exact HU3V.out y h
               ·exact .inr (Nat.le_trans HKV.out.size h))
              clear hj5 hk5 hu5
              go_wp2
              go_roundw
              case rel => exact ⟨q + 1, l3 ++ [(c, T3)], U4, hql, by go_num, HJ5.out, HU5.out, HK5.out, HNEW.out⟩
              case measure => simp [intOf]; omega
            ·have hww2 : ¬ fw = ew := fun h => hww h.symm
             have HTC := gI (show (((t1 : Int), (t1 : Int), 1) : Tri) = T3 by rw [HT3.out]; simp [dTo, E4.mk.injEq, *]; try omega)
             go_wp2_with fail
             refine (HGO.out _ _ _ HTC.out).mono ?_
             rintro e w5 ⟨rfl, U4, hj5, hk5, hu5⟩
             have HJ5 := gI hj5
             have HK5 := gI (HKV.out.after hk5 HU3V.out)
             have HU5 := gI (show ∀ y ∈ U4, y ∈ U2 ∨ V.heap.size ≤ y from fun y hy => by
              rcases hu5 y hy with h | h
              ·exact HU3V.out y h
              ·exact .inr (Nat.le_trans HKV.out.size h))
             clear hj5 hk5 hu5
             go_wp2
             go_roundw
             case rel => exact ⟨q + 1, l3 ++ [(c, T3)], U4, hql, by go_num, HJ5.out, HU5.out, HK5.out, HNEW.out⟩
             case measure => simp [intOf]; omega
           ·have hkk2 : ¬ fk = ek := fun h => hkk h.symm
            have HTC := gI (show (((t1 : Int), (t1 : Int), 1) : Tri) = T3 by rw [HT3.out]; simp [dTo, E4.mk.injEq, *]; try omega)
            go_wp2_with fail
            refine (HGO.out _ _ _ HTC.out).mono ?_
            rintro e w5 ⟨rfl, U4, hj5, hk5, hu5⟩
            have HJ5 := gI hj5
            have HK5 := gI (HKV.out.after hk5 HU3V.out)
            have HU5 := gI (show ∀ y ∈ U4, y ∈ U2 ∨ V.heap.size ≤ y from fun y hy => by
             rcases hu5 y hy with h | h
             ·exact HU3V.out y h
             ·exact .inr (Nat.le_trans HKV.out.size h))
            clear hj5 hk5 hu5
            go_wp2
            go_roundw
            case rel => exact ⟨q + 1, l3 ++ [(c, T3)], U4, hql, by go_num, HJ5.out, HU5.out, HK5.out, HNEW.out⟩
            case measure => simp [intOf]; omega
          ·have hff2 : ¬ ff = ef := fun h => hff h.symm
           have HTC := gI (show (((t1 : Int), (t1 : Int), 1) : Tri) = T3 by rw [HT3.out]; simp [dTo, E4.mk.injEq, *]; try omega)
           go_wp2_with fail
           refine (HGO.out _ _ _ HTC.out).mono ?_
           rintro e w5 ⟨rfl, U4, hj5, hk5, hu5⟩
           have HJ5 := gI hj5
           have HK5 := gI (HKV.out.after hk5 HU3V.out)
           have HU5 := gI (show ∀ y ∈ U4, y ∈ U2 ∨ V.heap.size ≤ y from fun y hy => by
            rcases hu5 y hy with h | h
            ·exact HU3V.out y h
            ·exact .inr (Nat.le_trans HKV.out.size h))
           clear hj5 hk5 hu5
           go_wp2
           go_roundw
           case rel => exact ⟨q + 1, l3 ++ [(c, T3)], U4, hql, by go_num, HJ5.out, HU5.out, HK5.out, HNEW.out⟩
           case measure => simp [intOf]; omega
         ·have ho2 : ¬ t1 < t2 := by omega
          have ho3 : ¬ t1 = t2 := by omega
          have ho4 : ¬ t2 = t1 := by omega
          by_cases hff : ef = ff
          ·subst hff
           have HTC := gI (show (((t2 : Int), (t1 : Int), 1) : Tri) = T3 by rw [HT3.out]; simp [dTo, E4.mk.injEq, *]; try omega)
           go_wp2_with fail
           refine (HGO.out _ _ _ HTC.out).mono ?_
           rintro e w5 ⟨rfl, U4, hj5, hk5, hu5⟩
           have HJ5 := gI hj5
           have HK5 := gI (HKV.out.after hk5 HU3V.out)
           have HU5 := gI (show ∀ y ∈ U4, y ∈ U2 ∨ V.heap.size ≤ y from fun y hy => by
            rcases hu5 y hy with h | h
            ·exact HU3V.out y h
            ·exact .inr (Nat.le_trans HKV.out.size h))
           clear hj5 hk5 hu5
           go_wp2
           go_roundw
           case rel => exact ⟨q + 1, l3 ++ [(c, T3)], U4, hql, by go_num, HJ5.out, HU5.out, HK5.out, HNEW.out⟩
           case measure => simp [intOf]; omega
          ·have hff2 : ¬ ff = ef := fun h => hff h.symm
           have HTC := gI (show (((t2 : Int), (t1 : Int), 1) : Tri) = T3 by rw [HT3.out]; simp [dTo, E4.mk.injEq, *]; try omega)
           go_wp2_with fail
           refine (HGO.out _ _ _ HTC.out).mono ?_
           rintro e w5 ⟨rfl, U4, hj5, hk5, hu5⟩
           have HJ5 := gI hj5
           have HK5 := gI (HKV.out.after hk5 HU3V.out)
           have HU5 := gI (show ∀ y ∈ U4, y ∈ U2 ∨ V.heap.size ≤ y from fun y hy => by
            rcases hu5 y hy with h | h
            ·exact HU3V.out y h
            ·exact .inr (Nat.le_trans HKV.out.size h))
           clear hj5 hk5 hu5
           go_wp2
           go_roundw
           case rel => exact ⟨q + 1, l3 ++ [(c, T3)], U4, hql, by go_num, HJ5.out, HU5.out, HK5.out, HNEW.out⟩
           case measure => simp [intOf]; omega
      ·obtain rfl : q = L2.length := by omega
       clear hj3 hu3 hk3 hl3
       go_wp2
       go_roundw
       case rel =>
        refine ⟨p + 1, l2 ++ l3, U3, hpl, by go_num, HJ4.out, fun y hy => ?_, HKWQ.out.after HK4.out (fun y hy => ?_), fun c' t => ?_⟩
        ·rcases HU3.out y hy with h | h
         ·exact HU2.out y h
         ·exact .inr (Nat.le_trans HKWQ.out.size h)
        ·exact HU2.out y hy
        ·rw [List.mem_append, HL2.out c' t, HL3.out c' t, List.take_length, HTK.out]
         constructor
         ·rintro (⟨h1, e, he, h2⟩ | ⟨h1, h2⟩)
          ·exact ⟨h1, e, by simp [he], h2⟩
          ·exact ⟨h1, ⟨ef, t1, ek, ew⟩, by simp, h2⟩
         ·rintro ⟨h1, e, he, h2⟩
          rcases List.mem_append.1 he with he | he
          ·exact .inl ⟨h1, e, he, h2⟩
          ·simp at he
           subst he
           exact .inr ⟨h1, h2⟩
       case measure => simp [intOf]; omega
    ·obtain rfl : p = L1.length := by omega
     clear hj2 hu2 hk2 hl2
     go_wp2
     go_roundw
     case rel =>
      refine ⟨_, cnt2, l ++ l2, U2, HR2.out.keep HK3.out HMU.out.1 HMU.out.2, HJ3.out, fun y hy => ?_, HKW2.out.after HK3.out HU'X.out, fun c' t => ?_⟩
      ·rcases HU2.out y hy with h | h
       ·exact HU'.out y h
       ·exact .inr (by have := HR2.out.lt; omega)
      ·rw [List.mem_append, HL.out c' t, HL2.out c' t, List.take_length]
       constructor
       ·rintro (⟨h1, h2⟩ | ⟨rfl, e, he, f, hf, h3, h4, h5⟩)
        ·exact ⟨h1, by simp [h2]⟩
        ·rw [HLL1.out] at he
         rw [HLL2.out] at hf
         obtain ⟨e1, e2, e3⟩ := mem_sel.1 he
         obtain ⟨f1, f2, f3⟩ := mem_sel.1 hf
         exact ⟨⟨e, e1, f, f1, e2, f2, e3, f3, h3, h4, h5⟩, by simp⟩
       ·rintro ⟨h1, h2⟩
        by_cases hc : c' = c
        ·subst hc
         obtain ⟨e, e1, f, f1, e2, f2, e3, f3, h3, h4, h5⟩ := h1
         exact .inr ⟨rfl, e, by rw [HLL1.out]; exact mem_sel.2 ⟨e1, e2, e3⟩, f, by rw [HLL2.out]; exact mem_sel.2 ⟨f1, f2, f3⟩, h3, h4, h5⟩
        ·exact .inl ⟨h1, by simpa [hc] using h2⟩
     case measure => rw [(HR2.out.keep HK3.out HMU.out.1 HMU.out.2).left_eq, HRG.out.left_eq]; exact HLT3.out
end Go.Proofs.YtkekenaamnhbhaaGreat
