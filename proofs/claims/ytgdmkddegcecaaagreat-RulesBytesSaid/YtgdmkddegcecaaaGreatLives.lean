/- The documented examples hold. No condition. -/
import Derived.Test.YtgdmkddegcecaaaGreatLivesB
import Derived.Test.YtgdmkddegcecaaaGreatBytesWalk
namespace Go.Proofs.YtgdmkddegcecaaaGreat
open Go.RowKit

set_option maxRecDepth 100000 in
set_option maxHeartbeats 16000000 in
theorem lives_any : Lives := by
  intro w
  go_enter Tryz.func15, Tryz.ntmps15
  go_wp2_with fail
  refine Calls.mono (letter_any 97 97 w) ?_
  rintro e w1 ⟨a, rfl, hta, hoa, hka⟩
  obtain ⟨op1, sa1, sc1, set1, ka1, kc1, kids1, mn1, mx1, mode1, n1, neg1⟩ := a
  simp only [MRe.val]
  have b1 : BoxIs (w1.alloc (.cells #[.int .i64 op1, .slice sa1 set1.length sc1, .slice ka1 kids1.length kc1, .int .i64 mn1, .int .i64 mx1, .int .i64 mode1, .int .i64 n1, .bool neg1] 64)) w1.heap.size lA := box_late hoa hta rfl
  have B1 := Lib.hid b1
  have K1 := Lib.hid (hka.alloc (.cells #[.int .i64 op1, .slice sa1 set1.length sc1, .slice ka1 kids1.length kc1, .int .i64 mn1, .int .i64 mx1, .int .i64 mode1, .int .i64 n1, .bool neg1] 64))
  clear b1 hta hoa hka
  go_wp2_with fail
  refine Calls.mono (letter_any 98 98 _) ?_
  rintro e w2 ⟨a, rfl, hta, hoa, hka⟩
  obtain ⟨op2, sa2, sc2, set2, ka2, kc2, kids2, mn2, mx2, mode2, n2, neg2⟩ := a
  simp only [MRe.val]
  have b1 : BoxIs (w2.alloc (.cells #[.int .i64 op2, .slice sa2 set2.length sc2, .slice ka2 kids2.length kc2, .int .i64 mn2, .int .i64 mx2, .int .i64 mode2, .int .i64 n2, .bool neg2] 64)) w2.heap.size lB := box_late hoa hta rfl
  have B2 := Lib.hid b1
  have B1 := Lib.hid (B1.out.keep (hka.alloc (.cells #[.int .i64 op2, .slice sa2 set2.length sc2, .slice ka2 kids2.length kc2, .int .i64 mn2, .int .i64 mx2, .int .i64 mode2, .int .i64 n2, .bool neg2] 64)))
  have K2 := Lib.hid (K1.out.trans (hka.alloc (.cells #[.int .i64 op2, .slice sa2 set2.length sc2, .slice ka2 kids2.length kc2, .int .i64 mn2, .int .i64 mx2, .int .i64 mode2, .int .i64 n2, .bool neg2] 64)))
  clear b1 hta hoa hka
  go_wp2_with fail
  refine Calls.mono (letter_any 99 99 _) ?_
  rintro e w3 ⟨a, rfl, hta, hoa, hka⟩
  obtain ⟨op3, sa3, sc3, set3, ka3, kc3, kids3, mn3, mx3, mode3, n3, neg3⟩ := a
  simp only [MRe.val]
  have b1 : BoxIs (w3.alloc (.cells #[.int .i64 op3, .slice sa3 set3.length sc3, .slice ka3 kids3.length kc3, .int .i64 mn3, .int .i64 mx3, .int .i64 mode3, .int .i64 n3, .bool neg3] 64)) w3.heap.size lC := box_late hoa hta rfl
  have B3 := Lib.hid b1
  have B2 := Lib.hid (B2.out.keep (hka.alloc (.cells #[.int .i64 op3, .slice sa3 set3.length sc3, .slice ka3 kids3.length kc3, .int .i64 mn3, .int .i64 mx3, .int .i64 mode3, .int .i64 n3, .bool neg3] 64)))
  have B1 := Lib.hid (B1.out.keep (hka.alloc (.cells #[.int .i64 op3, .slice sa3 set3.length sc3, .slice ka3 kids3.length kc3, .int .i64 mn3, .int .i64 mx3, .int .i64 mode3, .int .i64 n3, .bool neg3] 64)))
  have K3' := Lib.hid (K2.out.trans (hka.alloc (.cells #[.int .i64 op3, .slice sa3 set3.length sc3, .slice ka3 kids3.length kc3, .int .i64 mn3, .int .i64 mx3, .int .i64 mode3, .int .i64 n3, .bool neg3] 64)))
  clear b1 hta hoa hka
  go_upto_region 4 with fail
  obtain ⟨P1, hP1⟩ : ∃ P1, P1 = w1.heap.size := ⟨_, rfl⟩
  obtain ⟨P2, hP2⟩ : ∃ P2, P2 = w2.heap.size := ⟨_, rfl⟩
  obtain ⟨P3, hP3⟩ : ∃ P3, P3 = w3.heap.size := ⟨_, rfl⟩
  obtain ⟨W0, hW0⟩ : ∃ W0, W0 = w3.alloc (.cells #[.int .i64 op3, .slice sa3 set3.length sc3, .slice ka3 kids3.length kc3, .int .i64 mn3, .int .i64 mx3, .int .i64 mode3, .int .i64 n3, .bool neg3] 64) := ⟨_, rfl⟩
  rw [← hW0, ← hP1, ← hP2, ← hP3]
  rw [← hW0] at B1 B2 B3 K3'
  rw [← hP1] at B1
  rw [← hP2] at B2
  rw [← hP3] at B3
  clear hP1 hP2 hP3 hW0 K1 K2
  obtain ⟨x1, hx1, t1, o1⟩ := B1.out
  obtain ⟨x2, hx2, t2, o2⟩ := B2.out
  obtain ⟨x3, hx3, t3, o3⟩ := B3.out
  obtain ⟨opa, saa, sca, seta, kaa, kca, kidsa, mna, mxa, modea, na, nega⟩ := x1
  obtain ⟨opb, sab, scb, setb, kab, kcb, kidsb, mnb, mxb, modeb, nb, negb⟩ := x2
  obtain ⟨opc, sac, scc, setc, kac, kcc, kidsc, mnc, mxc, modec, nc, negc⟩ := x3
  have TA := Lib.hid t1
  have TB := Lib.hid t2
  have TC := Lib.hid t3
  have OA := Lib.hid o1
  have OB := Lib.hid o2
  have OC := Lib.hid o3
  obtain ⟨a0, a1, a2, a3, a4, a5, a6, a7⟩ := hx1.cells0
  obtain ⟨b0, b1, b2, b3, b4, b5, b6, b7⟩ := hx2.cells0
  obtain ⟨c0, c1, c2, c3, c4, c5, c6, c7⟩ := hx3.cells0
  clear hx1 hx2 hx3 t1 t2 t3 o1 o2 o3
  go_cut [4, 5] from 18 to 29 (fun s4 s5 wx => ∃ (g : Nat) (V : World), V = wx ∧ s4 = .pointer (some ⟨g, 0, none⟩) ∧ s5 = .bool true ∧ BoxIs V g (mkT 2 [lA, mkT 3 [lB, lC]]) ∧ Keeps [] W0 V)
  case first =>
    refine wp_region_held_drew (S := fun w' => (w'.cell? ⟨P1, 0, none⟩ = some (.int .i64 opa) ∧ w'.cell? ⟨P1, 1, none⟩ = some (.slice saa seta.length sca) ∧ w'.cell? ⟨P1, 2, none⟩ = some (.slice kaa kidsa.length kca) ∧ w'.cell? ⟨P1, 3, none⟩ = some (.int .i64 mna) ∧ w'.cell? ⟨P1, 4, none⟩ = some (.int .i64 mxa) ∧ w'.cell? ⟨P1, 5, none⟩ = some (.int .i64 modea) ∧ w'.cell? ⟨P1, 6, none⟩ = some (.int .i64 na) ∧ w'.cell? ⟨P1, 7, none⟩ = some (.bool nega)) ∧ (w'.cell? ⟨P2, 0, none⟩ = some (.int .i64 opb) ∧ w'.cell? ⟨P2, 1, none⟩ = some (.slice sab setb.length scb) ∧ w'.cell? ⟨P2, 2, none⟩ = some (.slice kab kidsb.length kcb) ∧ w'.cell? ⟨P2, 3, none⟩ = some (.int .i64 mnb) ∧ w'.cell? ⟨P2, 4, none⟩ = some (.int .i64 mxb) ∧ w'.cell? ⟨P2, 5, none⟩ = some (.int .i64 modeb) ∧ w'.cell? ⟨P2, 6, none⟩ = some (.int .i64 nb) ∧ w'.cell? ⟨P2, 7, none⟩ = some (.bool negb)) ∧ (w'.cell? ⟨P3, 0, none⟩ = some (.int .i64 opc) ∧ w'.cell? ⟨P3, 1, none⟩ = some (.slice sac setc.length scc) ∧ w'.cell? ⟨P3, 2, none⟩ = some (.slice kac kidsc.length kcc) ∧ w'.cell? ⟨P3, 3, none⟩ = some (.int .i64 mnc) ∧ w'.cell? ⟨P3, 4, none⟩ = some (.int .i64 mxc) ∧ w'.cell? ⟨P3, 5, none⟩ = some (.int .i64 modec) ∧ w'.cell? ⟨P3, 6, none⟩ = some (.int .i64 nc) ∧ w'.cell? ⟨P3, 7, none⟩ = some (.bool negc))) (by kernel_rfl) ⟨⟨((Keeps.refl [] W0).drew).cell a0 (by simp), ((Keeps.refl [] W0).drew).cell a1 (by simp), ((Keeps.refl [] W0).drew).cell a2 (by simp), ((Keeps.refl [] W0).drew).cell a3 (by simp), ((Keeps.refl [] W0).drew).cell a4 (by simp), ((Keeps.refl [] W0).drew).cell a5 (by simp), ((Keeps.refl [] W0).drew).cell a6 (by simp), ((Keeps.refl [] W0).drew).cell a7 (by simp)⟩, ⟨((Keeps.refl [] W0).drew).cell b0 (by simp), ((Keeps.refl [] W0).drew).cell b1 (by simp), ((Keeps.refl [] W0).drew).cell b2 (by simp), ((Keeps.refl [] W0).drew).cell b3 (by simp), ((Keeps.refl [] W0).drew).cell b4 (by simp), ((Keeps.refl [] W0).drew).cell b5 (by simp), ((Keeps.refl [] W0).drew).cell b6 (by simp), ((Keeps.refl [] W0).drew).cell b7 (by simp)⟩, ⟨((Keeps.refl [] W0).drew).cell c0 (by simp), ((Keeps.refl [] W0).drew).cell c1 (by simp), ((Keeps.refl [] W0).drew).cell c2 (by simp), ((Keeps.refl [] W0).drew).cell c3 (by simp), ((Keeps.refl [] W0).drew).cell c4 (by simp), ((Keeps.refl [] W0).drew).cell c5 (by simp), ((Keeps.refl [] W0).drew).cell c6 (by simp), ((Keeps.refl [] W0).drew).cell c7 (by simp)⟩⟩ (fun hHeld => ?_)
    refine take_on (i := 0) (v := ?_) rfl (by kernel_rfl) (by kernel_rfl) (by kernel_rfl) (fun _ _ _ h => h) (by rfl) (by assumption) ?_ ?_
    rotate_left
    · ((intro w hSw; (try dsimp only at hSw); go_simp <;> with_reducible rfl); done)
    try simp only [Act.put, List.setIfInBounds_toArray, List.set_cons_zero, List.set_cons_succ]
    refine take_on (i := 1) (v := ?_) rfl (by kernel_rfl) (by kernel_rfl) (by kernel_rfl) (fun _ _ _ h => h) (by rfl) (by assumption) ?_ ?_
    rotate_left
    · ((intro w hSw; (try dsimp only at hSw); go_simp <;> with_reducible rfl); done)
    try simp only [Act.put, List.setIfInBounds_toArray, List.set_cons_zero, List.set_cons_succ]
    refine take_on (i := 3) (v := ?_) rfl (by kernel_rfl) (by kernel_rfl) (by kernel_rfl) (fun _ _ _ h => h) (by rfl) (by assumption) ?_ ?_
    rotate_left
    · ((intro w hSw; (try dsimp only at hSw); go_simp <;> with_reducible rfl); done)
    try simp only [Act.put, List.setIfInBounds_toArray, List.set_cons_zero, List.set_cons_succ]
    refine take_on (i := 4) (v := ?_) rfl (by kernel_rfl) (by kernel_rfl) (by kernel_rfl) (fun _ _ _ h => h) (by rfl) (by assumption) ?_ ?_
    rotate_left
    · ((intro w hSw; (try dsimp only at hSw); go_simp <;> with_reducible rfl); done)
    try simp only [Act.put, List.setIfInBounds_toArray, List.set_cons_zero, List.set_cons_succ]
    refine branch_two (i := 2) (j := 12) rfl rfl (by kernel_rfl) (by rfl) (by rfl) (fun K hK => ?_) (fun K hK => ?_)
    · go_simp
      refine Calls.mono (lcat_any (.node opa saa sca seta kaa kca kidsa mna mxa modea na nega) (.node opb sab scb setb kab kcb kidsb mnb mxb modeb nb negb) _ (OA.out.keep ((Keeps.refl [] W0).drew)) (OB.out.keep ((Keeps.refl [] W0).drew))) ?_
      rintro e v1 ⟨m4, rfl, ht4, ho4, hk1⟩
      have K1 := Lib.hid (((Keeps.refl [] W0).drew).trans hk1)
      obtain ⟨r4, hr4⟩ : ∃ r4, r4 = m4 := ⟨_, rfl⟩
      rw [← hr4] at ht4 ho4
      have R4 := Lib.hid hr4
      rw [TA.out, TB.out] at ht4
      have TT4 := Lib.hid ht4
      have OO4 := Lib.hid ho4
      clear hr4 ht4 ho4 
      obtain ⟨op4, sa4, sc4, set4, ka4, kc4, kids4, mn4, mx4, mode4, n4, neg4⟩ := m4
      simp only [MRe.val]
      clear hk1
      refine hK.out _ _ (⟨⟨K1.out.cell a0 (by simp), K1.out.cell a1 (by simp), K1.out.cell a2 (by simp), K1.out.cell a3 (by simp), K1.out.cell a4 (by simp), K1.out.cell a5 (by simp), K1.out.cell a6 (by simp), K1.out.cell a7 (by simp)⟩, ⟨K1.out.cell b0 (by simp), K1.out.cell b1 (by simp), K1.out.cell b2 (by simp), K1.out.cell b3 (by simp), K1.out.cell b4 (by simp), K1.out.cell b5 (by simp), K1.out.cell b6 (by simp), K1.out.cell b7 (by simp)⟩, ⟨K1.out.cell c0 (by simp), K1.out.cell c1 (by simp), K1.out.cell c2 (by simp), K1.out.cell c3 (by simp), K1.out.cell c4 (by simp), K1.out.cell c5 (by simp), K1.out.cell c6 (by simp), K1.out.cell c7 (by simp)⟩⟩) (fun hHeld => ?_)
      clear hK K
      try simp only [Act.put, List.setIfInBounds_toArray, List.set_cons_zero, List.set_cons_succ]
      refine branch_two (i := 5) (j := 12) rfl rfl (by kernel_rfl) (by rfl) (by rfl) (fun K hK => ?_) (fun K hK => ?_)
      · go_simp
        refine Calls.mono (lcat_any (.node opa saa sca seta kaa kca kidsa mna mxa modea na nega) (.node opc sac scc setc kac kcc kidsc mnc mxc modec nc negc) _ (OA.out.keep K1.out) (OC.out.keep K1.out)) ?_
        rintro e v2 ⟨m5, rfl, ht5, ho5, hk2⟩
        have K2 := Lib.hid (K1.out.trans hk2)
        obtain ⟨r5, hr5⟩ : ∃ r5, r5 = m5 := ⟨_, rfl⟩
        rw [← hr5] at ht5 ho5
        have R5 := Lib.hid hr5
        rw [TA.out, TC.out] at ht5
        have TT5 := Lib.hid ht5
        have OO5 := Lib.hid ho5
        clear hr5 ht5 ho5 
        obtain ⟨op5, sa5, sc5, set5, ka5, kc5, kids5, mn5, mx5, mode5, n5, neg5⟩ := m5
        simp only [MRe.val]
        have OO4 := Lib.hid (OO4.out.keep hk2)
        clear hk2
        refine hK.out _ _ (⟨⟨K2.out.cell a0 (by simp), K2.out.cell a1 (by simp), K2.out.cell a2 (by simp), K2.out.cell a3 (by simp), K2.out.cell a4 (by simp), K2.out.cell a5 (by simp), K2.out.cell a6 (by simp), K2.out.cell a7 (by simp)⟩, ⟨K2.out.cell b0 (by simp), K2.out.cell b1 (by simp), K2.out.cell b2 (by simp), K2.out.cell b3 (by simp), K2.out.cell b4 (by simp), K2.out.cell b5 (by simp), K2.out.cell b6 (by simp), K2.out.cell b7 (by simp)⟩, ⟨K2.out.cell c0 (by simp), K2.out.cell c1 (by simp), K2.out.cell c2 (by simp), K2.out.cell c3 (by simp), K2.out.cell c4 (by simp), K2.out.cell c5 (by simp), K2.out.cell c6 (by simp), K2.out.cell c7 (by simp)⟩⟩) (fun hHeld => ?_)
        clear hK K
        try simp only [Act.put, List.setIfInBounds_toArray, List.set_cons_zero, List.set_cons_succ]
        refine branch_two (i := 6) (j := 12) rfl rfl (by kernel_rfl) (by rfl) (by rfl) (fun K hK => ?_) (fun K hK => ?_)
        · go_simp
          have K3 := Lib.hid (K2.out.alloc (.cells #[.int .i64 op4, .slice sa4 set4.length sc4, .slice ka4 kids4.length kc4, .int .i64 mn4, .int .i64 mx4, .int .i64 mode4, .int .i64 n4, .bool neg4, .int .i64 op5, .slice sa5 set5.length sc5, .slice ka5 kids5.length kc5, .int .i64 mn5, .int .i64 mx5, .int .i64 mode5, .int .i64 n5, .bool neg5] 64))
          have HR := Lib.hid (show (v2.alloc (.cells #[.int .i64 op4, .slice sa4 set4.length sc4, .slice ka4 kids4.length kc4, .int .i64 mn4, .int .i64 mx4, .int .i64 mode4, .int .i64 n4, .bool neg4, .int .i64 op5, .slice sa5 set5.length sc5, .slice ka5 kids5.length kc5, .int .i64 mn5, .int .i64 mx5, .int .i64 mode5, .int .i64 n5, .bool neg5] 64)).heap[v2.heap.size]? = some (.cells #[.int .i64 op4, .slice sa4 set4.length sc4, .slice ka4 kids4.length kc4, .int .i64 mn4, .int .i64 mx4, .int .i64 mode4, .int .i64 n4, .bool neg4, .int .i64 op5, .slice sa5 set5.length sc5, .slice ka5 kids5.length kc5, .int .i64 mn5, .int .i64 mx5, .int .i64 mode5, .int .i64 n5, .bool neg5] 64 (0, 0)) from by have h := heap_alloc_new v2 (.cells #[.int .i64 op4, .slice sa4 set4.length sc4, .slice ka4 kids4.length kc4, .int .i64 mn4, .int .i64 mx4, .int .i64 mode4, .int .i64 n4, .bool neg4, .int .i64 op5, .slice sa5 set5.length sc5, .slice ka5 kids5.length kc5, .int .i64 mn5, .int .i64 mx5, .int .i64 mode5, .int .i64 n5, .bool neg5] 64); simpa using h)
          have OO4 := Lib.hid (OO4.out.keep (Keeps.a1 _ (.cells #[.int .i64 op4, .slice sa4 set4.length sc4, .slice ka4 kids4.length kc4, .int .i64 mn4, .int .i64 mx4, .int .i64 mode4, .int .i64 n4, .bool neg4, .int .i64 op5, .slice sa5 set5.length sc5, .slice ka5 kids5.length kc5, .int .i64 mn5, .int .i64 mx5, .int .i64 mode5, .int .i64 n5, .bool neg5] 64)))
          have OO5 := Lib.hid (OO5.out.keep (Keeps.a1 _ (.cells #[.int .i64 op4, .slice sa4 set4.length sc4, .slice ka4 kids4.length kc4, .int .i64 mn4, .int .i64 mx4, .int .i64 mode4, .int .i64 n4, .bool neg4, .int .i64 op5, .slice sa5 set5.length sc5, .slice ka5 kids5.length kc5, .int .i64 mn5, .int .i64 mx5, .int .i64 mode5, .int .i64 n5, .bool neg5] 64)))
          refine hK.out _ _ (⟨⟨K3.out.cell a0 (by simp), K3.out.cell a1 (by simp), K3.out.cell a2 (by simp), K3.out.cell a3 (by simp), K3.out.cell a4 (by simp), K3.out.cell a5 (by simp), K3.out.cell a6 (by simp), K3.out.cell a7 (by simp)⟩, ⟨K3.out.cell b0 (by simp), K3.out.cell b1 (by simp), K3.out.cell b2 (by simp), K3.out.cell b3 (by simp), K3.out.cell b4 (by simp), K3.out.cell b5 (by simp), K3.out.cell b6 (by simp), K3.out.cell b7 (by simp)⟩, ⟨K3.out.cell c0 (by simp), K3.out.cell c1 (by simp), K3.out.cell c2 (by simp), K3.out.cell c3 (by simp), K3.out.cell c4 (by simp), K3.out.cell c5 (by simp), K3.out.cell c6 (by simp), K3.out.cell c7 (by simp)⟩⟩) (fun hHeld => ?_)
          clear hK K
          try simp only [Act.put, List.setIfInBounds_toArray, List.set_cons_zero, List.set_cons_succ]
          refine take_on (i := 7) (v := ?_) rfl (by kernel_rfl) (by kernel_rfl) (by kernel_rfl) (fun _ _ _ h => h) (by rfl) (by assumption) ?_ ?_
          rotate_left
          · ((intro w hSw; (try dsimp only at hSw); go_simp <;> with_reducible rfl); done)
          try simp only [Act.put, List.setIfInBounds_toArray, List.set_cons_zero, List.set_cons_succ]
          refine branch_two (i := 8) (j := 12) rfl rfl (by kernel_rfl) (by rfl) (by rfl) (fun K hK => ?_) (fun K hK => ?_)
          · go_simp
            refine Calls.mono (ap4 (.node 3 none 0 [] (some ⟨v2.heap.size, 0, none⟩) 2 [r4, r5] 0 0 0 0 false) _ (mk2_ok OO4.out OO5.out (Keeps.refl _ _) HR.out (by rw [R4.out, R5.out]; rfl)) (by simp only [MRe.tree, MRe.trees, TT4.out, TT5.out]; rfl)) ?_
            rintro e v4 ⟨m9, rfl, ht9, ho9, hk4, hf9⟩
            have K4 := Lib.hid (K3.out.trans hk4)
            obtain ⟨r9, hr9⟩ : ∃ r9, r9 = m9 := ⟨_, rfl⟩
            rw [← hr9] at ht9 ho9 hf9
            have R9 := Lib.hid hr9
            have TT9 := Lib.hid ht9
            have OO9 := Lib.hid ho9
            have FF := Lib.hid hf9
            clear hr9 ht9 ho9 hf9
            obtain ⟨op9, sa9, sc9, set9, ka9, kc9, kids9, mn9, mx9, mode9, n9, neg9⟩ := m9
            simp only [MRe.val]
            have OO4 := Lib.hid (OO4.out.keep hk4)
            have OO5 := Lib.hid (OO5.out.keep hk4)
            clear hk4
            refine hK.out _ _ (⟨⟨K4.out.cell a0 (by simp), K4.out.cell a1 (by simp), K4.out.cell a2 (by simp), K4.out.cell a3 (by simp), K4.out.cell a4 (by simp), K4.out.cell a5 (by simp), K4.out.cell a6 (by simp), K4.out.cell a7 (by simp)⟩, ⟨K4.out.cell b0 (by simp), K4.out.cell b1 (by simp), K4.out.cell b2 (by simp), K4.out.cell b3 (by simp), K4.out.cell b4 (by simp), K4.out.cell b5 (by simp), K4.out.cell b6 (by simp), K4.out.cell b7 (by simp)⟩, ⟨K4.out.cell c0 (by simp), K4.out.cell c1 (by simp), K4.out.cell c2 (by simp), K4.out.cell c3 (by simp), K4.out.cell c4 (by simp), K4.out.cell c5 (by simp), K4.out.cell c6 (by simp), K4.out.cell c7 (by simp)⟩⟩) (fun hHeld => ?_)
            clear hK K
            try simp only [Act.put, List.setIfInBounds_toArray, List.set_cons_zero, List.set_cons_succ]
            refine take_on (i := 9) (v := ?_) rfl (by kernel_rfl) (by kernel_rfl) (by kernel_rfl) (fun _ _ _ h => h) (by rfl) (by assumption) ?_ ?_
            rotate_left
            · ((intro w hSw; (try dsimp only at hSw); go_simp <;> with_reducible rfl); done)
            try simp only [Act.put, List.setIfInBounds_toArray, List.set_cons_zero, List.set_cons_succ]
            refine take_on (i := 10) (v := ?_) rfl (by kernel_rfl) (by kernel_rfl) (by kernel_rfl) (fun _ _ _ h => h) (by rfl) (by assumption) ?_ ?_
            rotate_left
            · ((intro w hSw; (try dsimp only at hSw); go_simp <;> with_reducible rfl); done)
            try simp only [Act.put, List.setIfInBounds_toArray, List.set_cons_zero, List.set_cons_succ]
            refine take_on (i := 11) (v := ?_) rfl (by kernel_rfl) (by kernel_rfl) (by kernel_rfl) (fun _ _ _ h => h) (by rfl) (by assumption) ?_ ?_
            rotate_left
            · ((intro w hSw; (try dsimp only at hSw); go_simp <;> with_reducible rfl); done)
            try simp only [Act.put, List.setIfInBounds_toArray, List.set_cons_zero, List.set_cons_succ]
            refine branch_one (i := 12) rfl (by kernel_rfl) (by rfl) (fun K hK => ?_)
            go_simp
            have KA := Lib.hid (K4.out.alloc (.cells #[.int .i64 0, .slice none 0 0, .slice none 0 0, .int .i64 0, .int .i64 0, .int .i64 0, .int .i64 0, .bool false] 64))
            have hz := heap_alloc_new v4 (.cells #[.int .i64 0, .slice none 0 0, .slice none 0 0, .int .i64 0, .int .i64 0, .int .i64 0, .int .i64 0, .bool false] 64)
            obtain ⟨z0, z1, z2, z3, z4, z5, z6, z7⟩ := row_cells hz
            have zf := row_frozen hz
            clear hz
            refine hK.out _ _ (⟨⟨KA.out.cell a0 (by simp), KA.out.cell a1 (by simp), KA.out.cell a2 (by simp), KA.out.cell a3 (by simp), KA.out.cell a4 (by simp), KA.out.cell a5 (by simp), KA.out.cell a6 (by simp), KA.out.cell a7 (by simp)⟩, ⟨KA.out.cell b0 (by simp), KA.out.cell b1 (by simp), KA.out.cell b2 (by simp), KA.out.cell b3 (by simp), KA.out.cell b4 (by simp), KA.out.cell b5 (by simp), KA.out.cell b6 (by simp), KA.out.cell b7 (by simp)⟩, ⟨KA.out.cell c0 (by simp), KA.out.cell c1 (by simp), KA.out.cell c2 (by simp), KA.out.cell c3 (by simp), KA.out.cell c4 (by simp), KA.out.cell c5 (by simp), KA.out.cell c6 (by simp), KA.out.cell c7 (by simp)⟩⟩) (fun hHeld => ?_)
            clear hK K
            try simp only [Act.put, List.setIfInBounds_toArray, List.set_cons_zero, List.set_cons_succ]
            refine branch_one (i := 13) rfl (by kernel_rfl) (by rfl) (fun K hK => ?_)
            go_simp
            have KB := Lib.hid (K4.out.alloc (.cells #[.int .i64 op9, .slice sa9 set9.length sc9, .slice ka9 kids9.length kc9, .int .i64 mn9, .int .i64 mx9, .int .i64 mode9, .int .i64 n9, .bool neg9] 64))
            refine hK.out _ _ (⟨⟨KB.out.cell a0 (by simp), KB.out.cell a1 (by simp), KB.out.cell a2 (by simp), KB.out.cell a3 (by simp), KB.out.cell a4 (by simp), KB.out.cell a5 (by simp), KB.out.cell a6 (by simp), KB.out.cell a7 (by simp)⟩, ⟨KB.out.cell b0 (by simp), KB.out.cell b1 (by simp), KB.out.cell b2 (by simp), KB.out.cell b3 (by simp), KB.out.cell b4 (by simp), KB.out.cell b5 (by simp), KB.out.cell b6 (by simp), KB.out.cell b7 (by simp)⟩, ⟨KB.out.cell c0 (by simp), KB.out.cell c1 (by simp), KB.out.cell c2 (by simp), KB.out.cell c3 (by simp), KB.out.cell c4 (by simp), KB.out.cell c5 (by simp), KB.out.cell c6 (by simp), KB.out.cell c7 (by simp)⟩⟩) (fun hHeld => ?_)
            clear hK K
            try simp only [Act.put, List.setIfInBounds_toArray, List.set_cons_zero, List.set_cons_succ]
            refine take_on (i := 14) (v := ?_) rfl (by kernel_rfl) (by kernel_rfl) (by kernel_rfl) (fun _ _ _ h => h) (by rfl) (by assumption) ?_ ?_
            rotate_left
            · ((intro w hSw; (try dsimp only at hSw); go_simp <;> with_reducible rfl); done)
            try simp only [Act.put, List.setIfInBounds_toArray, List.set_cons_zero, List.set_cons_succ]
            refine wpAnyH_done (by kernel_rfl) ?_ _
            go_wp2
            go_meet
            exact ⟨_, _, rfl, rfl, rfl, box_late OO9.out TT9.out (by rw [R9.out]; rfl), KB.out⟩
          · go_simp
            have K4 := Lib.hid (show Keeps [] W0 ((v2.alloc (.cells #[.int .i64 op4, .slice sa4 set4.length sc4, .slice ka4 kids4.length kc4, .int .i64 mn4, .int .i64 mx4, .int .i64 mode4, .int .i64 n4, .bool neg4, .int .i64 op5, .slice sa5 set5.length sc5, .slice ka5 kids5.length kc5, .int .i64 mn5, .int .i64 mx5, .int .i64 mode5, .int .i64 n5, .bool neg5] 64)).alloc (.cells #[.int .i64 0, .slice none 0 0, .slice none 0 0, .int .i64 0, .int .i64 0, .int .i64 0, .int .i64 0, .bool false] 64)) from (K3.out.alloc (.cells #[.int .i64 0, .slice none 0 0, .slice none 0 0, .int .i64 0, .int .i64 0, .int .i64 0, .int .i64 0, .bool false] 64)))
            have Z4 := Lib.hid (show ((v2.alloc (.cells #[.int .i64 op4, .slice sa4 set4.length sc4, .slice ka4 kids4.length kc4, .int .i64 mn4, .int .i64 mx4, .int .i64 mode4, .int .i64 n4, .bool neg4, .int .i64 op5, .slice sa5 set5.length sc5, .slice ka5 kids5.length kc5, .int .i64 mn5, .int .i64 mx5, .int .i64 mode5, .int .i64 n5, .bool neg5] 64)).alloc (.cells #[.int .i64 0, .slice none 0 0, .slice none 0 0, .int .i64 0, .int .i64 0, .int .i64 0, .int .i64 0, .bool false] 64)).heap[(v2.heap.size + 1)]? = some (.cells #[.int .i64 0, .slice none 0 0, .slice none 0 0, .int .i64 0, .int .i64 0, .int .i64 0, .int .i64 0, .bool false] 64 (0, 0)) from by have h := (heap_alloc_new (v2.alloc (.cells #[.int .i64 op4, .slice sa4 set4.length sc4, .slice ka4 kids4.length kc4, .int .i64 mn4, .int .i64 mx4, .int .i64 mode4, .int .i64 n4, .bool neg4, .int .i64 op5, .slice sa5 set5.length sc5, .slice ka5 kids5.length kc5, .int .i64 mn5, .int .i64 mx5, .int .i64 mode5, .int .i64 n5, .bool neg5] 64)) (.cells #[.int .i64 0, .slice none 0 0, .slice none 0 0, .int .i64 0, .int .i64 0, .int .i64 0, .int .i64 0, .bool false] 64)); simpa using h)
            have GW := Lib.hid (show W0.heap.size ≤ (v2.heap.size + 1) from by have h := K3.out.size; simpa using h)
            have OO4 := Lib.hid (OO4.out.keep (Keeps.a1 _ (.cells #[.int .i64 0, .slice none 0 0, .slice none 0 0, .int .i64 0, .int .i64 0, .int .i64 0, .int .i64 0, .bool false] 64)))
            have OO5 := Lib.hid (OO5.out.keep (Keeps.a1 _ (.cells #[.int .i64 0, .slice none 0 0, .slice none 0 0, .int .i64 0, .int .i64 0, .int .i64 0, .int .i64 0, .bool false] 64)))
            have HR := Lib.hid ((Keeps.a1 _ (.cells #[.int .i64 0, .slice none 0 0, .slice none 0 0, .int .i64 0, .int .i64 0, .int .i64 0, .int .i64 0, .bool false] 64)).heap HR.out (by simp))
            refine hK.out _ _ (⟨⟨K4.out.cell a0 (by simp), K4.out.cell a1 (by simp), K4.out.cell a2 (by simp), K4.out.cell a3 (by simp), K4.out.cell a4 (by simp), K4.out.cell a5 (by simp), K4.out.cell a6 (by simp), K4.out.cell a7 (by simp)⟩, ⟨K4.out.cell b0 (by simp), K4.out.cell b1 (by simp), K4.out.cell b2 (by simp), K4.out.cell b3 (by simp), K4.out.cell b4 (by simp), K4.out.cell b5 (by simp), K4.out.cell b6 (by simp), K4.out.cell b7 (by simp)⟩, ⟨K4.out.cell c0 (by simp), K4.out.cell c1 (by simp), K4.out.cell c2 (by simp), K4.out.cell c3 (by simp), K4.out.cell c4 (by simp), K4.out.cell c5 (by simp), K4.out.cell c6 (by simp), K4.out.cell c7 (by simp)⟩⟩) (fun hHeld => ?_)
            clear hK K
            try simp only [Act.put, List.setIfInBounds_toArray, List.set_cons_zero, List.set_cons_succ]
            refine branch_one (i := 8) rfl (by kernel_rfl) (by rfl) (fun K hK => ?_)
            go_simp
            refine Calls.mono (ap4 (.node 3 none 0 [] (some ⟨v2.heap.size, 0, none⟩) 2 [r4, r5] 0 0 0 0 false) _ (mk2_ok OO4.out OO5.out (Keeps.refl _ _) HR.out (by rw [R4.out, R5.out]; rfl)) (by simp only [MRe.tree, MRe.trees, TT4.out, TT5.out]; rfl)) ?_
            rintro e v5 ⟨m9, rfl, ht9, ho9, hk5, hf9⟩
            have K5 := Lib.hid (K4.out.trans hk5)
            have Z5 := Lib.hid (hk5.heap Z4.out (by simp))
            have LT := Lib.hid (lt_of_block Z4.out)
            obtain ⟨r9, hr9⟩ : ∃ r9, r9 = m9 := ⟨_, rfl⟩
            rw [← hr9] at ht9 ho9 hf9
            have R9 := Lib.hid hr9
            have TT9 := Lib.hid ht9
            have OO9 := Lib.hid ho9
            have FF := Lib.hid hf9
            clear hr9 ht9 ho9 hf9
            obtain ⟨op9, sa9, sc9, set9, ka9, kc9, kids9, mn9, mx9, mode9, n9, neg9⟩ := m9
            simp only [MRe.val]
            have OO4 := Lib.hid (OO4.out.keep hk5)
            have OO5 := Lib.hid (OO5.out.keep hk5)
            clear hk5
            refine hK.out _ _ (⟨⟨K5.out.cell a0 (by simp), K5.out.cell a1 (by simp), K5.out.cell a2 (by simp), K5.out.cell a3 (by simp), K5.out.cell a4 (by simp), K5.out.cell a5 (by simp), K5.out.cell a6 (by simp), K5.out.cell a7 (by simp)⟩, ⟨K5.out.cell b0 (by simp), K5.out.cell b1 (by simp), K5.out.cell b2 (by simp), K5.out.cell b3 (by simp), K5.out.cell b4 (by simp), K5.out.cell b5 (by simp), K5.out.cell b6 (by simp), K5.out.cell b7 (by simp)⟩, ⟨K5.out.cell c0 (by simp), K5.out.cell c1 (by simp), K5.out.cell c2 (by simp), K5.out.cell c3 (by simp), K5.out.cell c4 (by simp), K5.out.cell c5 (by simp), K5.out.cell c6 (by simp), K5.out.cell c7 (by simp)⟩⟩) (fun hHeld => ?_)
            clear hK K
            try simp only [Act.put, List.setIfInBounds_toArray, List.set_cons_zero, List.set_cons_succ]
            refine take_on (i := 9) (v := ?_) rfl (by kernel_rfl) (by kernel_rfl) (by kernel_rfl) (fun _ _ _ h => h) (by rfl) (by assumption) ?_ ?_
            rotate_left
            · ((intro w hSw; (try dsimp only at hSw); go_simp <;> with_reducible rfl); done)
            try simp only [Act.put, List.setIfInBounds_toArray, List.set_cons_zero, List.set_cons_succ]
            refine take_on (i := 10) (v := ?_) rfl (by kernel_rfl) (by kernel_rfl) (by kernel_rfl) (fun _ _ _ h => h) (by rfl) (by assumption) ?_ ?_
            rotate_left
            · ((intro w hSw; (try dsimp only at hSw); go_simp <;> with_reducible rfl); done)
            try simp only [Act.put, List.setIfInBounds_toArray, List.set_cons_zero, List.set_cons_succ]
            refine take_on (i := 11) (v := ?_) rfl (by kernel_rfl) (by kernel_rfl) (by kernel_rfl) (fun _ _ _ h => h) (by rfl) (by assumption) ?_ ?_
            rotate_left
            · ((intro w hSw; (try dsimp only at hSw); go_simp <;> with_reducible rfl); done)
            try simp only [Act.put, List.setIfInBounds_toArray, List.set_cons_zero, List.set_cons_succ]
            obtain ⟨z0, z1, z2, z3, z4, z5, z6, z7⟩ := row_cells Z5.out
            have zf := row_frozen Z5.out
            refine branch_one (i := 13) rfl (by kernel_rfl) (by rfl) (fun K hK => ?_)
            go_simp
            have KB := Lib.hid (K5.out.after (set8_keeps v5 (v2.heap.size + 1) (.int .i64 op9) (.slice sa9 set9.length sc9) (.slice ka9 kids9.length kc9) (.int .i64 mn9) (.int .i64 mx9) (.int .i64 mode9) (.int .i64 n9) (.bool neg9)) (by intro x hx; simp only [List.mem_cons, List.not_mem_nil, or_false] at hx; subst hx; exact .inr GW.out))
            refine hK.out _ _ (⟨⟨KB.out.cell a0 (by simp), KB.out.cell a1 (by simp), KB.out.cell a2 (by simp), KB.out.cell a3 (by simp), KB.out.cell a4 (by simp), KB.out.cell a5 (by simp), KB.out.cell a6 (by simp), KB.out.cell a7 (by simp)⟩, ⟨KB.out.cell b0 (by simp), KB.out.cell b1 (by simp), KB.out.cell b2 (by simp), KB.out.cell b3 (by simp), KB.out.cell b4 (by simp), KB.out.cell b5 (by simp), KB.out.cell b6 (by simp), KB.out.cell b7 (by simp)⟩, ⟨KB.out.cell c0 (by simp), KB.out.cell c1 (by simp), KB.out.cell c2 (by simp), KB.out.cell c3 (by simp), KB.out.cell c4 (by simp), KB.out.cell c5 (by simp), KB.out.cell c6 (by simp), KB.out.cell c7 (by simp)⟩⟩) (fun hHeld => ?_)
            clear hK K
            try simp only [Act.put, List.setIfInBounds_toArray, List.set_cons_zero, List.set_cons_succ]
            refine take_on (i := 14) (v := ?_) rfl (by kernel_rfl) (by kernel_rfl) (by kernel_rfl) (fun _ _ _ h => h) (by rfl) (by assumption) ?_ ?_
            rotate_left
            · ((intro w hSw; (try dsimp only at hSw); go_simp <;> with_reducible rfl); done)
            try simp only [Act.put, List.setIfInBounds_toArray, List.set_cons_zero, List.set_cons_succ]
            refine wpAnyH_done (by kernel_rfl) ?_ _
            go_wp2
            go_meet
            exact ⟨_, _, rfl, rfl, rfl, box_early (by rw [← R9.out]; exact OO9.out) (by rw [← R9.out]; exact TT9.out) Z5.out (by rw [← R9.out]; intro h; have h1 := FF.out _ h; have h2 := LT.out; omega), KB.out⟩
        · go_simp
          have K3 := Lib.hid (show Keeps [] W0 (v2.alloc (.cells #[.int .i64 0, .slice none 0 0, .slice none 0 0, .int .i64 0, .int .i64 0, .int .i64 0, .int .i64 0, .bool false] 64)) from (K2.out.alloc (.cells #[.int .i64 0, .slice none 0 0, .slice none 0 0, .int .i64 0, .int .i64 0, .int .i64 0, .int .i64 0, .bool false] 64)))
          have Z3 := Lib.hid (show (v2.alloc (.cells #[.int .i64 0, .slice none 0 0, .slice none 0 0, .int .i64 0, .int .i64 0, .int .i64 0, .int .i64 0, .bool false] 64)).heap[v2.heap.size]? = some (.cells #[.int .i64 0, .slice none 0 0, .slice none 0 0, .int .i64 0, .int .i64 0, .int .i64 0, .int .i64 0, .bool false] 64 (0, 0)) from by have h := (heap_alloc_new v2 (.cells #[.int .i64 0, .slice none 0 0, .slice none 0 0, .int .i64 0, .int .i64 0, .int .i64 0, .int .i64 0, .bool false] 64)); simpa using h)
          have GW := Lib.hid (show W0.heap.size ≤ v2.heap.size from by have h := K2.out.size; simpa using h)
          have OO4 := Lib.hid (OO4.out.keep (Keeps.a1 _ (.cells #[.int .i64 0, .slice none 0 0, .slice none 0 0, .int .i64 0, .int .i64 0, .int .i64 0, .int .i64 0, .bool false] 64)))
          have OO5 := Lib.hid (OO5.out.keep (Keeps.a1 _ (.cells #[.int .i64 0, .slice none 0 0, .slice none 0 0, .int .i64 0, .int .i64 0, .int .i64 0, .int .i64 0, .bool false] 64)))
          refine hK.out _ _ (⟨⟨K3.out.cell a0 (by simp), K3.out.cell a1 (by simp), K3.out.cell a2 (by simp), K3.out.cell a3 (by simp), K3.out.cell a4 (by simp), K3.out.cell a5 (by simp), K3.out.cell a6 (by simp), K3.out.cell a7 (by simp)⟩, ⟨K3.out.cell b0 (by simp), K3.out.cell b1 (by simp), K3.out.cell b2 (by simp), K3.out.cell b3 (by simp), K3.out.cell b4 (by simp), K3.out.cell b5 (by simp), K3.out.cell b6 (by simp), K3.out.cell b7 (by simp)⟩, ⟨K3.out.cell c0 (by simp), K3.out.cell c1 (by simp), K3.out.cell c2 (by simp), K3.out.cell c3 (by simp), K3.out.cell c4 (by simp), K3.out.cell c5 (by simp), K3.out.cell c6 (by simp), K3.out.cell c7 (by simp)⟩⟩) (fun hHeld => ?_)
          clear hK K
          try simp only [Act.put, List.setIfInBounds_toArray, List.set_cons_zero, List.set_cons_succ]
          refine branch_one (i := 6) rfl (by kernel_rfl) (by rfl) (fun K hK => ?_)
          go_simp
          have K4 := Lib.hid (K3.out.alloc (.cells #[.int .i64 op4, .slice sa4 set4.length sc4, .slice ka4 kids4.length kc4, .int .i64 mn4, .int .i64 mx4, .int .i64 mode4, .int .i64 n4, .bool neg4, .int .i64 op5, .slice sa5 set5.length sc5, .slice ka5 kids5.length kc5, .int .i64 mn5, .int .i64 mx5, .int .i64 mode5, .int .i64 n5, .bool neg5] 64))
          have HR := Lib.hid (show ((v2.alloc (.cells #[.int .i64 0, .slice none 0 0, .slice none 0 0, .int .i64 0, .int .i64 0, .int .i64 0, .int .i64 0, .bool false] 64)).alloc (.cells #[.int .i64 op4, .slice sa4 set4.length sc4, .slice ka4 kids4.length kc4, .int .i64 mn4, .int .i64 mx4, .int .i64 mode4, .int .i64 n4, .bool neg4, .int .i64 op5, .slice sa5 set5.length sc5, .slice ka5 kids5.length kc5, .int .i64 mn5, .int .i64 mx5, .int .i64 mode5, .int .i64 n5, .bool neg5] 64)).heap[(v2.heap.size + 1)]? = some (.cells #[.int .i64 op4, .slice sa4 set4.length sc4, .slice ka4 kids4.length kc4, .int .i64 mn4, .int .i64 mx4, .int .i64 mode4, .int .i64 n4, .bool neg4, .int .i64 op5, .slice sa5 set5.length sc5, .slice ka5 kids5.length kc5, .int .i64 mn5, .int .i64 mx5, .int .i64 mode5, .int .i64 n5, .bool neg5] 64 (0, 0)) from by have h := heap_alloc_new (v2.alloc (.cells #[.int .i64 0, .slice none 0 0, .slice none 0 0, .int .i64 0, .int .i64 0, .int .i64 0, .int .i64 0, .bool false] 64)) (.cells #[.int .i64 op4, .slice sa4 set4.length sc4, .slice ka4 kids4.length kc4, .int .i64 mn4, .int .i64 mx4, .int .i64 mode4, .int .i64 n4, .bool neg4, .int .i64 op5, .slice sa5 set5.length sc5, .slice ka5 kids5.length kc5, .int .i64 mn5, .int .i64 mx5, .int .i64 mode5, .int .i64 n5, .bool neg5] 64); simpa using h)
          have Z4 := Lib.hid (show ((v2.alloc (.cells #[.int .i64 0, .slice none 0 0, .slice none 0 0, .int .i64 0, .int .i64 0, .int .i64 0, .int .i64 0, .bool false] 64)).alloc (.cells #[.int .i64 op4, .slice sa4 set4.length sc4, .slice ka4 kids4.length kc4, .int .i64 mn4, .int .i64 mx4, .int .i64 mode4, .int .i64 n4, .bool neg4, .int .i64 op5, .slice sa5 set5.length sc5, .slice ka5 kids5.length kc5, .int .i64 mn5, .int .i64 mx5, .int .i64 mode5, .int .i64 n5, .bool neg5] 64)).heap[v2.heap.size]? = some (.cells #[.int .i64 0, .slice none 0 0, .slice none 0 0, .int .i64 0, .int .i64 0, .int .i64 0, .int .i64 0, .bool false] 64 (0, 0)) from (Keeps.a1 _ _).heap Z3.out (by simp))
          have OO4 := Lib.hid (OO4.out.keep (Keeps.a1 _ (.cells #[.int .i64 op4, .slice sa4 set4.length sc4, .slice ka4 kids4.length kc4, .int .i64 mn4, .int .i64 mx4, .int .i64 mode4, .int .i64 n4, .bool neg4, .int .i64 op5, .slice sa5 set5.length sc5, .slice ka5 kids5.length kc5, .int .i64 mn5, .int .i64 mx5, .int .i64 mode5, .int .i64 n5, .bool neg5] 64)))
          have OO5 := Lib.hid (OO5.out.keep (Keeps.a1 _ (.cells #[.int .i64 op4, .slice sa4 set4.length sc4, .slice ka4 kids4.length kc4, .int .i64 mn4, .int .i64 mx4, .int .i64 mode4, .int .i64 n4, .bool neg4, .int .i64 op5, .slice sa5 set5.length sc5, .slice ka5 kids5.length kc5, .int .i64 mn5, .int .i64 mx5, .int .i64 mode5, .int .i64 n5, .bool neg5] 64)))
          refine hK.out _ _ (⟨⟨K4.out.cell a0 (by simp), K4.out.cell a1 (by simp), K4.out.cell a2 (by simp), K4.out.cell a3 (by simp), K4.out.cell a4 (by simp), K4.out.cell a5 (by simp), K4.out.cell a6 (by simp), K4.out.cell a7 (by simp)⟩, ⟨K4.out.cell b0 (by simp), K4.out.cell b1 (by simp), K4.out.cell b2 (by simp), K4.out.cell b3 (by simp), K4.out.cell b4 (by simp), K4.out.cell b5 (by simp), K4.out.cell b6 (by simp), K4.out.cell b7 (by simp)⟩, ⟨K4.out.cell c0 (by simp), K4.out.cell c1 (by simp), K4.out.cell c2 (by simp), K4.out.cell c3 (by simp), K4.out.cell c4 (by simp), K4.out.cell c5 (by simp), K4.out.cell c6 (by simp), K4.out.cell c7 (by simp)⟩⟩) (fun hHeld => ?_)
          clear hK K
          try simp only [Act.put, List.setIfInBounds_toArray, List.set_cons_zero, List.set_cons_succ]
          refine take_on (i := 7) (v := ?_) rfl (by kernel_rfl) (by kernel_rfl) (by kernel_rfl) (fun _ _ _ h => h) (by rfl) (by assumption) ?_ ?_
          rotate_left
          · ((intro w hSw; (try dsimp only at hSw); go_simp <;> with_reducible rfl); done)
          try simp only [Act.put, List.setIfInBounds_toArray, List.set_cons_zero, List.set_cons_succ]
          refine branch_one (i := 8) rfl (by kernel_rfl) (by rfl) (fun K hK => ?_)
          go_simp
          refine Calls.mono (ap4 (.node 3 none 0 [] (some ⟨(v2.heap.size + 1), 0, none⟩) 2 [r4, r5] 0 0 0 0 false) _ (mk2_ok OO4.out OO5.out (Keeps.refl _ _) HR.out (by rw [R4.out, R5.out]; rfl)) (by simp only [MRe.tree, MRe.trees, TT4.out, TT5.out]; rfl)) ?_
          rintro e v5 ⟨m9, rfl, ht9, ho9, hk5, hf9⟩
          have K5 := Lib.hid (K4.out.trans hk5)
          have Z5 := Lib.hid (hk5.heap Z4.out (by simp))
          have LT := Lib.hid (lt_of_block Z4.out)
          obtain ⟨r9, hr9⟩ : ∃ r9, r9 = m9 := ⟨_, rfl⟩
          rw [← hr9] at ht9 ho9 hf9
          have R9 := Lib.hid hr9
          have TT9 := Lib.hid ht9
          have OO9 := Lib.hid ho9
          have FF := Lib.hid hf9
          clear hr9 ht9 ho9 hf9
          obtain ⟨op9, sa9, sc9, set9, ka9, kc9, kids9, mn9, mx9, mode9, n9, neg9⟩ := m9
          simp only [MRe.val]
          have OO4 := Lib.hid (OO4.out.keep hk5)
          have OO5 := Lib.hid (OO5.out.keep hk5)
          clear hk5
          refine hK.out _ _ (⟨⟨K5.out.cell a0 (by simp), K5.out.cell a1 (by simp), K5.out.cell a2 (by simp), K5.out.cell a3 (by simp), K5.out.cell a4 (by simp), K5.out.cell a5 (by simp), K5.out.cell a6 (by simp), K5.out.cell a7 (by simp)⟩, ⟨K5.out.cell b0 (by simp), K5.out.cell b1 (by simp), K5.out.cell b2 (by simp), K5.out.cell b3 (by simp), K5.out.cell b4 (by simp), K5.out.cell b5 (by simp), K5.out.cell b6 (by simp), K5.out.cell b7 (by simp)⟩, ⟨K5.out.cell c0 (by simp), K5.out.cell c1 (by simp), K5.out.cell c2 (by simp), K5.out.cell c3 (by simp), K5.out.cell c4 (by simp), K5.out.cell c5 (by simp), K5.out.cell c6 (by simp), K5.out.cell c7 (by simp)⟩⟩) (fun hHeld => ?_)
          clear hK K
          try simp only [Act.put, List.setIfInBounds_toArray, List.set_cons_zero, List.set_cons_succ]
          refine take_on (i := 9) (v := ?_) rfl (by kernel_rfl) (by kernel_rfl) (by kernel_rfl) (fun _ _ _ h => h) (by rfl) (by assumption) ?_ ?_
          rotate_left
          · ((intro w hSw; (try dsimp only at hSw); go_simp <;> with_reducible rfl); done)
          try simp only [Act.put, List.setIfInBounds_toArray, List.set_cons_zero, List.set_cons_succ]
          refine take_on (i := 10) (v := ?_) rfl (by kernel_rfl) (by kernel_rfl) (by kernel_rfl) (fun _ _ _ h => h) (by rfl) (by assumption) ?_ ?_
          rotate_left
          · ((intro w hSw; (try dsimp only at hSw); go_simp <;> with_reducible rfl); done)
          try simp only [Act.put, List.setIfInBounds_toArray, List.set_cons_zero, List.set_cons_succ]
          refine take_on (i := 11) (v := ?_) rfl (by kernel_rfl) (by kernel_rfl) (by kernel_rfl) (fun _ _ _ h => h) (by rfl) (by assumption) ?_ ?_
          rotate_left
          · ((intro w hSw; (try dsimp only at hSw); go_simp <;> with_reducible rfl); done)
          try simp only [Act.put, List.setIfInBounds_toArray, List.set_cons_zero, List.set_cons_succ]
          obtain ⟨z0, z1, z2, z3, z4, z5, z6, z7⟩ := row_cells Z5.out
          have zf := row_frozen Z5.out
          refine branch_one (i := 13) rfl (by kernel_rfl) (by rfl) (fun K hK => ?_)
          go_simp
          have KB := Lib.hid (K5.out.after (set8_keeps v5 v2.heap.size (.int .i64 op9) (.slice sa9 set9.length sc9) (.slice ka9 kids9.length kc9) (.int .i64 mn9) (.int .i64 mx9) (.int .i64 mode9) (.int .i64 n9) (.bool neg9)) (by intro x hx; simp only [List.mem_cons, List.not_mem_nil, or_false] at hx; subst hx; exact .inr GW.out))
          refine hK.out _ _ (⟨⟨KB.out.cell a0 (by simp), KB.out.cell a1 (by simp), KB.out.cell a2 (by simp), KB.out.cell a3 (by simp), KB.out.cell a4 (by simp), KB.out.cell a5 (by simp), KB.out.cell a6 (by simp), KB.out.cell a7 (by simp)⟩, ⟨KB.out.cell b0 (by simp), KB.out.cell b1 (by simp), KB.out.cell b2 (by simp), KB.out.cell b3 (by simp), KB.out.cell b4 (by simp), KB.out.cell b5 (by simp), KB.out.cell b6 (by simp), KB.out.cell b7 (by simp)⟩, ⟨KB.out.cell c0 (by simp), KB.out.cell c1 (by simp), KB.out.cell c2 (by simp), KB.out.cell c3 (by simp), KB.out.cell c4 (by simp), KB.out.cell c5 (by simp), KB.out.cell c6 (by simp), KB.out.cell c7 (by simp)⟩⟩) (fun hHeld => ?_)
          clear hK K
          try simp only [Act.put, List.setIfInBounds_toArray, List.set_cons_zero, List.set_cons_succ]
          refine take_on (i := 14) (v := ?_) rfl (by kernel_rfl) (by kernel_rfl) (by kernel_rfl) (fun _ _ _ h => h) (by rfl) (by assumption) ?_ ?_
          rotate_left
          · ((intro w hSw; (try dsimp only at hSw); go_simp <;> with_reducible rfl); done)
          try simp only [Act.put, List.setIfInBounds_toArray, List.set_cons_zero, List.set_cons_succ]
          refine wpAnyH_done (by kernel_rfl) ?_ _
          go_wp2
          go_meet
          exact ⟨_, _, rfl, rfl, rfl, box_early (by rw [← R9.out]; exact OO9.out) (by rw [← R9.out]; exact TT9.out) Z5.out (by rw [← R9.out]; intro h; have h1 := FF.out _ h; have h2 := LT.out; omega), KB.out⟩
      · go_simp
        have K2 := Lib.hid (show Keeps [] W0 (v1.alloc (.cells #[.int .i64 0, .slice none 0 0, .slice none 0 0, .int .i64 0, .int .i64 0, .int .i64 0, .int .i64 0, .bool false] 64)) from (K1.out.alloc (.cells #[.int .i64 0, .slice none 0 0, .slice none 0 0, .int .i64 0, .int .i64 0, .int .i64 0, .int .i64 0, .bool false] 64)))
        have Z2 := Lib.hid (show (v1.alloc (.cells #[.int .i64 0, .slice none 0 0, .slice none 0 0, .int .i64 0, .int .i64 0, .int .i64 0, .int .i64 0, .bool false] 64)).heap[v1.heap.size]? = some (.cells #[.int .i64 0, .slice none 0 0, .slice none 0 0, .int .i64 0, .int .i64 0, .int .i64 0, .int .i64 0, .bool false] 64 (0, 0)) from by have h := (heap_alloc_new v1 (.cells #[.int .i64 0, .slice none 0 0, .slice none 0 0, .int .i64 0, .int .i64 0, .int .i64 0, .int .i64 0, .bool false] 64)); simpa using h)
        have GW := Lib.hid (show W0.heap.size ≤ v1.heap.size from by have h := K1.out.size; simpa using h)
        have OO4 := Lib.hid (OO4.out.keep (Keeps.a1 _ (.cells #[.int .i64 0, .slice none 0 0, .slice none 0 0, .int .i64 0, .int .i64 0, .int .i64 0, .int .i64 0, .bool false] 64)))
        refine hK.out _ _ (⟨⟨K2.out.cell a0 (by simp), K2.out.cell a1 (by simp), K2.out.cell a2 (by simp), K2.out.cell a3 (by simp), K2.out.cell a4 (by simp), K2.out.cell a5 (by simp), K2.out.cell a6 (by simp), K2.out.cell a7 (by simp)⟩, ⟨K2.out.cell b0 (by simp), K2.out.cell b1 (by simp), K2.out.cell b2 (by simp), K2.out.cell b3 (by simp), K2.out.cell b4 (by simp), K2.out.cell b5 (by simp), K2.out.cell b6 (by simp), K2.out.cell b7 (by simp)⟩, ⟨K2.out.cell c0 (by simp), K2.out.cell c1 (by simp), K2.out.cell c2 (by simp), K2.out.cell c3 (by simp), K2.out.cell c4 (by simp), K2.out.cell c5 (by simp), K2.out.cell c6 (by simp), K2.out.cell c7 (by simp)⟩⟩) (fun hHeld => ?_)
        clear hK K
        try simp only [Act.put, List.setIfInBounds_toArray, List.set_cons_zero, List.set_cons_succ]
        refine branch_one (i := 5) rfl (by kernel_rfl) (by rfl) (fun K hK => ?_)
        go_simp
        refine Calls.mono (lcat_any (.node opa saa sca seta kaa kca kidsa mna mxa modea na nega) (.node opc sac scc setc kac kcc kidsc mnc mxc modec nc negc) _ (OA.out.keep K2.out) (OC.out.keep K2.out)) ?_
        rintro e v3 ⟨m5, rfl, ht5, ho5, hk3⟩
        have K3 := Lib.hid (K2.out.trans hk3)
        have Z3 := Lib.hid (hk3.heap Z2.out (by simp))
        obtain ⟨r5, hr5⟩ : ∃ r5, r5 = m5 := ⟨_, rfl⟩
        rw [← hr5] at ht5 ho5
        have R5 := Lib.hid hr5
        rw [TA.out, TC.out] at ht5
        have TT5 := Lib.hid ht5
        have OO5 := Lib.hid ho5
        clear hr5 ht5 ho5 
        obtain ⟨op5, sa5, sc5, set5, ka5, kc5, kids5, mn5, mx5, mode5, n5, neg5⟩ := m5
        simp only [MRe.val]
        have OO4 := Lib.hid (OO4.out.keep hk3)
        clear hk3
        refine hK.out _ _ (⟨⟨K3.out.cell a0 (by simp), K3.out.cell a1 (by simp), K3.out.cell a2 (by simp), K3.out.cell a3 (by simp), K3.out.cell a4 (by simp), K3.out.cell a5 (by simp), K3.out.cell a6 (by simp), K3.out.cell a7 (by simp)⟩, ⟨K3.out.cell b0 (by simp), K3.out.cell b1 (by simp), K3.out.cell b2 (by simp), K3.out.cell b3 (by simp), K3.out.cell b4 (by simp), K3.out.cell b5 (by simp), K3.out.cell b6 (by simp), K3.out.cell b7 (by simp)⟩, ⟨K3.out.cell c0 (by simp), K3.out.cell c1 (by simp), K3.out.cell c2 (by simp), K3.out.cell c3 (by simp), K3.out.cell c4 (by simp), K3.out.cell c5 (by simp), K3.out.cell c6 (by simp), K3.out.cell c7 (by simp)⟩⟩) (fun hHeld => ?_)
        clear hK K
        try simp only [Act.put, List.setIfInBounds_toArray, List.set_cons_zero, List.set_cons_succ]
        refine branch_one (i := 6) rfl (by kernel_rfl) (by rfl) (fun K hK => ?_)
        go_simp
        have K4 := Lib.hid (K3.out.alloc (.cells #[.int .i64 op4, .slice sa4 set4.length sc4, .slice ka4 kids4.length kc4, .int .i64 mn4, .int .i64 mx4, .int .i64 mode4, .int .i64 n4, .bool neg4, .int .i64 op5, .slice sa5 set5.length sc5, .slice ka5 kids5.length kc5, .int .i64 mn5, .int .i64 mx5, .int .i64 mode5, .int .i64 n5, .bool neg5] 64))
        have HR := Lib.hid (show (v3.alloc (.cells #[.int .i64 op4, .slice sa4 set4.length sc4, .slice ka4 kids4.length kc4, .int .i64 mn4, .int .i64 mx4, .int .i64 mode4, .int .i64 n4, .bool neg4, .int .i64 op5, .slice sa5 set5.length sc5, .slice ka5 kids5.length kc5, .int .i64 mn5, .int .i64 mx5, .int .i64 mode5, .int .i64 n5, .bool neg5] 64)).heap[v3.heap.size]? = some (.cells #[.int .i64 op4, .slice sa4 set4.length sc4, .slice ka4 kids4.length kc4, .int .i64 mn4, .int .i64 mx4, .int .i64 mode4, .int .i64 n4, .bool neg4, .int .i64 op5, .slice sa5 set5.length sc5, .slice ka5 kids5.length kc5, .int .i64 mn5, .int .i64 mx5, .int .i64 mode5, .int .i64 n5, .bool neg5] 64 (0, 0)) from by have h := heap_alloc_new v3 (.cells #[.int .i64 op4, .slice sa4 set4.length sc4, .slice ka4 kids4.length kc4, .int .i64 mn4, .int .i64 mx4, .int .i64 mode4, .int .i64 n4, .bool neg4, .int .i64 op5, .slice sa5 set5.length sc5, .slice ka5 kids5.length kc5, .int .i64 mn5, .int .i64 mx5, .int .i64 mode5, .int .i64 n5, .bool neg5] 64); simpa using h)
        have Z4 := Lib.hid (show (v3.alloc (.cells #[.int .i64 op4, .slice sa4 set4.length sc4, .slice ka4 kids4.length kc4, .int .i64 mn4, .int .i64 mx4, .int .i64 mode4, .int .i64 n4, .bool neg4, .int .i64 op5, .slice sa5 set5.length sc5, .slice ka5 kids5.length kc5, .int .i64 mn5, .int .i64 mx5, .int .i64 mode5, .int .i64 n5, .bool neg5] 64)).heap[v1.heap.size]? = some (.cells #[.int .i64 0, .slice none 0 0, .slice none 0 0, .int .i64 0, .int .i64 0, .int .i64 0, .int .i64 0, .bool false] 64 (0, 0)) from (Keeps.a1 _ _).heap Z3.out (by simp))
        have OO4 := Lib.hid (OO4.out.keep (Keeps.a1 _ (.cells #[.int .i64 op4, .slice sa4 set4.length sc4, .slice ka4 kids4.length kc4, .int .i64 mn4, .int .i64 mx4, .int .i64 mode4, .int .i64 n4, .bool neg4, .int .i64 op5, .slice sa5 set5.length sc5, .slice ka5 kids5.length kc5, .int .i64 mn5, .int .i64 mx5, .int .i64 mode5, .int .i64 n5, .bool neg5] 64)))
        have OO5 := Lib.hid (OO5.out.keep (Keeps.a1 _ (.cells #[.int .i64 op4, .slice sa4 set4.length sc4, .slice ka4 kids4.length kc4, .int .i64 mn4, .int .i64 mx4, .int .i64 mode4, .int .i64 n4, .bool neg4, .int .i64 op5, .slice sa5 set5.length sc5, .slice ka5 kids5.length kc5, .int .i64 mn5, .int .i64 mx5, .int .i64 mode5, .int .i64 n5, .bool neg5] 64)))
        refine hK.out _ _ (⟨⟨K4.out.cell a0 (by simp), K4.out.cell a1 (by simp), K4.out.cell a2 (by simp), K4.out.cell a3 (by simp), K4.out.cell a4 (by simp), K4.out.cell a5 (by simp), K4.out.cell a6 (by simp), K4.out.cell a7 (by simp)⟩, ⟨K4.out.cell b0 (by simp), K4.out.cell b1 (by simp), K4.out.cell b2 (by simp), K4.out.cell b3 (by simp), K4.out.cell b4 (by simp), K4.out.cell b5 (by simp), K4.out.cell b6 (by simp), K4.out.cell b7 (by simp)⟩, ⟨K4.out.cell c0 (by simp), K4.out.cell c1 (by simp), K4.out.cell c2 (by simp), K4.out.cell c3 (by simp), K4.out.cell c4 (by simp), K4.out.cell c5 (by simp), K4.out.cell c6 (by simp), K4.out.cell c7 (by simp)⟩⟩) (fun hHeld => ?_)
        clear hK K
        try simp only [Act.put, List.setIfInBounds_toArray, List.set_cons_zero, List.set_cons_succ]
        refine take_on (i := 7) (v := ?_) rfl (by kernel_rfl) (by kernel_rfl) (by kernel_rfl) (fun _ _ _ h => h) (by rfl) (by assumption) ?_ ?_
        rotate_left
        · ((intro w hSw; (try dsimp only at hSw); go_simp <;> with_reducible rfl); done)
        try simp only [Act.put, List.setIfInBounds_toArray, List.set_cons_zero, List.set_cons_succ]
        refine branch_one (i := 8) rfl (by kernel_rfl) (by rfl) (fun K hK => ?_)
        go_simp
        refine Calls.mono (ap4 (.node 3 none 0 [] (some ⟨v3.heap.size, 0, none⟩) 2 [r4, r5] 0 0 0 0 false) _ (mk2_ok OO4.out OO5.out (Keeps.refl _ _) HR.out (by rw [R4.out, R5.out]; rfl)) (by simp only [MRe.tree, MRe.trees, TT4.out, TT5.out]; rfl)) ?_
        rintro e v5 ⟨m9, rfl, ht9, ho9, hk5, hf9⟩
        have K5 := Lib.hid (K4.out.trans hk5)
        have Z5 := Lib.hid (hk5.heap Z4.out (by simp))
        have LT := Lib.hid (lt_of_block Z4.out)
        obtain ⟨r9, hr9⟩ : ∃ r9, r9 = m9 := ⟨_, rfl⟩
        rw [← hr9] at ht9 ho9 hf9
        have R9 := Lib.hid hr9
        have TT9 := Lib.hid ht9
        have OO9 := Lib.hid ho9
        have FF := Lib.hid hf9
        clear hr9 ht9 ho9 hf9
        obtain ⟨op9, sa9, sc9, set9, ka9, kc9, kids9, mn9, mx9, mode9, n9, neg9⟩ := m9
        simp only [MRe.val]
        have OO4 := Lib.hid (OO4.out.keep hk5)
        have OO5 := Lib.hid (OO5.out.keep hk5)
        clear hk5
        refine hK.out _ _ (⟨⟨K5.out.cell a0 (by simp), K5.out.cell a1 (by simp), K5.out.cell a2 (by simp), K5.out.cell a3 (by simp), K5.out.cell a4 (by simp), K5.out.cell a5 (by simp), K5.out.cell a6 (by simp), K5.out.cell a7 (by simp)⟩, ⟨K5.out.cell b0 (by simp), K5.out.cell b1 (by simp), K5.out.cell b2 (by simp), K5.out.cell b3 (by simp), K5.out.cell b4 (by simp), K5.out.cell b5 (by simp), K5.out.cell b6 (by simp), K5.out.cell b7 (by simp)⟩, ⟨K5.out.cell c0 (by simp), K5.out.cell c1 (by simp), K5.out.cell c2 (by simp), K5.out.cell c3 (by simp), K5.out.cell c4 (by simp), K5.out.cell c5 (by simp), K5.out.cell c6 (by simp), K5.out.cell c7 (by simp)⟩⟩) (fun hHeld => ?_)
        clear hK K
        try simp only [Act.put, List.setIfInBounds_toArray, List.set_cons_zero, List.set_cons_succ]
        refine take_on (i := 9) (v := ?_) rfl (by kernel_rfl) (by kernel_rfl) (by kernel_rfl) (fun _ _ _ h => h) (by rfl) (by assumption) ?_ ?_
        rotate_left
        · ((intro w hSw; (try dsimp only at hSw); go_simp <;> with_reducible rfl); done)
        try simp only [Act.put, List.setIfInBounds_toArray, List.set_cons_zero, List.set_cons_succ]
        refine take_on (i := 10) (v := ?_) rfl (by kernel_rfl) (by kernel_rfl) (by kernel_rfl) (fun _ _ _ h => h) (by rfl) (by assumption) ?_ ?_
        rotate_left
        · ((intro w hSw; (try dsimp only at hSw); go_simp <;> with_reducible rfl); done)
        try simp only [Act.put, List.setIfInBounds_toArray, List.set_cons_zero, List.set_cons_succ]
        refine take_on (i := 11) (v := ?_) rfl (by kernel_rfl) (by kernel_rfl) (by kernel_rfl) (fun _ _ _ h => h) (by rfl) (by assumption) ?_ ?_
        rotate_left
        · ((intro w hSw; (try dsimp only at hSw); go_simp <;> with_reducible rfl); done)
        try simp only [Act.put, List.setIfInBounds_toArray, List.set_cons_zero, List.set_cons_succ]
        obtain ⟨z0, z1, z2, z3, z4, z5, z6, z7⟩ := row_cells Z5.out
        have zf := row_frozen Z5.out
        refine branch_one (i := 13) rfl (by kernel_rfl) (by rfl) (fun K hK => ?_)
        go_simp
        have KB := Lib.hid (K5.out.after (set8_keeps v5 v1.heap.size (.int .i64 op9) (.slice sa9 set9.length sc9) (.slice ka9 kids9.length kc9) (.int .i64 mn9) (.int .i64 mx9) (.int .i64 mode9) (.int .i64 n9) (.bool neg9)) (by intro x hx; simp only [List.mem_cons, List.not_mem_nil, or_false] at hx; subst hx; exact .inr GW.out))
        refine hK.out _ _ (⟨⟨KB.out.cell a0 (by simp), KB.out.cell a1 (by simp), KB.out.cell a2 (by simp), KB.out.cell a3 (by simp), KB.out.cell a4 (by simp), KB.out.cell a5 (by simp), KB.out.cell a6 (by simp), KB.out.cell a7 (by simp)⟩, ⟨KB.out.cell b0 (by simp), KB.out.cell b1 (by simp), KB.out.cell b2 (by simp), KB.out.cell b3 (by simp), KB.out.cell b4 (by simp), KB.out.cell b5 (by simp), KB.out.cell b6 (by simp), KB.out.cell b7 (by simp)⟩, ⟨KB.out.cell c0 (by simp), KB.out.cell c1 (by simp), KB.out.cell c2 (by simp), KB.out.cell c3 (by simp), KB.out.cell c4 (by simp), KB.out.cell c5 (by simp), KB.out.cell c6 (by simp), KB.out.cell c7 (by simp)⟩⟩) (fun hHeld => ?_)
        clear hK K
        try simp only [Act.put, List.setIfInBounds_toArray, List.set_cons_zero, List.set_cons_succ]
        refine take_on (i := 14) (v := ?_) rfl (by kernel_rfl) (by kernel_rfl) (by kernel_rfl) (fun _ _ _ h => h) (by rfl) (by assumption) ?_ ?_
        rotate_left
        · ((intro w hSw; (try dsimp only at hSw); go_simp <;> with_reducible rfl); done)
        try simp only [Act.put, List.setIfInBounds_toArray, List.set_cons_zero, List.set_cons_succ]
        refine wpAnyH_done (by kernel_rfl) ?_ _
        go_wp2
        go_meet
        exact ⟨_, _, rfl, rfl, rfl, box_early (by rw [← R9.out]; exact OO9.out) (by rw [← R9.out]; exact TT9.out) Z5.out (by rw [← R9.out]; intro h; have h1 := FF.out _ h; have h2 := LT.out; omega), KB.out⟩
    · go_simp
      have K1 := Lib.hid (show Keeps [] W0 (W0.alloc (.cells #[.int .i64 0, .slice none 0 0, .slice none 0 0, .int .i64 0, .int .i64 0, .int .i64 0, .int .i64 0, .bool false] 64)).drew from (((Keeps.refl [] W0).alloc (.cells #[.int .i64 0, .slice none 0 0, .slice none 0 0, .int .i64 0, .int .i64 0, .int .i64 0, .int .i64 0, .bool false] 64)).drew))
      have Z1 := Lib.hid (show (W0.alloc (.cells #[.int .i64 0, .slice none 0 0, .slice none 0 0, .int .i64 0, .int .i64 0, .int .i64 0, .int .i64 0, .bool false] 64)).drew.heap[W0.heap.size]? = some (.cells #[.int .i64 0, .slice none 0 0, .slice none 0 0, .int .i64 0, .int .i64 0, .int .i64 0, .int .i64 0, .bool false] 64 (0, 0)) from (heap_alloc_new W0 (.cells #[.int .i64 0, .slice none 0 0, .slice none 0 0, .int .i64 0, .int .i64 0, .int .i64 0, .int .i64 0, .bool false] 64) : (W0.alloc (.cells #[.int .i64 0, .slice none 0 0, .slice none 0 0, .int .i64 0, .int .i64 0, .int .i64 0, .int .i64 0, .bool false] 64)).heap[W0.heap.size]? = some (.cells #[.int .i64 0, .slice none 0 0, .slice none 0 0, .int .i64 0, .int .i64 0, .int .i64 0, .int .i64 0, .bool false] 64 (0, 0))))
      have GW := Lib.hid (Nat.le_refl W0.heap.size)
      refine hK.out _ _ (⟨⟨K1.out.cell a0 (by simp), K1.out.cell a1 (by simp), K1.out.cell a2 (by simp), K1.out.cell a3 (by simp), K1.out.cell a4 (by simp), K1.out.cell a5 (by simp), K1.out.cell a6 (by simp), K1.out.cell a7 (by simp)⟩, ⟨K1.out.cell b0 (by simp), K1.out.cell b1 (by simp), K1.out.cell b2 (by simp), K1.out.cell b3 (by simp), K1.out.cell b4 (by simp), K1.out.cell b5 (by simp), K1.out.cell b6 (by simp), K1.out.cell b7 (by simp)⟩, ⟨K1.out.cell c0 (by simp), K1.out.cell c1 (by simp), K1.out.cell c2 (by simp), K1.out.cell c3 (by simp), K1.out.cell c4 (by simp), K1.out.cell c5 (by simp), K1.out.cell c6 (by simp), K1.out.cell c7 (by simp)⟩⟩) (fun hHeld => ?_)
      clear hK K
      try simp only [Act.put, List.setIfInBounds_toArray, List.set_cons_zero, List.set_cons_succ]
      refine branch_one (i := 2) rfl (by kernel_rfl) (by rfl) (fun K hK => ?_)
      go_simp
      refine Calls.mono (lcat_any (.node opa saa sca seta kaa kca kidsa mna mxa modea na nega) (.node opb sab scb setb kab kcb kidsb mnb mxb modeb nb negb) _ (OA.out.keep K1.out) (OB.out.keep K1.out)) ?_
      rintro e v2 ⟨m4, rfl, ht4, ho4, hk2⟩
      have K2 := Lib.hid (K1.out.trans hk2)
      have Z2 := Lib.hid (hk2.heap Z1.out (by simp))
      obtain ⟨r4, hr4⟩ : ∃ r4, r4 = m4 := ⟨_, rfl⟩
      rw [← hr4] at ht4 ho4
      have R4 := Lib.hid hr4
      rw [TA.out, TB.out] at ht4
      have TT4 := Lib.hid ht4
      have OO4 := Lib.hid ho4
      clear hr4 ht4 ho4 
      obtain ⟨op4, sa4, sc4, set4, ka4, kc4, kids4, mn4, mx4, mode4, n4, neg4⟩ := m4
      simp only [MRe.val]
      clear hk2
      refine hK.out _ _ (⟨⟨K2.out.cell a0 (by simp), K2.out.cell a1 (by simp), K2.out.cell a2 (by simp), K2.out.cell a3 (by simp), K2.out.cell a4 (by simp), K2.out.cell a5 (by simp), K2.out.cell a6 (by simp), K2.out.cell a7 (by simp)⟩, ⟨K2.out.cell b0 (by simp), K2.out.cell b1 (by simp), K2.out.cell b2 (by simp), K2.out.cell b3 (by simp), K2.out.cell b4 (by simp), K2.out.cell b5 (by simp), K2.out.cell b6 (by simp), K2.out.cell b7 (by simp)⟩, ⟨K2.out.cell c0 (by simp), K2.out.cell c1 (by simp), K2.out.cell c2 (by simp), K2.out.cell c3 (by simp), K2.out.cell c4 (by simp), K2.out.cell c5 (by simp), K2.out.cell c6 (by simp), K2.out.cell c7 (by simp)⟩⟩) (fun hHeld => ?_)
      clear hK K
      try simp only [Act.put, List.setIfInBounds_toArray, List.set_cons_zero, List.set_cons_succ]
      refine branch_one (i := 5) rfl (by kernel_rfl) (by rfl) (fun K hK => ?_)
      go_simp
      refine Calls.mono (lcat_any (.node opa saa sca seta kaa kca kidsa mna mxa modea na nega) (.node opc sac scc setc kac kcc kidsc mnc mxc modec nc negc) _ (OA.out.keep K2.out) (OC.out.keep K2.out)) ?_
      rintro e v3 ⟨m5, rfl, ht5, ho5, hk3⟩
      have K3 := Lib.hid (K2.out.trans hk3)
      have Z3 := Lib.hid (hk3.heap Z2.out (by simp))
      obtain ⟨r5, hr5⟩ : ∃ r5, r5 = m5 := ⟨_, rfl⟩
      rw [← hr5] at ht5 ho5
      have R5 := Lib.hid hr5
      rw [TA.out, TC.out] at ht5
      have TT5 := Lib.hid ht5
      have OO5 := Lib.hid ho5
      clear hr5 ht5 ho5 
      obtain ⟨op5, sa5, sc5, set5, ka5, kc5, kids5, mn5, mx5, mode5, n5, neg5⟩ := m5
      simp only [MRe.val]
      have OO4 := Lib.hid (OO4.out.keep hk3)
      clear hk3
      refine hK.out _ _ (⟨⟨K3.out.cell a0 (by simp), K3.out.cell a1 (by simp), K3.out.cell a2 (by simp), K3.out.cell a3 (by simp), K3.out.cell a4 (by simp), K3.out.cell a5 (by simp), K3.out.cell a6 (by simp), K3.out.cell a7 (by simp)⟩, ⟨K3.out.cell b0 (by simp), K3.out.cell b1 (by simp), K3.out.cell b2 (by simp), K3.out.cell b3 (by simp), K3.out.cell b4 (by simp), K3.out.cell b5 (by simp), K3.out.cell b6 (by simp), K3.out.cell b7 (by simp)⟩, ⟨K3.out.cell c0 (by simp), K3.out.cell c1 (by simp), K3.out.cell c2 (by simp), K3.out.cell c3 (by simp), K3.out.cell c4 (by simp), K3.out.cell c5 (by simp), K3.out.cell c6 (by simp), K3.out.cell c7 (by simp)⟩⟩) (fun hHeld => ?_)
      clear hK K
      try simp only [Act.put, List.setIfInBounds_toArray, List.set_cons_zero, List.set_cons_succ]
      refine branch_one (i := 6) rfl (by kernel_rfl) (by rfl) (fun K hK => ?_)
      go_simp
      have K4 := Lib.hid (K3.out.alloc (.cells #[.int .i64 op4, .slice sa4 set4.length sc4, .slice ka4 kids4.length kc4, .int .i64 mn4, .int .i64 mx4, .int .i64 mode4, .int .i64 n4, .bool neg4, .int .i64 op5, .slice sa5 set5.length sc5, .slice ka5 kids5.length kc5, .int .i64 mn5, .int .i64 mx5, .int .i64 mode5, .int .i64 n5, .bool neg5] 64))
      have HR := Lib.hid (show (v3.alloc (.cells #[.int .i64 op4, .slice sa4 set4.length sc4, .slice ka4 kids4.length kc4, .int .i64 mn4, .int .i64 mx4, .int .i64 mode4, .int .i64 n4, .bool neg4, .int .i64 op5, .slice sa5 set5.length sc5, .slice ka5 kids5.length kc5, .int .i64 mn5, .int .i64 mx5, .int .i64 mode5, .int .i64 n5, .bool neg5] 64)).heap[v3.heap.size]? = some (.cells #[.int .i64 op4, .slice sa4 set4.length sc4, .slice ka4 kids4.length kc4, .int .i64 mn4, .int .i64 mx4, .int .i64 mode4, .int .i64 n4, .bool neg4, .int .i64 op5, .slice sa5 set5.length sc5, .slice ka5 kids5.length kc5, .int .i64 mn5, .int .i64 mx5, .int .i64 mode5, .int .i64 n5, .bool neg5] 64 (0, 0)) from by have h := heap_alloc_new v3 (.cells #[.int .i64 op4, .slice sa4 set4.length sc4, .slice ka4 kids4.length kc4, .int .i64 mn4, .int .i64 mx4, .int .i64 mode4, .int .i64 n4, .bool neg4, .int .i64 op5, .slice sa5 set5.length sc5, .slice ka5 kids5.length kc5, .int .i64 mn5, .int .i64 mx5, .int .i64 mode5, .int .i64 n5, .bool neg5] 64); simpa using h)
      have Z4 := Lib.hid (show (v3.alloc (.cells #[.int .i64 op4, .slice sa4 set4.length sc4, .slice ka4 kids4.length kc4, .int .i64 mn4, .int .i64 mx4, .int .i64 mode4, .int .i64 n4, .bool neg4, .int .i64 op5, .slice sa5 set5.length sc5, .slice ka5 kids5.length kc5, .int .i64 mn5, .int .i64 mx5, .int .i64 mode5, .int .i64 n5, .bool neg5] 64)).heap[W0.heap.size]? = some (.cells #[.int .i64 0, .slice none 0 0, .slice none 0 0, .int .i64 0, .int .i64 0, .int .i64 0, .int .i64 0, .bool false] 64 (0, 0)) from (Keeps.a1 _ _).heap Z3.out (by simp))
      have OO4 := Lib.hid (OO4.out.keep (Keeps.a1 _ (.cells #[.int .i64 op4, .slice sa4 set4.length sc4, .slice ka4 kids4.length kc4, .int .i64 mn4, .int .i64 mx4, .int .i64 mode4, .int .i64 n4, .bool neg4, .int .i64 op5, .slice sa5 set5.length sc5, .slice ka5 kids5.length kc5, .int .i64 mn5, .int .i64 mx5, .int .i64 mode5, .int .i64 n5, .bool neg5] 64)))
      have OO5 := Lib.hid (OO5.out.keep (Keeps.a1 _ (.cells #[.int .i64 op4, .slice sa4 set4.length sc4, .slice ka4 kids4.length kc4, .int .i64 mn4, .int .i64 mx4, .int .i64 mode4, .int .i64 n4, .bool neg4, .int .i64 op5, .slice sa5 set5.length sc5, .slice ka5 kids5.length kc5, .int .i64 mn5, .int .i64 mx5, .int .i64 mode5, .int .i64 n5, .bool neg5] 64)))
      refine hK.out _ _ (⟨⟨K4.out.cell a0 (by simp), K4.out.cell a1 (by simp), K4.out.cell a2 (by simp), K4.out.cell a3 (by simp), K4.out.cell a4 (by simp), K4.out.cell a5 (by simp), K4.out.cell a6 (by simp), K4.out.cell a7 (by simp)⟩, ⟨K4.out.cell b0 (by simp), K4.out.cell b1 (by simp), K4.out.cell b2 (by simp), K4.out.cell b3 (by simp), K4.out.cell b4 (by simp), K4.out.cell b5 (by simp), K4.out.cell b6 (by simp), K4.out.cell b7 (by simp)⟩, ⟨K4.out.cell c0 (by simp), K4.out.cell c1 (by simp), K4.out.cell c2 (by simp), K4.out.cell c3 (by simp), K4.out.cell c4 (by simp), K4.out.cell c5 (by simp), K4.out.cell c6 (by simp), K4.out.cell c7 (by simp)⟩⟩) (fun hHeld => ?_)
      clear hK K
      try simp only [Act.put, List.setIfInBounds_toArray, List.set_cons_zero, List.set_cons_succ]
      refine take_on (i := 7) (v := ?_) rfl (by kernel_rfl) (by kernel_rfl) (by kernel_rfl) (fun _ _ _ h => h) (by rfl) (by assumption) ?_ ?_
      rotate_left
      · ((intro w hSw; (try dsimp only at hSw); go_simp <;> with_reducible rfl); done)
      try simp only [Act.put, List.setIfInBounds_toArray, List.set_cons_zero, List.set_cons_succ]
      refine branch_one (i := 8) rfl (by kernel_rfl) (by rfl) (fun K hK => ?_)
      go_simp
      refine Calls.mono (ap4 (.node 3 none 0 [] (some ⟨v3.heap.size, 0, none⟩) 2 [r4, r5] 0 0 0 0 false) _ (mk2_ok OO4.out OO5.out (Keeps.refl _ _) HR.out (by rw [R4.out, R5.out]; rfl)) (by simp only [MRe.tree, MRe.trees, TT4.out, TT5.out]; rfl)) ?_
      rintro e v5 ⟨m9, rfl, ht9, ho9, hk5, hf9⟩
      have K5 := Lib.hid (K4.out.trans hk5)
      have Z5 := Lib.hid (hk5.heap Z4.out (by simp))
      have LT := Lib.hid (lt_of_block Z4.out)
      obtain ⟨r9, hr9⟩ : ∃ r9, r9 = m9 := ⟨_, rfl⟩
      rw [← hr9] at ht9 ho9 hf9
      have R9 := Lib.hid hr9
      have TT9 := Lib.hid ht9
      have OO9 := Lib.hid ho9
      have FF := Lib.hid hf9
      clear hr9 ht9 ho9 hf9
      obtain ⟨op9, sa9, sc9, set9, ka9, kc9, kids9, mn9, mx9, mode9, n9, neg9⟩ := m9
      simp only [MRe.val]
      have OO4 := Lib.hid (OO4.out.keep hk5)
      have OO5 := Lib.hid (OO5.out.keep hk5)
      clear hk5
      refine hK.out _ _ (⟨⟨K5.out.cell a0 (by simp), K5.out.cell a1 (by simp), K5.out.cell a2 (by simp), K5.out.cell a3 (by simp), K5.out.cell a4 (by simp), K5.out.cell a5 (by simp), K5.out.cell a6 (by simp), K5.out.cell a7 (by simp)⟩, ⟨K5.out.cell b0 (by simp), K5.out.cell b1 (by simp), K5.out.cell b2 (by simp), K5.out.cell b3 (by simp), K5.out.cell b4 (by simp), K5.out.cell b5 (by simp), K5.out.cell b6 (by simp), K5.out.cell b7 (by simp)⟩, ⟨K5.out.cell c0 (by simp), K5.out.cell c1 (by simp), K5.out.cell c2 (by simp), K5.out.cell c3 (by simp), K5.out.cell c4 (by simp), K5.out.cell c5 (by simp), K5.out.cell c6 (by simp), K5.out.cell c7 (by simp)⟩⟩) (fun hHeld => ?_)
      clear hK K
      try simp only [Act.put, List.setIfInBounds_toArray, List.set_cons_zero, List.set_cons_succ]
      refine take_on (i := 9) (v := ?_) rfl (by kernel_rfl) (by kernel_rfl) (by kernel_rfl) (fun _ _ _ h => h) (by rfl) (by assumption) ?_ ?_
      rotate_left
      · ((intro w hSw; (try dsimp only at hSw); go_simp <;> with_reducible rfl); done)
      try simp only [Act.put, List.setIfInBounds_toArray, List.set_cons_zero, List.set_cons_succ]
      refine take_on (i := 10) (v := ?_) rfl (by kernel_rfl) (by kernel_rfl) (by kernel_rfl) (fun _ _ _ h => h) (by rfl) (by assumption) ?_ ?_
      rotate_left
      · ((intro w hSw; (try dsimp only at hSw); go_simp <;> with_reducible rfl); done)
      try simp only [Act.put, List.setIfInBounds_toArray, List.set_cons_zero, List.set_cons_succ]
      refine take_on (i := 11) (v := ?_) rfl (by kernel_rfl) (by kernel_rfl) (by kernel_rfl) (fun _ _ _ h => h) (by rfl) (by assumption) ?_ ?_
      rotate_left
      · ((intro w hSw; (try dsimp only at hSw); go_simp <;> with_reducible rfl); done)
      try simp only [Act.put, List.setIfInBounds_toArray, List.set_cons_zero, List.set_cons_succ]
      obtain ⟨z0, z1, z2, z3, z4, z5, z6, z7⟩ := row_cells Z5.out
      have zf := row_frozen Z5.out
      refine branch_one (i := 13) rfl (by kernel_rfl) (by rfl) (fun K hK => ?_)
      go_simp
      have KB := Lib.hid (K5.out.after (set8_keeps v5 W0.heap.size (.int .i64 op9) (.slice sa9 set9.length sc9) (.slice ka9 kids9.length kc9) (.int .i64 mn9) (.int .i64 mx9) (.int .i64 mode9) (.int .i64 n9) (.bool neg9)) (by intro x hx; simp only [List.mem_cons, List.not_mem_nil, or_false] at hx; subst hx; exact .inr GW.out))
      refine hK.out _ _ (⟨⟨KB.out.cell a0 (by simp), KB.out.cell a1 (by simp), KB.out.cell a2 (by simp), KB.out.cell a3 (by simp), KB.out.cell a4 (by simp), KB.out.cell a5 (by simp), KB.out.cell a6 (by simp), KB.out.cell a7 (by simp)⟩, ⟨KB.out.cell b0 (by simp), KB.out.cell b1 (by simp), KB.out.cell b2 (by simp), KB.out.cell b3 (by simp), KB.out.cell b4 (by simp), KB.out.cell b5 (by simp), KB.out.cell b6 (by simp), KB.out.cell b7 (by simp)⟩, ⟨KB.out.cell c0 (by simp), KB.out.cell c1 (by simp), KB.out.cell c2 (by simp), KB.out.cell c3 (by simp), KB.out.cell c4 (by simp), KB.out.cell c5 (by simp), KB.out.cell c6 (by simp), KB.out.cell c7 (by simp)⟩⟩) (fun hHeld => ?_)
      clear hK K
      try simp only [Act.put, List.setIfInBounds_toArray, List.set_cons_zero, List.set_cons_succ]
      refine take_on (i := 14) (v := ?_) rfl (by kernel_rfl) (by kernel_rfl) (by kernel_rfl) (fun _ _ _ h => h) (by rfl) (by assumption) ?_ ?_
      rotate_left
      · ((intro w hSw; (try dsimp only at hSw); go_simp <;> with_reducible rfl); done)
      try simp only [Act.put, List.setIfInBounds_toArray, List.set_cons_zero, List.set_cons_succ]
      refine wpAnyH_done (by kernel_rfl) ?_ _
      go_wp2
      go_meet
      exact ⟨_, _, rfl, rfl, rfl, box_early (by rw [← R9.out]; exact OO9.out) (by rw [← R9.out]; exact TT9.out) Z5.out (by rw [← R9.out]; intro h; have h1 := FF.out _ h; have h2 := LT.out; omega), KB.out⟩
  case rest =>
    obtain ⟨g4, V4, rfl, rfl, rfl, bx4, kx4⟩ := hcut
    have KW := Lib.hid kx4
    replace a0 := kx4.cell a0 (by simp)
    replace a1 := kx4.cell a1 (by simp)
    replace a2 := kx4.cell a2 (by simp)
    replace a3 := kx4.cell a3 (by simp)
    replace a4 := kx4.cell a4 (by simp)
    replace a5 := kx4.cell a5 (by simp)
    replace a6 := kx4.cell a6 (by simp)
    replace a7 := kx4.cell a7 (by simp)
    replace b0 := kx4.cell b0 (by simp)
    replace b1 := kx4.cell b1 (by simp)
    replace b2 := kx4.cell b2 (by simp)
    replace b3 := kx4.cell b3 (by simp)
    replace b4 := kx4.cell b4 (by simp)
    replace b5 := kx4.cell b5 (by simp)
    replace b6 := kx4.cell b6 (by simp)
    replace b7 := kx4.cell b7 (by simp)
    clear kx4 c0 c1 c2 c3 c4 c5 c6 c7
    obtain ⟨x, hx, tx, ox⟩ := bx4
    obtain ⟨opx, sax, scx, setx, kax, kcx, kidsx, mnx, mxx, modex, nx, negx⟩ := x
    obtain ⟨d0, d1, d2, d3, d4, d5, d6, d7⟩ := hx.cells0
    have hkx : MRe.trees kidsx = [lA, mkT 3 [lB, lC]] := congrArg Tree.kids tx
    have hlx : kidsx.length = 2 := by rw [← MRe.trees_length, hkx]; rfl
    have hlxi : (kidsx.length : Int) = 2 := by omega
    obtain ⟨bx, offx, rfl, hbbx, hxk⟩ := ox.nodes.kid (by omega)
    have hx1 := hxk 1 (by omega)
    have ok1 := ox.kid (List.getElem_mem (n := 1) (by omega))
    have tk1 : (kidsx[1]'(by omega)).tree = ex6 := by
      have h := trees_getElem kidsx 1 (by omega)
      rw [← h]
      simp only [hkx]
      rfl
    generalize kidsx[1] = kx at *
    have OK1 := Lib.hid ok1
    have TK1 := Lib.hid tk1
    obtain ⟨opk, sak, sck, setk, kak, kck, kidsk, mnk, mxk, modek, nk, negk⟩ := kx
    have gg := hx1.node
    have e0 := gg.c0
    have e1 := gg.c1
    have e2 := gg.c2
    have e3 := gg.c3
    have e4 := gg.c4
    have e5 := gg.c5
    have e6 := gg.c6
    have e7 := gg.c7
    have hlx1 : (1 : Int) < (kidsx.length : Int) := by omega
    have hne : ((kidsx.length : Int) != 2) = false := by rw [hlxi]; rfl
    clear gg hx1 hxk hx tx ox hkx hlx ok1 tk1 hlxi
    go_wp2_with fail
    refine Calls.mono (ap6 (.node opk sak sck setk kak kck kidsk mnk mxk modek nk negk) _ OK1.out TK1.out) ?_
    rintro e w6 ⟨y, rfl, hty, hoy, hk6, _⟩
    replace a0 := hk6.cell a0 (by simp)
    replace a1 := hk6.cell a1 (by simp)
    replace a2 := hk6.cell a2 (by simp)
    replace a3 := hk6.cell a3 (by simp)
    replace a4 := hk6.cell a4 (by simp)
    replace a5 := hk6.cell a5 (by simp)
    replace a6 := hk6.cell a6 (by simp)
    replace a7 := hk6.cell a7 (by simp)
    replace b0 := hk6.cell b0 (by simp)
    replace b1 := hk6.cell b1 (by simp)
    replace b2 := hk6.cell b2 (by simp)
    replace b3 := hk6.cell b3 (by simp)
    replace b4 := hk6.cell b4 (by simp)
    replace b5 := hk6.cell b5 (by simp)
    replace b6 := hk6.cell b6 (by simp)
    replace b7 := hk6.cell b7 (by simp)
    have KW := Lib.hid (KW.out.trans hk6)
    obtain ⟨y0, hy0⟩ : ∃ y0, y0 = y := ⟨_, rfl⟩
    rw [← hy0] at hty hoy
    have Y0 := Lib.hid hy0
    have TY := Lib.hid hty
    have OY := Lib.hid hoy
    clear hk6 hty hoy hy0 d0 d1 d2 d3 d4 d5 d6 d7 e0 e1 e2 e3 e4 e5 e6 e7 hlx1 hne
    obtain ⟨op6, sa6, sc6, set6, ka6, kc6, kids6, mn6, mx6, mode6, n6, neg6⟩ := y
    simp only [MRe.val]
    have kA := Keeps.a1 w6 (.cells #[.int .i64 op6, .slice sa6 set6.length sc6, .slice ka6 kids6.length kc6, .int .i64 mn6, .int .i64 mx6, .int .i64 mode6, .int .i64 n6, .bool neg6] 64)
    have BY := Lib.hid (box_late (t := 64) (cs := #[.int .i64 op6, .slice sa6 set6.length sc6, .slice ka6 kids6.length kc6, .int .i64 mn6, .int .i64 mx6, .int .i64 mode6, .int .i64 n6, .bool neg6]) OY.out TY.out (by rw [Y0.out]; rfl))
    replace a0 := kA.cell a0 (by simp)
    replace a1 := kA.cell a1 (by simp)
    replace a2 := kA.cell a2 (by simp)
    replace a3 := kA.cell a3 (by simp)
    replace a4 := kA.cell a4 (by simp)
    replace a5 := kA.cell a5 (by simp)
    replace a6 := kA.cell a6 (by simp)
    replace a7 := kA.cell a7 (by simp)
    replace b0 := kA.cell b0 (by simp)
    replace b1 := kA.cell b1 (by simp)
    replace b2 := kA.cell b2 (by simp)
    replace b3 := kA.cell b3 (by simp)
    replace b4 := kA.cell b4 (by simp)
    replace b5 := kA.cell b5 (by simp)
    replace b6 := kA.cell b6 (by simp)
    replace b7 := kA.cell b7 (by simp)
    have KW := Lib.hid (KW.out.trans kA)
    clear kA
    go_wp2_with fail
    refine Calls.mono (lstar_any (.node opa saa sca seta kaa kca kidsa mna mxa modea na nega) _ (OA.out.keep KW.out)) ?_
    rintro e w7 ⟨s, rfl, hts, hos, hk7⟩
    rw [TA.out] at hts
    replace a0 := hk7.cell a0 (by simp)
    replace a1 := hk7.cell a1 (by simp)
    replace a2 := hk7.cell a2 (by simp)
    replace a3 := hk7.cell a3 (by simp)
    replace a4 := hk7.cell a4 (by simp)
    replace a5 := hk7.cell a5 (by simp)
    replace a6 := hk7.cell a6 (by simp)
    replace a7 := hk7.cell a7 (by simp)
    replace b0 := hk7.cell b0 (by simp)
    replace b1 := hk7.cell b1 (by simp)
    replace b2 := hk7.cell b2 (by simp)
    replace b3 := hk7.cell b3 (by simp)
    replace b4 := hk7.cell b4 (by simp)
    replace b5 := hk7.cell b5 (by simp)
    replace b6 := hk7.cell b6 (by simp)
    replace b7 := hk7.cell b7 (by simp)
    have KW := Lib.hid (KW.out.trans hk7)
    have BY := Lib.hid (BY.out.keep hk7)
    obtain ⟨s0, hs0⟩ : ∃ s0, s0 = s := ⟨_, rfl⟩
    rw [← hs0] at hts hos
    have S0 := Lib.hid hs0
    have TS := Lib.hid hts
    have OS := Lib.hid hos
    clear hk7 hts hos hs0
    obtain ⟨op7, sa7, sc7, set7, ka7, kc7, kids7, mn7, mx7, mode7, n7, neg7⟩ := s
    simp only [MRe.val]
    go_wp2_with fail
    refine Calls.mono (lstar_any (.node op7 sa7 sc7 set7 ka7 kc7 kids7 mn7 mx7 mode7 n7 neg7) _ (by rw [← S0.out]; exact OS.out)) ?_
    rintro e w8 ⟨s, rfl, hts, hos, hk7⟩
    rw [← S0.out, TS.out] at hts
    replace a0 := hk7.cell a0 (by simp)
    replace a1 := hk7.cell a1 (by simp)
    replace a2 := hk7.cell a2 (by simp)
    replace a3 := hk7.cell a3 (by simp)
    replace a4 := hk7.cell a4 (by simp)
    replace a5 := hk7.cell a5 (by simp)
    replace a6 := hk7.cell a6 (by simp)
    replace a7 := hk7.cell a7 (by simp)
    replace b0 := hk7.cell b0 (by simp)
    replace b1 := hk7.cell b1 (by simp)
    replace b2 := hk7.cell b2 (by simp)
    replace b3 := hk7.cell b3 (by simp)
    replace b4 := hk7.cell b4 (by simp)
    replace b5 := hk7.cell b5 (by simp)
    replace b6 := hk7.cell b6 (by simp)
    replace b7 := hk7.cell b7 (by simp)
    have KW := Lib.hid (KW.out.trans hk7)
    have BY := Lib.hid (BY.out.keep hk7)
    obtain ⟨s1, hs1⟩ : ∃ s1, s1 = s := ⟨_, rfl⟩
    rw [← hs1] at hts hos
    have S1 := Lib.hid hs1
    have TS1 := Lib.hid hts
    have OS1 := Lib.hid hos
    clear hk7 hts hos hs1
    obtain ⟨op8, sa8, sc8, set8, ka8, kc8, kids8, mn8, mx8, mode8, n8, neg8⟩ := s
    simp only [MRe.val]
    go_wp2_with fail
    refine Calls.mono (ap8 (.node op8 sa8 sc8 set8 ka8 kc8 kids8 mn8 mx8 mode8 n8 neg8) _ (by rw [← S1.out]; exact OS1.out) (by rw [← S1.out]; exact TS1.out)) ?_
    rintro e w9 ⟨z, rfl, htz, hoz, hk9, _⟩
    replace a0 := hk9.cell a0 (by simp)
    replace a1 := hk9.cell a1 (by simp)
    replace a2 := hk9.cell a2 (by simp)
    replace a3 := hk9.cell a3 (by simp)
    replace a4 := hk9.cell a4 (by simp)
    replace a5 := hk9.cell a5 (by simp)
    replace a6 := hk9.cell a6 (by simp)
    replace a7 := hk9.cell a7 (by simp)
    replace b0 := hk9.cell b0 (by simp)
    replace b1 := hk9.cell b1 (by simp)
    replace b2 := hk9.cell b2 (by simp)
    replace b3 := hk9.cell b3 (by simp)
    replace b4 := hk9.cell b4 (by simp)
    replace b5 := hk9.cell b5 (by simp)
    replace b6 := hk9.cell b6 (by simp)
    replace b7 := hk9.cell b7 (by simp)
    have KW := Lib.hid (KW.out.trans hk9)
    have BY := Lib.hid (BY.out.keep hk9)
    obtain ⟨zz0, hz0⟩ : ∃ zz0, zz0 = z := ⟨_, rfl⟩
    rw [← hz0] at htz hoz
    have ZZ0 := Lib.hid hz0
    have TZ := Lib.hid htz
    have OZ := Lib.hid hoz
    clear hk9 htz hoz hz0
    obtain ⟨op9, sa9, sc9, set9, ka9, kc9, kids9, mn9, mx9, mode9, n9, neg9⟩ := z
    simp only [MRe.val]
    have kA := Keeps.a1 w9 (.cells #[.int .i64 op9, .slice sa9 set9.length sc9, .slice ka9 kids9.length kc9, .int .i64 mn9, .int .i64 mx9, .int .i64 mode9, .int .i64 n9, .bool neg9] 64)
    have BZ := Lib.hid (box_late (t := 64) (cs := #[.int .i64 op9, .slice sa9 set9.length sc9, .slice ka9 kids9.length kc9, .int .i64 mn9, .int .i64 mx9, .int .i64 mode9, .int .i64 n9, .bool neg9]) OZ.out TZ.out (by rw [ZZ0.out]; rfl))
    have BY := Lib.hid (BY.out.keep kA)
    replace a0 := kA.cell a0 (by simp)
    replace a1 := kA.cell a1 (by simp)
    replace a2 := kA.cell a2 (by simp)
    replace a3 := kA.cell a3 (by simp)
    replace a4 := kA.cell a4 (by simp)
    replace a5 := kA.cell a5 (by simp)
    replace a6 := kA.cell a6 (by simp)
    replace a7 := kA.cell a7 (by simp)
    replace b0 := kA.cell b0 (by simp)
    replace b1 := kA.cell b1 (by simp)
    replace b2 := kA.cell b2 (by simp)
    replace b3 := kA.cell b3 (by simp)
    replace b4 := kA.cell b4 (by simp)
    replace b5 := kA.cell b5 (by simp)
    replace b6 := kA.cell b6 (by simp)
    replace b7 := kA.cell b7 (by simp)
    have KW := Lib.hid (KW.out.trans kA)
    clear kA
    go_upto_region 9 with fail
    obtain ⟨G6, hG6⟩ : ∃ G6, G6 = w6.heap.size := ⟨_, rfl⟩
    obtain ⟨G8, hG8⟩ : ∃ G8, G8 = w9.heap.size := ⟨_, rfl⟩
    obtain ⟨W1, hW1⟩ : ∃ W1, W1 = w9.alloc (.cells #[.int .i64 op9, .slice sa9 set9.length sc9, .slice ka9 kids9.length kc9, .int .i64 mn9, .int .i64 mx9, .int .i64 mode9, .int .i64 n9, .bool neg9] 64) := ⟨_, rfl⟩
    rw [← hW1, ← hG6, ← hG8]
    rw [← hW1] at BY BZ KW a0 a1 a2 a3 a4 a5 a6 a7 b0 b1 b2 b3 b4 b5 b6 b7
    rw [← hG6] at BY
    rw [← hG8] at BZ
    clear hG6 hG8 hW1
    go_cut [10, 11] from 53 to 60 (fun s4 s5 wx => ∃ (g : Nat) (V : World), V = wx ∧ s4 = .pointer (some ⟨g, 0, none⟩) ∧ s5 = .bool true ∧ BoxIs V g (heldX) ∧ Keeps [] W1 V)
    case first =>
      refine wp_region_held_drew (S := fun w' => (w'.cell? ⟨P1, 0, none⟩ = some (.int .i64 opa) ∧ w'.cell? ⟨P1, 1, none⟩ = some (.slice saa seta.length sca) ∧ w'.cell? ⟨P1, 2, none⟩ = some (.slice kaa kidsa.length kca) ∧ w'.cell? ⟨P1, 3, none⟩ = some (.int .i64 mna) ∧ w'.cell? ⟨P1, 4, none⟩ = some (.int .i64 mxa) ∧ w'.cell? ⟨P1, 5, none⟩ = some (.int .i64 modea) ∧ w'.cell? ⟨P1, 6, none⟩ = some (.int .i64 na) ∧ w'.cell? ⟨P1, 7, none⟩ = some (.bool nega)) ∧ (w'.cell? ⟨P2, 0, none⟩ = some (.int .i64 opb) ∧ w'.cell? ⟨P2, 1, none⟩ = some (.slice sab setb.length scb) ∧ w'.cell? ⟨P2, 2, none⟩ = some (.slice kab kidsb.length kcb) ∧ w'.cell? ⟨P2, 3, none⟩ = some (.int .i64 mnb) ∧ w'.cell? ⟨P2, 4, none⟩ = some (.int .i64 mxb) ∧ w'.cell? ⟨P2, 5, none⟩ = some (.int .i64 modeb) ∧ w'.cell? ⟨P2, 6, none⟩ = some (.int .i64 nb) ∧ w'.cell? ⟨P2, 7, none⟩ = some (.bool negb))) (by kernel_rfl) ⟨⟨((Keeps.refl [] W1).drew).cell a0 (by simp), ((Keeps.refl [] W1).drew).cell a1 (by simp), ((Keeps.refl [] W1).drew).cell a2 (by simp), ((Keeps.refl [] W1).drew).cell a3 (by simp), ((Keeps.refl [] W1).drew).cell a4 (by simp), ((Keeps.refl [] W1).drew).cell a5 (by simp), ((Keeps.refl [] W1).drew).cell a6 (by simp), ((Keeps.refl [] W1).drew).cell a7 (by simp)⟩, ⟨((Keeps.refl [] W1).drew).cell b0 (by simp), ((Keeps.refl [] W1).drew).cell b1 (by simp), ((Keeps.refl [] W1).drew).cell b2 (by simp), ((Keeps.refl [] W1).drew).cell b3 (by simp), ((Keeps.refl [] W1).drew).cell b4 (by simp), ((Keeps.refl [] W1).drew).cell b5 (by simp), ((Keeps.refl [] W1).drew).cell b6 (by simp), ((Keeps.refl [] W1).drew).cell b7 (by simp)⟩⟩ (fun hHeld => ?_)
      refine take_on (i := 0) (v := ?_) rfl (by kernel_rfl) (by kernel_rfl) (by kernel_rfl) (fun _ _ _ h => h) (by rfl) (by assumption) ?_ ?_
      rotate_left
      · ((intro w hSw; (try dsimp only at hSw); go_simp <;> with_reducible rfl); done)
      try simp only [Act.put, List.setIfInBounds_toArray, List.set_cons_zero, List.set_cons_succ]
      refine take_on (i := 2) (v := ?_) rfl (by kernel_rfl) (by kernel_rfl) (by kernel_rfl) (fun _ _ _ h => h) (by rfl) (by assumption) ?_ ?_
      rotate_left
      · ((intro w hSw; (try dsimp only at hSw); go_simp <;> with_reducible rfl); done)
      try simp only [Act.put, List.setIfInBounds_toArray, List.set_cons_zero, List.set_cons_succ]
      refine branch_two (i := 1) (j := 8) rfl rfl (by kernel_rfl) (by rfl) (by rfl) (fun K hK => ?_) (fun K hK => ?_)
      · go_simp
        refine Calls.mono (lstar_any (.node opa saa sca seta kaa kca kidsa mna mxa modea na nega) _ (OA.out.keep (KW.out.trans ((Keeps.refl [] W1).drew)))) ?_
        rintro e v1 ⟨m4, rfl, ht4, ho4, hk1⟩
        have K1 := Lib.hid (((Keeps.refl [] W1).drew).trans hk1)
        obtain ⟨r4, hr4⟩ : ∃ r4, r4 = m4 := ⟨_, rfl⟩
        rw [← hr4] at ht4 ho4
        have R4 := Lib.hid hr4
        rw [TA.out] at ht4
        have TT4 := Lib.hid ht4
        have OO4 := Lib.hid ho4
        clear hr4 ht4 ho4 
        obtain ⟨op4, sa4, sc4, set4, ka4, kc4, kids4, mn4, mx4, mode4, n4, neg4⟩ := m4
        simp only [MRe.val]
        clear hk1
        refine hK.out _ _ (⟨⟨K1.out.cell a0 (by simp), K1.out.cell a1 (by simp), K1.out.cell a2 (by simp), K1.out.cell a3 (by simp), K1.out.cell a4 (by simp), K1.out.cell a5 (by simp), K1.out.cell a6 (by simp), K1.out.cell a7 (by simp)⟩, ⟨K1.out.cell b0 (by simp), K1.out.cell b1 (by simp), K1.out.cell b2 (by simp), K1.out.cell b3 (by simp), K1.out.cell b4 (by simp), K1.out.cell b5 (by simp), K1.out.cell b6 (by simp), K1.out.cell b7 (by simp)⟩⟩) (fun hHeld => ?_)
        clear hK K
        try simp only [Act.put, List.setIfInBounds_toArray, List.set_cons_zero, List.set_cons_succ]
        refine branch_two (i := 3) (j := 8) rfl rfl (by kernel_rfl) (by rfl) (by rfl) (fun K hK => ?_) (fun K hK => ?_)
        · go_simp
          refine Calls.mono (lcat_any (.node op4 sa4 sc4 set4 ka4 kc4 kids4 mn4 mx4 mode4 n4 neg4) (.node opb sab scb setb kab kcb kidsb mnb mxb modeb nb negb) _ (by rw [← R4.out]; exact OO4.out) (OB.out.keep (KW.out.trans K1.out))) ?_
          rintro e v2 ⟨m5, rfl, ht5, ho5, hk2⟩
          have K2 := Lib.hid (K1.out.trans hk2)
          obtain ⟨r5, hr5⟩ : ∃ r5, r5 = m5 := ⟨_, rfl⟩
          rw [← hr5] at ht5 ho5
          have R5 := Lib.hid hr5
          rw [← R4.out, TT4.out, TB.out] at ht5
          have TT5 := Lib.hid ht5
          have OO5 := Lib.hid ho5
          clear hr5 ht5 ho5 
          obtain ⟨op5, sa5, sc5, set5, ka5, kc5, kids5, mn5, mx5, mode5, n5, neg5⟩ := m5
          simp only [MRe.val]
          have OO4 := Lib.hid (OO4.out.keep hk2)
          clear hk2
          refine hK.out _ _ (⟨⟨K2.out.cell a0 (by simp), K2.out.cell a1 (by simp), K2.out.cell a2 (by simp), K2.out.cell a3 (by simp), K2.out.cell a4 (by simp), K2.out.cell a5 (by simp), K2.out.cell a6 (by simp), K2.out.cell a7 (by simp)⟩, ⟨K2.out.cell b0 (by simp), K2.out.cell b1 (by simp), K2.out.cell b2 (by simp), K2.out.cell b3 (by simp), K2.out.cell b4 (by simp), K2.out.cell b5 (by simp), K2.out.cell b6 (by simp), K2.out.cell b7 (by simp)⟩⟩) (fun hHeld => ?_)
          clear hK K
          try simp only [Act.put, List.setIfInBounds_toArray, List.set_cons_zero, List.set_cons_succ]
          refine branch_two (i := 4) (j := 8) rfl rfl (by kernel_rfl) (by rfl) (by rfl) (fun K hK => ?_) (fun K hK => ?_)
          · go_simp
            refine Calls.mono (ap12 (.node op5 sa5 sc5 set5 ka5 kc5 kids5 mn5 mx5 mode5 n5 neg5) _ (by rw [← R5.out]; exact OO5.out) (by rw [← R5.out]; exact TT5.out)) ?_
            rintro e v3 ⟨m9, rfl, ht9, ho9, hk3, hf9⟩
            have K3 := Lib.hid (K2.out.trans hk3)
            obtain ⟨r9, hr9⟩ : ∃ r9, r9 = m9 := ⟨_, rfl⟩
            rw [← hr9] at ht9 ho9 hf9
            have R9 := Lib.hid hr9
            have TT9 := Lib.hid ht9
            have OO9 := Lib.hid ho9
            have FF := Lib.hid hf9
            clear hr9 ht9 ho9 hf9
            obtain ⟨op9, sa9, sc9, set9, ka9, kc9, kids9, mn9, mx9, mode9, n9, neg9⟩ := m9
            simp only [MRe.val]
            have OO4 := Lib.hid (OO4.out.keep hk3)
            have OO5 := Lib.hid (OO5.out.keep hk3)
            clear hk3
            refine hK.out _ _ (⟨⟨K3.out.cell a0 (by simp), K3.out.cell a1 (by simp), K3.out.cell a2 (by simp), K3.out.cell a3 (by simp), K3.out.cell a4 (by simp), K3.out.cell a5 (by simp), K3.out.cell a6 (by simp), K3.out.cell a7 (by simp)⟩, ⟨K3.out.cell b0 (by simp), K3.out.cell b1 (by simp), K3.out.cell b2 (by simp), K3.out.cell b3 (by simp), K3.out.cell b4 (by simp), K3.out.cell b5 (by simp), K3.out.cell b6 (by simp), K3.out.cell b7 (by simp)⟩⟩) (fun hHeld => ?_)
            clear hK K
            try simp only [Act.put, List.setIfInBounds_toArray, List.set_cons_zero, List.set_cons_succ]
            refine take_on (i := 5) (v := ?_) rfl (by kernel_rfl) (by kernel_rfl) (by kernel_rfl) (fun _ _ _ h => h) (by rfl) (by assumption) ?_ ?_
            rotate_left
            · ((intro w hSw; (try dsimp only at hSw); go_simp <;> with_reducible rfl); done)
            try simp only [Act.put, List.setIfInBounds_toArray, List.set_cons_zero, List.set_cons_succ]
            refine take_on (i := 6) (v := ?_) rfl (by kernel_rfl) (by kernel_rfl) (by kernel_rfl) (fun _ _ _ h => h) (by rfl) (by assumption) ?_ ?_
            rotate_left
            · ((intro w hSw; (try dsimp only at hSw); go_simp <;> with_reducible rfl); done)
            try simp only [Act.put, List.setIfInBounds_toArray, List.set_cons_zero, List.set_cons_succ]
            refine take_on (i := 7) (v := ?_) rfl (by kernel_rfl) (by kernel_rfl) (by kernel_rfl) (fun _ _ _ h => h) (by rfl) (by assumption) ?_ ?_
            rotate_left
            · ((intro w hSw; (try dsimp only at hSw); go_simp <;> with_reducible rfl); done)
            try simp only [Act.put, List.setIfInBounds_toArray, List.set_cons_zero, List.set_cons_succ]
            refine branch_one (i := 8) rfl (by kernel_rfl) (by rfl) (fun K hK => ?_)
            go_simp
            have KA := Lib.hid (K3.out.alloc (.cells #[.int .i64 0, .slice none 0 0, .slice none 0 0, .int .i64 0, .int .i64 0, .int .i64 0, .int .i64 0, .bool false] 64))
            have hz := heap_alloc_new v3 (.cells #[.int .i64 0, .slice none 0 0, .slice none 0 0, .int .i64 0, .int .i64 0, .int .i64 0, .int .i64 0, .bool false] 64)
            obtain ⟨z0, z1, z2, z3, z4, z5, z6, z7⟩ := row_cells hz
            have zf := row_frozen hz
            clear hz
            refine hK.out _ _ (⟨⟨KA.out.cell a0 (by simp), KA.out.cell a1 (by simp), KA.out.cell a2 (by simp), KA.out.cell a3 (by simp), KA.out.cell a4 (by simp), KA.out.cell a5 (by simp), KA.out.cell a6 (by simp), KA.out.cell a7 (by simp)⟩, ⟨KA.out.cell b0 (by simp), KA.out.cell b1 (by simp), KA.out.cell b2 (by simp), KA.out.cell b3 (by simp), KA.out.cell b4 (by simp), KA.out.cell b5 (by simp), KA.out.cell b6 (by simp), KA.out.cell b7 (by simp)⟩⟩) (fun hHeld => ?_)
            clear hK K
            try simp only [Act.put, List.setIfInBounds_toArray, List.set_cons_zero, List.set_cons_succ]
            refine branch_one (i := 9) rfl (by kernel_rfl) (by rfl) (fun K hK => ?_)
            go_simp
            have KB := Lib.hid (K3.out.alloc (.cells #[.int .i64 op9, .slice sa9 set9.length sc9, .slice ka9 kids9.length kc9, .int .i64 mn9, .int .i64 mx9, .int .i64 mode9, .int .i64 n9, .bool neg9] 64))
            refine hK.out _ _ (⟨⟨KB.out.cell a0 (by simp), KB.out.cell a1 (by simp), KB.out.cell a2 (by simp), KB.out.cell a3 (by simp), KB.out.cell a4 (by simp), KB.out.cell a5 (by simp), KB.out.cell a6 (by simp), KB.out.cell a7 (by simp)⟩, ⟨KB.out.cell b0 (by simp), KB.out.cell b1 (by simp), KB.out.cell b2 (by simp), KB.out.cell b3 (by simp), KB.out.cell b4 (by simp), KB.out.cell b5 (by simp), KB.out.cell b6 (by simp), KB.out.cell b7 (by simp)⟩⟩) (fun hHeld => ?_)
            clear hK K
            try simp only [Act.put, List.setIfInBounds_toArray, List.set_cons_zero, List.set_cons_succ]
            refine take_on (i := 10) (v := ?_) rfl (by kernel_rfl) (by kernel_rfl) (by kernel_rfl) (fun _ _ _ h => h) (by rfl) (by assumption) ?_ ?_
            rotate_left
            · ((intro w hSw; (try dsimp only at hSw); go_simp <;> with_reducible rfl); done)
            try simp only [Act.put, List.setIfInBounds_toArray, List.set_cons_zero, List.set_cons_succ]
            refine wpAnyH_done (by kernel_rfl) ?_ _
            go_wp2
            go_meet
            exact ⟨_, _, rfl, rfl, rfl, box_late OO9.out TT9.out (by rw [R9.out]; rfl), KB.out⟩
          · go_simp
            have K3 := Lib.hid (show Keeps [] W1 (v2.alloc (.cells #[.int .i64 0, .slice none 0 0, .slice none 0 0, .int .i64 0, .int .i64 0, .int .i64 0, .int .i64 0, .bool false] 64)) from (K2.out.alloc (.cells #[.int .i64 0, .slice none 0 0, .slice none 0 0, .int .i64 0, .int .i64 0, .int .i64 0, .int .i64 0, .bool false] 64)))
            have Z3 := Lib.hid (show (v2.alloc (.cells #[.int .i64 0, .slice none 0 0, .slice none 0 0, .int .i64 0, .int .i64 0, .int .i64 0, .int .i64 0, .bool false] 64)).heap[v2.heap.size]? = some (.cells #[.int .i64 0, .slice none 0 0, .slice none 0 0, .int .i64 0, .int .i64 0, .int .i64 0, .int .i64 0, .bool false] 64 (0, 0)) from by have h := (heap_alloc_new v2 (.cells #[.int .i64 0, .slice none 0 0, .slice none 0 0, .int .i64 0, .int .i64 0, .int .i64 0, .int .i64 0, .bool false] 64)); simpa using h)
            have GW := Lib.hid (show W1.heap.size ≤ v2.heap.size from by have h := K2.out.size; simpa using h)
            have OO4 := Lib.hid (OO4.out.keep (Keeps.a1 _ (.cells #[.int .i64 0, .slice none 0 0, .slice none 0 0, .int .i64 0, .int .i64 0, .int .i64 0, .int .i64 0, .bool false] 64)))
            have OO5 := Lib.hid (OO5.out.keep (Keeps.a1 _ (.cells #[.int .i64 0, .slice none 0 0, .slice none 0 0, .int .i64 0, .int .i64 0, .int .i64 0, .int .i64 0, .bool false] 64)))
            refine hK.out _ _ (⟨⟨K3.out.cell a0 (by simp), K3.out.cell a1 (by simp), K3.out.cell a2 (by simp), K3.out.cell a3 (by simp), K3.out.cell a4 (by simp), K3.out.cell a5 (by simp), K3.out.cell a6 (by simp), K3.out.cell a7 (by simp)⟩, ⟨K3.out.cell b0 (by simp), K3.out.cell b1 (by simp), K3.out.cell b2 (by simp), K3.out.cell b3 (by simp), K3.out.cell b4 (by simp), K3.out.cell b5 (by simp), K3.out.cell b6 (by simp), K3.out.cell b7 (by simp)⟩⟩) (fun hHeld => ?_)
            clear hK K
            try simp only [Act.put, List.setIfInBounds_toArray, List.set_cons_zero, List.set_cons_succ]
            refine branch_one (i := 4) rfl (by kernel_rfl) (by rfl) (fun K hK => ?_)
            go_simp
            refine Calls.mono (ap12 (.node op5 sa5 sc5 set5 ka5 kc5 kids5 mn5 mx5 mode5 n5 neg5) _ (by rw [← R5.out]; exact OO5.out) (by rw [← R5.out]; exact TT5.out)) ?_
            rintro e v4 ⟨m9, rfl, ht9, ho9, hk4, hf9⟩
            have K4 := Lib.hid (K3.out.trans hk4)
            have Z4 := Lib.hid (hk4.heap Z3.out (by simp))
            have LT := Lib.hid (lt_of_block Z3.out)
            obtain ⟨r9, hr9⟩ : ∃ r9, r9 = m9 := ⟨_, rfl⟩
            rw [← hr9] at ht9 ho9 hf9
            have R9 := Lib.hid hr9
            have TT9 := Lib.hid ht9
            have OO9 := Lib.hid ho9
            have FF := Lib.hid hf9
            clear hr9 ht9 ho9 hf9
            obtain ⟨op9, sa9, sc9, set9, ka9, kc9, kids9, mn9, mx9, mode9, n9, neg9⟩ := m9
            simp only [MRe.val]
            have OO4 := Lib.hid (OO4.out.keep hk4)
            have OO5 := Lib.hid (OO5.out.keep hk4)
            clear hk4
            refine hK.out _ _ (⟨⟨K4.out.cell a0 (by simp), K4.out.cell a1 (by simp), K4.out.cell a2 (by simp), K4.out.cell a3 (by simp), K4.out.cell a4 (by simp), K4.out.cell a5 (by simp), K4.out.cell a6 (by simp), K4.out.cell a7 (by simp)⟩, ⟨K4.out.cell b0 (by simp), K4.out.cell b1 (by simp), K4.out.cell b2 (by simp), K4.out.cell b3 (by simp), K4.out.cell b4 (by simp), K4.out.cell b5 (by simp), K4.out.cell b6 (by simp), K4.out.cell b7 (by simp)⟩⟩) (fun hHeld => ?_)
            clear hK K
            try simp only [Act.put, List.setIfInBounds_toArray, List.set_cons_zero, List.set_cons_succ]
            refine take_on (i := 5) (v := ?_) rfl (by kernel_rfl) (by kernel_rfl) (by kernel_rfl) (fun _ _ _ h => h) (by rfl) (by assumption) ?_ ?_
            rotate_left
            · ((intro w hSw; (try dsimp only at hSw); go_simp <;> with_reducible rfl); done)
            try simp only [Act.put, List.setIfInBounds_toArray, List.set_cons_zero, List.set_cons_succ]
            refine take_on (i := 6) (v := ?_) rfl (by kernel_rfl) (by kernel_rfl) (by kernel_rfl) (fun _ _ _ h => h) (by rfl) (by assumption) ?_ ?_
            rotate_left
            · ((intro w hSw; (try dsimp only at hSw); go_simp <;> with_reducible rfl); done)
            try simp only [Act.put, List.setIfInBounds_toArray, List.set_cons_zero, List.set_cons_succ]
            refine take_on (i := 7) (v := ?_) rfl (by kernel_rfl) (by kernel_rfl) (by kernel_rfl) (fun _ _ _ h => h) (by rfl) (by assumption) ?_ ?_
            rotate_left
            · ((intro w hSw; (try dsimp only at hSw); go_simp <;> with_reducible rfl); done)
            try simp only [Act.put, List.setIfInBounds_toArray, List.set_cons_zero, List.set_cons_succ]
            obtain ⟨z0, z1, z2, z3, z4, z5, z6, z7⟩ := row_cells Z4.out
            have zf := row_frozen Z4.out
            refine branch_one (i := 9) rfl (by kernel_rfl) (by rfl) (fun K hK => ?_)
            go_simp
            have KB := Lib.hid (K4.out.after (set8_keeps v4 v2.heap.size (.int .i64 op9) (.slice sa9 set9.length sc9) (.slice ka9 kids9.length kc9) (.int .i64 mn9) (.int .i64 mx9) (.int .i64 mode9) (.int .i64 n9) (.bool neg9)) (by intro x hx; simp only [List.mem_cons, List.not_mem_nil, or_false] at hx; subst hx; exact .inr GW.out))
            refine hK.out _ _ (⟨⟨KB.out.cell a0 (by simp), KB.out.cell a1 (by simp), KB.out.cell a2 (by simp), KB.out.cell a3 (by simp), KB.out.cell a4 (by simp), KB.out.cell a5 (by simp), KB.out.cell a6 (by simp), KB.out.cell a7 (by simp)⟩, ⟨KB.out.cell b0 (by simp), KB.out.cell b1 (by simp), KB.out.cell b2 (by simp), KB.out.cell b3 (by simp), KB.out.cell b4 (by simp), KB.out.cell b5 (by simp), KB.out.cell b6 (by simp), KB.out.cell b7 (by simp)⟩⟩) (fun hHeld => ?_)
            clear hK K
            try simp only [Act.put, List.setIfInBounds_toArray, List.set_cons_zero, List.set_cons_succ]
            refine take_on (i := 10) (v := ?_) rfl (by kernel_rfl) (by kernel_rfl) (by kernel_rfl) (fun _ _ _ h => h) (by rfl) (by assumption) ?_ ?_
            rotate_left
            · ((intro w hSw; (try dsimp only at hSw); go_simp <;> with_reducible rfl); done)
            try simp only [Act.put, List.setIfInBounds_toArray, List.set_cons_zero, List.set_cons_succ]
            refine wpAnyH_done (by kernel_rfl) ?_ _
            go_wp2
            go_meet
            exact ⟨_, _, rfl, rfl, rfl, box_early (by rw [← R9.out]; exact OO9.out) (by rw [← R9.out]; exact TT9.out) Z4.out (by rw [← R9.out]; intro h; have h1 := FF.out _ h; have h2 := LT.out; omega), KB.out⟩
        · go_simp
          have K2 := Lib.hid (show Keeps [] W1 (v1.alloc (.cells #[.int .i64 0, .slice none 0 0, .slice none 0 0, .int .i64 0, .int .i64 0, .int .i64 0, .int .i64 0, .bool false] 64)) from (K1.out.alloc (.cells #[.int .i64 0, .slice none 0 0, .slice none 0 0, .int .i64 0, .int .i64 0, .int .i64 0, .int .i64 0, .bool false] 64)))
          have Z2 := Lib.hid (show (v1.alloc (.cells #[.int .i64 0, .slice none 0 0, .slice none 0 0, .int .i64 0, .int .i64 0, .int .i64 0, .int .i64 0, .bool false] 64)).heap[v1.heap.size]? = some (.cells #[.int .i64 0, .slice none 0 0, .slice none 0 0, .int .i64 0, .int .i64 0, .int .i64 0, .int .i64 0, .bool false] 64 (0, 0)) from by have h := (heap_alloc_new v1 (.cells #[.int .i64 0, .slice none 0 0, .slice none 0 0, .int .i64 0, .int .i64 0, .int .i64 0, .int .i64 0, .bool false] 64)); simpa using h)
          have GW := Lib.hid (show W1.heap.size ≤ v1.heap.size from by have h := K1.out.size; simpa using h)
          have OO4 := Lib.hid (OO4.out.keep (Keeps.a1 _ (.cells #[.int .i64 0, .slice none 0 0, .slice none 0 0, .int .i64 0, .int .i64 0, .int .i64 0, .int .i64 0, .bool false] 64)))
          refine hK.out _ _ (⟨⟨K2.out.cell a0 (by simp), K2.out.cell a1 (by simp), K2.out.cell a2 (by simp), K2.out.cell a3 (by simp), K2.out.cell a4 (by simp), K2.out.cell a5 (by simp), K2.out.cell a6 (by simp), K2.out.cell a7 (by simp)⟩, ⟨K2.out.cell b0 (by simp), K2.out.cell b1 (by simp), K2.out.cell b2 (by simp), K2.out.cell b3 (by simp), K2.out.cell b4 (by simp), K2.out.cell b5 (by simp), K2.out.cell b6 (by simp), K2.out.cell b7 (by simp)⟩⟩) (fun hHeld => ?_)
          clear hK K
          try simp only [Act.put, List.setIfInBounds_toArray, List.set_cons_zero, List.set_cons_succ]
          refine branch_one (i := 3) rfl (by kernel_rfl) (by rfl) (fun K hK => ?_)
          go_simp
          refine Calls.mono (lcat_any (.node op4 sa4 sc4 set4 ka4 kc4 kids4 mn4 mx4 mode4 n4 neg4) (.node opb sab scb setb kab kcb kidsb mnb mxb modeb nb negb) _ (by rw [← R4.out]; exact OO4.out) (OB.out.keep (KW.out.trans K2.out))) ?_
          rintro e v3 ⟨m5, rfl, ht5, ho5, hk3⟩
          have K3 := Lib.hid (K2.out.trans hk3)
          have Z3 := Lib.hid (hk3.heap Z2.out (by simp))
          obtain ⟨r5, hr5⟩ : ∃ r5, r5 = m5 := ⟨_, rfl⟩
          rw [← hr5] at ht5 ho5
          have R5 := Lib.hid hr5
          rw [← R4.out, TT4.out, TB.out] at ht5
          have TT5 := Lib.hid ht5
          have OO5 := Lib.hid ho5
          clear hr5 ht5 ho5 
          obtain ⟨op5, sa5, sc5, set5, ka5, kc5, kids5, mn5, mx5, mode5, n5, neg5⟩ := m5
          simp only [MRe.val]
          have OO4 := Lib.hid (OO4.out.keep hk3)
          clear hk3
          refine hK.out _ _ (⟨⟨K3.out.cell a0 (by simp), K3.out.cell a1 (by simp), K3.out.cell a2 (by simp), K3.out.cell a3 (by simp), K3.out.cell a4 (by simp), K3.out.cell a5 (by simp), K3.out.cell a6 (by simp), K3.out.cell a7 (by simp)⟩, ⟨K3.out.cell b0 (by simp), K3.out.cell b1 (by simp), K3.out.cell b2 (by simp), K3.out.cell b3 (by simp), K3.out.cell b4 (by simp), K3.out.cell b5 (by simp), K3.out.cell b6 (by simp), K3.out.cell b7 (by simp)⟩⟩) (fun hHeld => ?_)
          clear hK K
          try simp only [Act.put, List.setIfInBounds_toArray, List.set_cons_zero, List.set_cons_succ]
          refine branch_one (i := 4) rfl (by kernel_rfl) (by rfl) (fun K hK => ?_)
          go_simp
          refine Calls.mono (ap12 (.node op5 sa5 sc5 set5 ka5 kc5 kids5 mn5 mx5 mode5 n5 neg5) _ (by rw [← R5.out]; exact OO5.out) (by rw [← R5.out]; exact TT5.out)) ?_
          rintro e v4 ⟨m9, rfl, ht9, ho9, hk4, hf9⟩
          have K4 := Lib.hid (K3.out.trans hk4)
          have Z4 := Lib.hid (hk4.heap Z3.out (by simp))
          have LT := Lib.hid (lt_of_block Z3.out)
          obtain ⟨r9, hr9⟩ : ∃ r9, r9 = m9 := ⟨_, rfl⟩
          rw [← hr9] at ht9 ho9 hf9
          have R9 := Lib.hid hr9
          have TT9 := Lib.hid ht9
          have OO9 := Lib.hid ho9
          have FF := Lib.hid hf9
          clear hr9 ht9 ho9 hf9
          obtain ⟨op9, sa9, sc9, set9, ka9, kc9, kids9, mn9, mx9, mode9, n9, neg9⟩ := m9
          simp only [MRe.val]
          have OO4 := Lib.hid (OO4.out.keep hk4)
          have OO5 := Lib.hid (OO5.out.keep hk4)
          clear hk4
          refine hK.out _ _ (⟨⟨K4.out.cell a0 (by simp), K4.out.cell a1 (by simp), K4.out.cell a2 (by simp), K4.out.cell a3 (by simp), K4.out.cell a4 (by simp), K4.out.cell a5 (by simp), K4.out.cell a6 (by simp), K4.out.cell a7 (by simp)⟩, ⟨K4.out.cell b0 (by simp), K4.out.cell b1 (by simp), K4.out.cell b2 (by simp), K4.out.cell b3 (by simp), K4.out.cell b4 (by simp), K4.out.cell b5 (by simp), K4.out.cell b6 (by simp), K4.out.cell b7 (by simp)⟩⟩) (fun hHeld => ?_)
          clear hK K
          try simp only [Act.put, List.setIfInBounds_toArray, List.set_cons_zero, List.set_cons_succ]
          refine take_on (i := 5) (v := ?_) rfl (by kernel_rfl) (by kernel_rfl) (by kernel_rfl) (fun _ _ _ h => h) (by rfl) (by assumption) ?_ ?_
          rotate_left
          · ((intro w hSw; (try dsimp only at hSw); go_simp <;> with_reducible rfl); done)
          try simp only [Act.put, List.setIfInBounds_toArray, List.set_cons_zero, List.set_cons_succ]
          refine take_on (i := 6) (v := ?_) rfl (by kernel_rfl) (by kernel_rfl) (by kernel_rfl) (fun _ _ _ h => h) (by rfl) (by assumption) ?_ ?_
          rotate_left
          · ((intro w hSw; (try dsimp only at hSw); go_simp <;> with_reducible rfl); done)
          try simp only [Act.put, List.setIfInBounds_toArray, List.set_cons_zero, List.set_cons_succ]
          refine take_on (i := 7) (v := ?_) rfl (by kernel_rfl) (by kernel_rfl) (by kernel_rfl) (fun _ _ _ h => h) (by rfl) (by assumption) ?_ ?_
          rotate_left
          · ((intro w hSw; (try dsimp only at hSw); go_simp <;> with_reducible rfl); done)
          try simp only [Act.put, List.setIfInBounds_toArray, List.set_cons_zero, List.set_cons_succ]
          obtain ⟨z0, z1, z2, z3, z4, z5, z6, z7⟩ := row_cells Z4.out
          have zf := row_frozen Z4.out
          refine branch_one (i := 9) rfl (by kernel_rfl) (by rfl) (fun K hK => ?_)
          go_simp
          have KB := Lib.hid (K4.out.after (set8_keeps v4 v1.heap.size (.int .i64 op9) (.slice sa9 set9.length sc9) (.slice ka9 kids9.length kc9) (.int .i64 mn9) (.int .i64 mx9) (.int .i64 mode9) (.int .i64 n9) (.bool neg9)) (by intro x hx; simp only [List.mem_cons, List.not_mem_nil, or_false] at hx; subst hx; exact .inr GW.out))
          refine hK.out _ _ (⟨⟨KB.out.cell a0 (by simp), KB.out.cell a1 (by simp), KB.out.cell a2 (by simp), KB.out.cell a3 (by simp), KB.out.cell a4 (by simp), KB.out.cell a5 (by simp), KB.out.cell a6 (by simp), KB.out.cell a7 (by simp)⟩, ⟨KB.out.cell b0 (by simp), KB.out.cell b1 (by simp), KB.out.cell b2 (by simp), KB.out.cell b3 (by simp), KB.out.cell b4 (by simp), KB.out.cell b5 (by simp), KB.out.cell b6 (by simp), KB.out.cell b7 (by simp)⟩⟩) (fun hHeld => ?_)
          clear hK K
          try simp only [Act.put, List.setIfInBounds_toArray, List.set_cons_zero, List.set_cons_succ]
          refine take_on (i := 10) (v := ?_) rfl (by kernel_rfl) (by kernel_rfl) (by kernel_rfl) (fun _ _ _ h => h) (by rfl) (by assumption) ?_ ?_
          rotate_left
          · ((intro w hSw; (try dsimp only at hSw); go_simp <;> with_reducible rfl); done)
          try simp only [Act.put, List.setIfInBounds_toArray, List.set_cons_zero, List.set_cons_succ]
          refine wpAnyH_done (by kernel_rfl) ?_ _
          go_wp2
          go_meet
          exact ⟨_, _, rfl, rfl, rfl, box_early (by rw [← R9.out]; exact OO9.out) (by rw [← R9.out]; exact TT9.out) Z4.out (by rw [← R9.out]; intro h; have h1 := FF.out _ h; have h2 := LT.out; omega), KB.out⟩
      · go_simp
        have K1 := Lib.hid (show Keeps [] W1 (W1.alloc (.cells #[.int .i64 0, .slice none 0 0, .slice none 0 0, .int .i64 0, .int .i64 0, .int .i64 0, .int .i64 0, .bool false] 64)).drew from (((Keeps.refl [] W1).alloc (.cells #[.int .i64 0, .slice none 0 0, .slice none 0 0, .int .i64 0, .int .i64 0, .int .i64 0, .int .i64 0, .bool false] 64)).drew))
        have Z1 := Lib.hid (show (W1.alloc (.cells #[.int .i64 0, .slice none 0 0, .slice none 0 0, .int .i64 0, .int .i64 0, .int .i64 0, .int .i64 0, .bool false] 64)).drew.heap[W1.heap.size]? = some (.cells #[.int .i64 0, .slice none 0 0, .slice none 0 0, .int .i64 0, .int .i64 0, .int .i64 0, .int .i64 0, .bool false] 64 (0, 0)) from (heap_alloc_new W1 (.cells #[.int .i64 0, .slice none 0 0, .slice none 0 0, .int .i64 0, .int .i64 0, .int .i64 0, .int .i64 0, .bool false] 64) : (W1.alloc (.cells #[.int .i64 0, .slice none 0 0, .slice none 0 0, .int .i64 0, .int .i64 0, .int .i64 0, .int .i64 0, .bool false] 64)).heap[W1.heap.size]? = some (.cells #[.int .i64 0, .slice none 0 0, .slice none 0 0, .int .i64 0, .int .i64 0, .int .i64 0, .int .i64 0, .bool false] 64 (0, 0))))
        have GW := Lib.hid (Nat.le_refl W1.heap.size)
        refine hK.out _ _ (⟨⟨K1.out.cell a0 (by simp), K1.out.cell a1 (by simp), K1.out.cell a2 (by simp), K1.out.cell a3 (by simp), K1.out.cell a4 (by simp), K1.out.cell a5 (by simp), K1.out.cell a6 (by simp), K1.out.cell a7 (by simp)⟩, ⟨K1.out.cell b0 (by simp), K1.out.cell b1 (by simp), K1.out.cell b2 (by simp), K1.out.cell b3 (by simp), K1.out.cell b4 (by simp), K1.out.cell b5 (by simp), K1.out.cell b6 (by simp), K1.out.cell b7 (by simp)⟩⟩) (fun hHeld => ?_)
        clear hK K
        try simp only [Act.put, List.setIfInBounds_toArray, List.set_cons_zero, List.set_cons_succ]
        refine branch_one (i := 1) rfl (by kernel_rfl) (by rfl) (fun K hK => ?_)
        go_simp
        refine Calls.mono (lstar_any (.node opa saa sca seta kaa kca kidsa mna mxa modea na nega) _ (OA.out.keep (KW.out.trans K1.out))) ?_
        rintro e v2 ⟨m4, rfl, ht4, ho4, hk2⟩
        have K2 := Lib.hid (K1.out.trans hk2)
        have Z2 := Lib.hid (hk2.heap Z1.out (by simp))
        obtain ⟨r4, hr4⟩ : ∃ r4, r4 = m4 := ⟨_, rfl⟩
        rw [← hr4] at ht4 ho4
        have R4 := Lib.hid hr4
        rw [TA.out] at ht4
        have TT4 := Lib.hid ht4
        have OO4 := Lib.hid ho4
        clear hr4 ht4 ho4 
        obtain ⟨op4, sa4, sc4, set4, ka4, kc4, kids4, mn4, mx4, mode4, n4, neg4⟩ := m4
        simp only [MRe.val]
        clear hk2
        refine hK.out _ _ (⟨⟨K2.out.cell a0 (by simp), K2.out.cell a1 (by simp), K2.out.cell a2 (by simp), K2.out.cell a3 (by simp), K2.out.cell a4 (by simp), K2.out.cell a5 (by simp), K2.out.cell a6 (by simp), K2.out.cell a7 (by simp)⟩, ⟨K2.out.cell b0 (by simp), K2.out.cell b1 (by simp), K2.out.cell b2 (by simp), K2.out.cell b3 (by simp), K2.out.cell b4 (by simp), K2.out.cell b5 (by simp), K2.out.cell b6 (by simp), K2.out.cell b7 (by simp)⟩⟩) (fun hHeld => ?_)
        clear hK K
        try simp only [Act.put, List.setIfInBounds_toArray, List.set_cons_zero, List.set_cons_succ]
        refine branch_one (i := 3) rfl (by kernel_rfl) (by rfl) (fun K hK => ?_)
        go_simp
        refine Calls.mono (lcat_any (.node op4 sa4 sc4 set4 ka4 kc4 kids4 mn4 mx4 mode4 n4 neg4) (.node opb sab scb setb kab kcb kidsb mnb mxb modeb nb negb) _ (by rw [← R4.out]; exact OO4.out) (OB.out.keep (KW.out.trans K2.out))) ?_
        rintro e v3 ⟨m5, rfl, ht5, ho5, hk3⟩
        have K3 := Lib.hid (K2.out.trans hk3)
        have Z3 := Lib.hid (hk3.heap Z2.out (by simp))
        obtain ⟨r5, hr5⟩ : ∃ r5, r5 = m5 := ⟨_, rfl⟩
        rw [← hr5] at ht5 ho5
        have R5 := Lib.hid hr5
        rw [← R4.out, TT4.out, TB.out] at ht5
        have TT5 := Lib.hid ht5
        have OO5 := Lib.hid ho5
        clear hr5 ht5 ho5 
        obtain ⟨op5, sa5, sc5, set5, ka5, kc5, kids5, mn5, mx5, mode5, n5, neg5⟩ := m5
        simp only [MRe.val]
        have OO4 := Lib.hid (OO4.out.keep hk3)
        clear hk3
        refine hK.out _ _ (⟨⟨K3.out.cell a0 (by simp), K3.out.cell a1 (by simp), K3.out.cell a2 (by simp), K3.out.cell a3 (by simp), K3.out.cell a4 (by simp), K3.out.cell a5 (by simp), K3.out.cell a6 (by simp), K3.out.cell a7 (by simp)⟩, ⟨K3.out.cell b0 (by simp), K3.out.cell b1 (by simp), K3.out.cell b2 (by simp), K3.out.cell b3 (by simp), K3.out.cell b4 (by simp), K3.out.cell b5 (by simp), K3.out.cell b6 (by simp), K3.out.cell b7 (by simp)⟩⟩) (fun hHeld => ?_)
        clear hK K
        try simp only [Act.put, List.setIfInBounds_toArray, List.set_cons_zero, List.set_cons_succ]
        refine branch_one (i := 4) rfl (by kernel_rfl) (by rfl) (fun K hK => ?_)
        go_simp
        refine Calls.mono (ap12 (.node op5 sa5 sc5 set5 ka5 kc5 kids5 mn5 mx5 mode5 n5 neg5) _ (by rw [← R5.out]; exact OO5.out) (by rw [← R5.out]; exact TT5.out)) ?_
        rintro e v4 ⟨m9, rfl, ht9, ho9, hk4, hf9⟩
        have K4 := Lib.hid (K3.out.trans hk4)
        have Z4 := Lib.hid (hk4.heap Z3.out (by simp))
        have LT := Lib.hid (lt_of_block Z3.out)
        obtain ⟨r9, hr9⟩ : ∃ r9, r9 = m9 := ⟨_, rfl⟩
        rw [← hr9] at ht9 ho9 hf9
        have R9 := Lib.hid hr9
        have TT9 := Lib.hid ht9
        have OO9 := Lib.hid ho9
        have FF := Lib.hid hf9
        clear hr9 ht9 ho9 hf9
        obtain ⟨op9, sa9, sc9, set9, ka9, kc9, kids9, mn9, mx9, mode9, n9, neg9⟩ := m9
        simp only [MRe.val]
        have OO4 := Lib.hid (OO4.out.keep hk4)
        have OO5 := Lib.hid (OO5.out.keep hk4)
        clear hk4
        refine hK.out _ _ (⟨⟨K4.out.cell a0 (by simp), K4.out.cell a1 (by simp), K4.out.cell a2 (by simp), K4.out.cell a3 (by simp), K4.out.cell a4 (by simp), K4.out.cell a5 (by simp), K4.out.cell a6 (by simp), K4.out.cell a7 (by simp)⟩, ⟨K4.out.cell b0 (by simp), K4.out.cell b1 (by simp), K4.out.cell b2 (by simp), K4.out.cell b3 (by simp), K4.out.cell b4 (by simp), K4.out.cell b5 (by simp), K4.out.cell b6 (by simp), K4.out.cell b7 (by simp)⟩⟩) (fun hHeld => ?_)
        clear hK K
        try simp only [Act.put, List.setIfInBounds_toArray, List.set_cons_zero, List.set_cons_succ]
        refine take_on (i := 5) (v := ?_) rfl (by kernel_rfl) (by kernel_rfl) (by kernel_rfl) (fun _ _ _ h => h) (by rfl) (by assumption) ?_ ?_
        rotate_left
        · ((intro w hSw; (try dsimp only at hSw); go_simp <;> with_reducible rfl); done)
        try simp only [Act.put, List.setIfInBounds_toArray, List.set_cons_zero, List.set_cons_succ]
        refine take_on (i := 6) (v := ?_) rfl (by kernel_rfl) (by kernel_rfl) (by kernel_rfl) (fun _ _ _ h => h) (by rfl) (by assumption) ?_ ?_
        rotate_left
        · ((intro w hSw; (try dsimp only at hSw); go_simp <;> with_reducible rfl); done)
        try simp only [Act.put, List.setIfInBounds_toArray, List.set_cons_zero, List.set_cons_succ]
        refine take_on (i := 7) (v := ?_) rfl (by kernel_rfl) (by kernel_rfl) (by kernel_rfl) (fun _ _ _ h => h) (by rfl) (by assumption) ?_ ?_
        rotate_left
        · ((intro w hSw; (try dsimp only at hSw); go_simp <;> with_reducible rfl); done)
        try simp only [Act.put, List.setIfInBounds_toArray, List.set_cons_zero, List.set_cons_succ]
        obtain ⟨z0, z1, z2, z3, z4, z5, z6, z7⟩ := row_cells Z4.out
        have zf := row_frozen Z4.out
        refine branch_one (i := 9) rfl (by kernel_rfl) (by rfl) (fun K hK => ?_)
        go_simp
        have KB := Lib.hid (K4.out.after (set8_keeps v4 W1.heap.size (.int .i64 op9) (.slice sa9 set9.length sc9) (.slice ka9 kids9.length kc9) (.int .i64 mn9) (.int .i64 mx9) (.int .i64 mode9) (.int .i64 n9) (.bool neg9)) (by intro x hx; simp only [List.mem_cons, List.not_mem_nil, or_false] at hx; subst hx; exact .inr GW.out))
        refine hK.out _ _ (⟨⟨KB.out.cell a0 (by simp), KB.out.cell a1 (by simp), KB.out.cell a2 (by simp), KB.out.cell a3 (by simp), KB.out.cell a4 (by simp), KB.out.cell a5 (by simp), KB.out.cell a6 (by simp), KB.out.cell a7 (by simp)⟩, ⟨KB.out.cell b0 (by simp), KB.out.cell b1 (by simp), KB.out.cell b2 (by simp), KB.out.cell b3 (by simp), KB.out.cell b4 (by simp), KB.out.cell b5 (by simp), KB.out.cell b6 (by simp), KB.out.cell b7 (by simp)⟩⟩) (fun hHeld => ?_)
        clear hK K
        try simp only [Act.put, List.setIfInBounds_toArray, List.set_cons_zero, List.set_cons_succ]
        refine take_on (i := 10) (v := ?_) rfl (by kernel_rfl) (by kernel_rfl) (by kernel_rfl) (fun _ _ _ h => h) (by rfl) (by assumption) ?_ ?_
        rotate_left
        · ((intro w hSw; (try dsimp only at hSw); go_simp <;> with_reducible rfl); done)
        try simp only [Act.put, List.setIfInBounds_toArray, List.set_cons_zero, List.set_cons_succ]
        refine wpAnyH_done (by kernel_rfl) ?_ _
        go_wp2
        go_meet
        exact ⟨_, _, rfl, rfl, rfl, box_early (by rw [← R9.out]; exact OO9.out) (by rw [← R9.out]; exact TT9.out) Z4.out (by rw [← R9.out]; intro h; have h1 := FF.out _ h; have h2 := LT.out; omega), KB.out⟩
    case rest =>
      obtain ⟨G10, W2, rfl, rfl, rfl, bx, kx⟩ := hcut
      have BU := Lib.hid bx
      have BY := Lib.hid (BY.out.keep kx)
      have BZ := Lib.hid (BZ.out.keep kx)
      have KW := Lib.hid (KW.out.trans kx)
      replace a0 := kx.cell a0 (by simp)
      replace a1 := kx.cell a1 (by simp)
      replace a2 := kx.cell a2 (by simp)
      replace a3 := kx.cell a3 (by simp)
      replace a4 := kx.cell a4 (by simp)
      replace a5 := kx.cell a5 (by simp)
      replace a6 := kx.cell a6 (by simp)
      replace a7 := kx.cell a7 (by simp)
      replace b0 := kx.cell b0 (by simp)
      replace b1 := kx.cell b1 (by simp)
      replace b2 := kx.cell b2 (by simp)
      replace b3 := kx.cell b3 (by simp)
      replace b4 := kx.cell b4 (by simp)
      replace b5 := kx.cell b5 (by simp)
      replace b6 := kx.cell b6 (by simp)
      replace b7 := kx.cell b7 (by simp)
      clear bx kx
      go_upto_region 10 with fail
      go_cut [12, 13] from 61 to 70 (fun s4 s5 wx => ∃ (g : Nat) (V : World), V = wx ∧ s4 = .pointer (some ⟨g, 0, none⟩) ∧ s5 = .bool true ∧ BoxIs V g (mkT 7 [lA]) ∧ Keeps [] W2 V)
      case first =>
        refine wp_region_held_drew (S := fun w' => (w'.cell? ⟨P1, 0, none⟩ = some (.int .i64 opa) ∧ w'.cell? ⟨P1, 1, none⟩ = some (.slice saa seta.length sca) ∧ w'.cell? ⟨P1, 2, none⟩ = some (.slice kaa kidsa.length kca) ∧ w'.cell? ⟨P1, 3, none⟩ = some (.int .i64 mna) ∧ w'.cell? ⟨P1, 4, none⟩ = some (.int .i64 mxa) ∧ w'.cell? ⟨P1, 5, none⟩ = some (.int .i64 modea) ∧ w'.cell? ⟨P1, 6, none⟩ = some (.int .i64 na) ∧ w'.cell? ⟨P1, 7, none⟩ = some (.bool nega)) ∧ (w'.cell? ⟨P2, 0, none⟩ = some (.int .i64 opb) ∧ w'.cell? ⟨P2, 1, none⟩ = some (.slice sab setb.length scb) ∧ w'.cell? ⟨P2, 2, none⟩ = some (.slice kab kidsb.length kcb) ∧ w'.cell? ⟨P2, 3, none⟩ = some (.int .i64 mnb) ∧ w'.cell? ⟨P2, 4, none⟩ = some (.int .i64 mxb) ∧ w'.cell? ⟨P2, 5, none⟩ = some (.int .i64 modeb) ∧ w'.cell? ⟨P2, 6, none⟩ = some (.int .i64 nb) ∧ w'.cell? ⟨P2, 7, none⟩ = some (.bool negb))) (by kernel_rfl) ⟨⟨((Keeps.refl [] W2).drew).cell a0 (by simp), ((Keeps.refl [] W2).drew).cell a1 (by simp), ((Keeps.refl [] W2).drew).cell a2 (by simp), ((Keeps.refl [] W2).drew).cell a3 (by simp), ((Keeps.refl [] W2).drew).cell a4 (by simp), ((Keeps.refl [] W2).drew).cell a5 (by simp), ((Keeps.refl [] W2).drew).cell a6 (by simp), ((Keeps.refl [] W2).drew).cell a7 (by simp)⟩, ⟨((Keeps.refl [] W2).drew).cell b0 (by simp), ((Keeps.refl [] W2).drew).cell b1 (by simp), ((Keeps.refl [] W2).drew).cell b2 (by simp), ((Keeps.refl [] W2).drew).cell b3 (by simp), ((Keeps.refl [] W2).drew).cell b4 (by simp), ((Keeps.refl [] W2).drew).cell b5 (by simp), ((Keeps.refl [] W2).drew).cell b6 (by simp), ((Keeps.refl [] W2).drew).cell b7 (by simp)⟩⟩ (fun hHeld => ?_)
        refine take_on (i := 0) (v := ?_) rfl (by kernel_rfl) (by kernel_rfl) (by kernel_rfl) (fun _ _ _ h => h) (by rfl) (by assumption) ?_ ?_
        rotate_left
        · ((intro w hSw; (try dsimp only at hSw); go_simp <;> with_reducible rfl); done)
        try simp only [Act.put, List.setIfInBounds_toArray, List.set_cons_zero, List.set_cons_succ]
        refine take_on (i := 1) (v := ?_) rfl (by kernel_rfl) (by kernel_rfl) (by kernel_rfl) (fun _ _ _ h => h) (by rfl) (by assumption) ?_ ?_
        rotate_left
        · ((intro w hSw; (try dsimp only at hSw); go_simp <;> with_reducible rfl); done)
        try simp only [Act.put, List.setIfInBounds_toArray, List.set_cons_zero, List.set_cons_succ]
        refine branch_two (i := 2) (j := 10) rfl rfl (by kernel_rfl) (by rfl) (by rfl) (fun K hK => ?_) (fun K hK => ?_)
        · go_simp
          refine Calls.mono (lstar_any (.node opb sab scb setb kab kcb kidsb mnb mxb modeb nb negb) _ (OB.out.keep (KW.out.trans ((Keeps.refl [] W2).drew)))) ?_
          rintro e v1 ⟨m4, rfl, ht4, ho4, hk1⟩
          have K1 := Lib.hid (((Keeps.refl [] W2).drew).trans hk1)
          obtain ⟨r4, hr4⟩ : ∃ r4, r4 = m4 := ⟨_, rfl⟩
          rw [← hr4] at ht4 ho4
          have R4 := Lib.hid hr4
          rw [TB.out] at ht4
          have TT4 := Lib.hid ht4
          have OO4 := Lib.hid ho4
          clear hr4 ht4 ho4 
          obtain ⟨op4, sa4, sc4, set4, ka4, kc4, kids4, mn4, mx4, mode4, n4, neg4⟩ := m4
          simp only [MRe.val]
          clear hk1
          refine hK.out _ _ (⟨⟨K1.out.cell a0 (by simp), K1.out.cell a1 (by simp), K1.out.cell a2 (by simp), K1.out.cell a3 (by simp), K1.out.cell a4 (by simp), K1.out.cell a5 (by simp), K1.out.cell a6 (by simp), K1.out.cell a7 (by simp)⟩, ⟨K1.out.cell b0 (by simp), K1.out.cell b1 (by simp), K1.out.cell b2 (by simp), K1.out.cell b3 (by simp), K1.out.cell b4 (by simp), K1.out.cell b5 (by simp), K1.out.cell b6 (by simp), K1.out.cell b7 (by simp)⟩⟩) (fun hHeld => ?_)
          clear hK K
          try simp only [Act.put, List.setIfInBounds_toArray, List.set_cons_zero, List.set_cons_succ]
          refine branch_two (i := 3) (j := 10) rfl rfl (by kernel_rfl) (by rfl) (by rfl) (fun K hK => ?_) (fun K hK => ?_)
          · go_simp
            refine Calls.mono (lcat_any (.node opa saa sca seta kaa kca kidsa mna mxa modea na nega) (.node op4 sa4 sc4 set4 ka4 kc4 kids4 mn4 mx4 mode4 n4 neg4) _ (OA.out.keep (KW.out.trans K1.out)) (by rw [← R4.out]; exact OO4.out)) ?_
            rintro e v2 ⟨m5, rfl, ht5, ho5, hk2⟩
            have K2 := Lib.hid (K1.out.trans hk2)
            obtain ⟨r5, hr5⟩ : ∃ r5, r5 = m5 := ⟨_, rfl⟩
            rw [← hr5] at ht5 ho5
            have R5 := Lib.hid hr5
            rw [← R4.out, TT4.out, TA.out] at ht5
            have TT5 := Lib.hid ht5
            have OO5 := Lib.hid ho5
            clear hr5 ht5 ho5 
            obtain ⟨op5, sa5, sc5, set5, ka5, kc5, kids5, mn5, mx5, mode5, n5, neg5⟩ := m5
            simp only [MRe.val]
            have OO4 := Lib.hid (OO4.out.keep hk2)
            clear hk2
            refine hK.out _ _ (⟨⟨K2.out.cell a0 (by simp), K2.out.cell a1 (by simp), K2.out.cell a2 (by simp), K2.out.cell a3 (by simp), K2.out.cell a4 (by simp), K2.out.cell a5 (by simp), K2.out.cell a6 (by simp), K2.out.cell a7 (by simp)⟩, ⟨K2.out.cell b0 (by simp), K2.out.cell b1 (by simp), K2.out.cell b2 (by simp), K2.out.cell b3 (by simp), K2.out.cell b4 (by simp), K2.out.cell b5 (by simp), K2.out.cell b6 (by simp), K2.out.cell b7 (by simp)⟩⟩) (fun hHeld => ?_)
            clear hK K
            try simp only [Act.put, List.setIfInBounds_toArray, List.set_cons_zero, List.set_cons_succ]
            refine branch_two (i := 4) (j := 10) rfl rfl (by kernel_rfl) (by rfl) (by rfl) (fun K hK => ?_) (fun K hK => ?_)
            · go_simp
              have K3 := Lib.hid (K2.out.alloc (.cells #[.int .i64 op5, .slice sa5 set5.length sc5, .slice ka5 kids5.length kc5, .int .i64 mn5, .int .i64 mx5, .int .i64 mode5, .int .i64 n5, .bool neg5] 64))
              have HR := Lib.hid (show (v2.alloc (.cells #[.int .i64 op5, .slice sa5 set5.length sc5, .slice ka5 kids5.length kc5, .int .i64 mn5, .int .i64 mx5, .int .i64 mode5, .int .i64 n5, .bool neg5] 64)).heap[v2.heap.size]? = some (.cells #[.int .i64 op5, .slice sa5 set5.length sc5, .slice ka5 kids5.length kc5, .int .i64 mn5, .int .i64 mx5, .int .i64 mode5, .int .i64 n5, .bool neg5] 64 (0, 0)) from by have h := heap_alloc_new v2 (.cells #[.int .i64 op5, .slice sa5 set5.length sc5, .slice ka5 kids5.length kc5, .int .i64 mn5, .int .i64 mx5, .int .i64 mode5, .int .i64 n5, .bool neg5] 64); simpa using h)
              have OO4 := Lib.hid (OO4.out.keep (Keeps.a1 _ (.cells #[.int .i64 op5, .slice sa5 set5.length sc5, .slice ka5 kids5.length kc5, .int .i64 mn5, .int .i64 mx5, .int .i64 mode5, .int .i64 n5, .bool neg5] 64)))
              have OO5 := Lib.hid (OO5.out.keep (Keeps.a1 _ (.cells #[.int .i64 op5, .slice sa5 set5.length sc5, .slice ka5 kids5.length kc5, .int .i64 mn5, .int .i64 mx5, .int .i64 mode5, .int .i64 n5, .bool neg5] 64)))
              refine hK.out _ _ (⟨⟨K3.out.cell a0 (by simp), K3.out.cell a1 (by simp), K3.out.cell a2 (by simp), K3.out.cell a3 (by simp), K3.out.cell a4 (by simp), K3.out.cell a5 (by simp), K3.out.cell a6 (by simp), K3.out.cell a7 (by simp)⟩, ⟨K3.out.cell b0 (by simp), K3.out.cell b1 (by simp), K3.out.cell b2 (by simp), K3.out.cell b3 (by simp), K3.out.cell b4 (by simp), K3.out.cell b5 (by simp), K3.out.cell b6 (by simp), K3.out.cell b7 (by simp)⟩⟩) (fun hHeld => ?_)
              clear hK K
              try simp only [Act.put, List.setIfInBounds_toArray, List.set_cons_zero, List.set_cons_succ]
              refine take_on (i := 5) (v := ?_) rfl (by kernel_rfl) (by kernel_rfl) (by kernel_rfl) (fun _ _ _ h => h) (by rfl) (by assumption) ?_ ?_
              rotate_left
              · ((intro w hSw; (try dsimp only at hSw); go_simp <;> with_reducible rfl); done)
              try simp only [Act.put, List.setIfInBounds_toArray, List.set_cons_zero, List.set_cons_succ]
              refine branch_two (i := 6) (j := 10) rfl rfl (by kernel_rfl) (by rfl) (by rfl) (fun K hK => ?_) (fun K hK => ?_)
              · go_simp
                refine Calls.mono (ap13 (.node 7 none 0 [] (some ⟨v2.heap.size, 0, none⟩) 1 [r5] 0 0 0 0 false) _ (mk1_ok OO5.out (Keeps.refl _ _) HR.out (by rw [R5.out]; rfl)) (by simp only [MRe.tree, MRe.trees, TT5.out]; rfl)) ?_
                rintro e v4 ⟨m9, rfl, ht9, ho9, hk4, hf9⟩
                have K4 := Lib.hid (K3.out.trans hk4)
                obtain ⟨r9, hr9⟩ : ∃ r9, r9 = m9 := ⟨_, rfl⟩
                rw [← hr9] at ht9 ho9 hf9
                have R9 := Lib.hid hr9
                have TT9 := Lib.hid ht9
                have OO9 := Lib.hid ho9
                have FF := Lib.hid hf9
                clear hr9 ht9 ho9 hf9
                obtain ⟨op9, sa9, sc9, set9, ka9, kc9, kids9, mn9, mx9, mode9, n9, neg9⟩ := m9
                simp only [MRe.val]
                have OO4 := Lib.hid (OO4.out.keep hk4)
                have OO5 := Lib.hid (OO5.out.keep hk4)
                clear hk4
                refine hK.out _ _ (⟨⟨K4.out.cell a0 (by simp), K4.out.cell a1 (by simp), K4.out.cell a2 (by simp), K4.out.cell a3 (by simp), K4.out.cell a4 (by simp), K4.out.cell a5 (by simp), K4.out.cell a6 (by simp), K4.out.cell a7 (by simp)⟩, ⟨K4.out.cell b0 (by simp), K4.out.cell b1 (by simp), K4.out.cell b2 (by simp), K4.out.cell b3 (by simp), K4.out.cell b4 (by simp), K4.out.cell b5 (by simp), K4.out.cell b6 (by simp), K4.out.cell b7 (by simp)⟩⟩) (fun hHeld => ?_)
                clear hK K
                try simp only [Act.put, List.setIfInBounds_toArray, List.set_cons_zero, List.set_cons_succ]
                refine take_on (i := 7) (v := ?_) rfl (by kernel_rfl) (by kernel_rfl) (by kernel_rfl) (fun _ _ _ h => h) (by rfl) (by assumption) ?_ ?_
                rotate_left
                · ((intro w hSw; (try dsimp only at hSw); go_simp <;> with_reducible rfl); done)
                try simp only [Act.put, List.setIfInBounds_toArray, List.set_cons_zero, List.set_cons_succ]
                refine take_on (i := 8) (v := ?_) rfl (by kernel_rfl) (by kernel_rfl) (by kernel_rfl) (fun _ _ _ h => h) (by rfl) (by assumption) ?_ ?_
                rotate_left
                · ((intro w hSw; (try dsimp only at hSw); go_simp <;> with_reducible rfl); done)
                try simp only [Act.put, List.setIfInBounds_toArray, List.set_cons_zero, List.set_cons_succ]
                refine take_on (i := 9) (v := ?_) rfl (by kernel_rfl) (by kernel_rfl) (by kernel_rfl) (fun _ _ _ h => h) (by rfl) (by assumption) ?_ ?_
                rotate_left
                · ((intro w hSw; (try dsimp only at hSw); go_simp <;> with_reducible rfl); done)
                try simp only [Act.put, List.setIfInBounds_toArray, List.set_cons_zero, List.set_cons_succ]
                refine branch_one (i := 10) rfl (by kernel_rfl) (by rfl) (fun K hK => ?_)
                go_simp
                have KA := Lib.hid (K4.out.alloc (.cells #[.int .i64 0, .slice none 0 0, .slice none 0 0, .int .i64 0, .int .i64 0, .int .i64 0, .int .i64 0, .bool false] 64))
                have hz := heap_alloc_new v4 (.cells #[.int .i64 0, .slice none 0 0, .slice none 0 0, .int .i64 0, .int .i64 0, .int .i64 0, .int .i64 0, .bool false] 64)
                obtain ⟨z0, z1, z2, z3, z4, z5, z6, z7⟩ := row_cells hz
                have zf := row_frozen hz
                clear hz
                refine hK.out _ _ (⟨⟨KA.out.cell a0 (by simp), KA.out.cell a1 (by simp), KA.out.cell a2 (by simp), KA.out.cell a3 (by simp), KA.out.cell a4 (by simp), KA.out.cell a5 (by simp), KA.out.cell a6 (by simp), KA.out.cell a7 (by simp)⟩, ⟨KA.out.cell b0 (by simp), KA.out.cell b1 (by simp), KA.out.cell b2 (by simp), KA.out.cell b3 (by simp), KA.out.cell b4 (by simp), KA.out.cell b5 (by simp), KA.out.cell b6 (by simp), KA.out.cell b7 (by simp)⟩⟩) (fun hHeld => ?_)
                clear hK K
                try simp only [Act.put, List.setIfInBounds_toArray, List.set_cons_zero, List.set_cons_succ]
                refine branch_one (i := 11) rfl (by kernel_rfl) (by rfl) (fun K hK => ?_)
                go_simp
                have KB := Lib.hid (K4.out.alloc (.cells #[.int .i64 op9, .slice sa9 set9.length sc9, .slice ka9 kids9.length kc9, .int .i64 mn9, .int .i64 mx9, .int .i64 mode9, .int .i64 n9, .bool neg9] 64))
                refine hK.out _ _ (⟨⟨KB.out.cell a0 (by simp), KB.out.cell a1 (by simp), KB.out.cell a2 (by simp), KB.out.cell a3 (by simp), KB.out.cell a4 (by simp), KB.out.cell a5 (by simp), KB.out.cell a6 (by simp), KB.out.cell a7 (by simp)⟩, ⟨KB.out.cell b0 (by simp), KB.out.cell b1 (by simp), KB.out.cell b2 (by simp), KB.out.cell b3 (by simp), KB.out.cell b4 (by simp), KB.out.cell b5 (by simp), KB.out.cell b6 (by simp), KB.out.cell b7 (by simp)⟩⟩) (fun hHeld => ?_)
                clear hK K
                try simp only [Act.put, List.setIfInBounds_toArray, List.set_cons_zero, List.set_cons_succ]
                refine take_on (i := 12) (v := ?_) rfl (by kernel_rfl) (by kernel_rfl) (by kernel_rfl) (fun _ _ _ h => h) (by rfl) (by assumption) ?_ ?_
                rotate_left
                · ((intro w hSw; (try dsimp only at hSw); go_simp <;> with_reducible rfl); done)
                try simp only [Act.put, List.setIfInBounds_toArray, List.set_cons_zero, List.set_cons_succ]
                refine wpAnyH_done (by kernel_rfl) ?_ _
                go_wp2
                go_meet
                exact ⟨_, _, rfl, rfl, rfl, box_late OO9.out TT9.out (by rw [R9.out]; rfl), KB.out⟩
              · go_simp
                have K4 := Lib.hid (show Keeps [] W2 ((v2.alloc (.cells #[.int .i64 op5, .slice sa5 set5.length sc5, .slice ka5 kids5.length kc5, .int .i64 mn5, .int .i64 mx5, .int .i64 mode5, .int .i64 n5, .bool neg5] 64)).alloc (.cells #[.int .i64 0, .slice none 0 0, .slice none 0 0, .int .i64 0, .int .i64 0, .int .i64 0, .int .i64 0, .bool false] 64)) from (K3.out.alloc (.cells #[.int .i64 0, .slice none 0 0, .slice none 0 0, .int .i64 0, .int .i64 0, .int .i64 0, .int .i64 0, .bool false] 64)))
                have Z4 := Lib.hid (show ((v2.alloc (.cells #[.int .i64 op5, .slice sa5 set5.length sc5, .slice ka5 kids5.length kc5, .int .i64 mn5, .int .i64 mx5, .int .i64 mode5, .int .i64 n5, .bool neg5] 64)).alloc (.cells #[.int .i64 0, .slice none 0 0, .slice none 0 0, .int .i64 0, .int .i64 0, .int .i64 0, .int .i64 0, .bool false] 64)).heap[(v2.heap.size + 1)]? = some (.cells #[.int .i64 0, .slice none 0 0, .slice none 0 0, .int .i64 0, .int .i64 0, .int .i64 0, .int .i64 0, .bool false] 64 (0, 0)) from by have h := (heap_alloc_new (v2.alloc (.cells #[.int .i64 op5, .slice sa5 set5.length sc5, .slice ka5 kids5.length kc5, .int .i64 mn5, .int .i64 mx5, .int .i64 mode5, .int .i64 n5, .bool neg5] 64)) (.cells #[.int .i64 0, .slice none 0 0, .slice none 0 0, .int .i64 0, .int .i64 0, .int .i64 0, .int .i64 0, .bool false] 64)); simpa using h)
                have GW := Lib.hid (show W2.heap.size ≤ (v2.heap.size + 1) from by have h := K3.out.size; simpa using h)
                have OO4 := Lib.hid (OO4.out.keep (Keeps.a1 _ (.cells #[.int .i64 0, .slice none 0 0, .slice none 0 0, .int .i64 0, .int .i64 0, .int .i64 0, .int .i64 0, .bool false] 64)))
                have OO5 := Lib.hid (OO5.out.keep (Keeps.a1 _ (.cells #[.int .i64 0, .slice none 0 0, .slice none 0 0, .int .i64 0, .int .i64 0, .int .i64 0, .int .i64 0, .bool false] 64)))
                have HR := Lib.hid ((Keeps.a1 _ (.cells #[.int .i64 0, .slice none 0 0, .slice none 0 0, .int .i64 0, .int .i64 0, .int .i64 0, .int .i64 0, .bool false] 64)).heap HR.out (by simp))
                refine hK.out _ _ (⟨⟨K4.out.cell a0 (by simp), K4.out.cell a1 (by simp), K4.out.cell a2 (by simp), K4.out.cell a3 (by simp), K4.out.cell a4 (by simp), K4.out.cell a5 (by simp), K4.out.cell a6 (by simp), K4.out.cell a7 (by simp)⟩, ⟨K4.out.cell b0 (by simp), K4.out.cell b1 (by simp), K4.out.cell b2 (by simp), K4.out.cell b3 (by simp), K4.out.cell b4 (by simp), K4.out.cell b5 (by simp), K4.out.cell b6 (by simp), K4.out.cell b7 (by simp)⟩⟩) (fun hHeld => ?_)
                clear hK K
                try simp only [Act.put, List.setIfInBounds_toArray, List.set_cons_zero, List.set_cons_succ]
                refine branch_one (i := 6) rfl (by kernel_rfl) (by rfl) (fun K hK => ?_)
                go_simp
                refine Calls.mono (ap13 (.node 7 none 0 [] (some ⟨v2.heap.size, 0, none⟩) 1 [r5] 0 0 0 0 false) _ (mk1_ok OO5.out (Keeps.refl _ _) HR.out (by rw [R5.out]; rfl)) (by simp only [MRe.tree, MRe.trees, TT5.out]; rfl)) ?_
                rintro e v5 ⟨m9, rfl, ht9, ho9, hk5, hf9⟩
                have K5 := Lib.hid (K4.out.trans hk5)
                have Z5 := Lib.hid (hk5.heap Z4.out (by simp))
                have LT := Lib.hid (lt_of_block Z4.out)
                obtain ⟨r9, hr9⟩ : ∃ r9, r9 = m9 := ⟨_, rfl⟩
                rw [← hr9] at ht9 ho9 hf9
                have R9 := Lib.hid hr9
                have TT9 := Lib.hid ht9
                have OO9 := Lib.hid ho9
                have FF := Lib.hid hf9
                clear hr9 ht9 ho9 hf9
                obtain ⟨op9, sa9, sc9, set9, ka9, kc9, kids9, mn9, mx9, mode9, n9, neg9⟩ := m9
                simp only [MRe.val]
                have OO4 := Lib.hid (OO4.out.keep hk5)
                have OO5 := Lib.hid (OO5.out.keep hk5)
                clear hk5
                refine hK.out _ _ (⟨⟨K5.out.cell a0 (by simp), K5.out.cell a1 (by simp), K5.out.cell a2 (by simp), K5.out.cell a3 (by simp), K5.out.cell a4 (by simp), K5.out.cell a5 (by simp), K5.out.cell a6 (by simp), K5.out.cell a7 (by simp)⟩, ⟨K5.out.cell b0 (by simp), K5.out.cell b1 (by simp), K5.out.cell b2 (by simp), K5.out.cell b3 (by simp), K5.out.cell b4 (by simp), K5.out.cell b5 (by simp), K5.out.cell b6 (by simp), K5.out.cell b7 (by simp)⟩⟩) (fun hHeld => ?_)
                clear hK K
                try simp only [Act.put, List.setIfInBounds_toArray, List.set_cons_zero, List.set_cons_succ]
                refine take_on (i := 7) (v := ?_) rfl (by kernel_rfl) (by kernel_rfl) (by kernel_rfl) (fun _ _ _ h => h) (by rfl) (by assumption) ?_ ?_
                rotate_left
                · ((intro w hSw; (try dsimp only at hSw); go_simp <;> with_reducible rfl); done)
                try simp only [Act.put, List.setIfInBounds_toArray, List.set_cons_zero, List.set_cons_succ]
                refine take_on (i := 8) (v := ?_) rfl (by kernel_rfl) (by kernel_rfl) (by kernel_rfl) (fun _ _ _ h => h) (by rfl) (by assumption) ?_ ?_
                rotate_left
                · ((intro w hSw; (try dsimp only at hSw); go_simp <;> with_reducible rfl); done)
                try simp only [Act.put, List.setIfInBounds_toArray, List.set_cons_zero, List.set_cons_succ]
                refine take_on (i := 9) (v := ?_) rfl (by kernel_rfl) (by kernel_rfl) (by kernel_rfl) (fun _ _ _ h => h) (by rfl) (by assumption) ?_ ?_
                rotate_left
                · ((intro w hSw; (try dsimp only at hSw); go_simp <;> with_reducible rfl); done)
                try simp only [Act.put, List.setIfInBounds_toArray, List.set_cons_zero, List.set_cons_succ]
                obtain ⟨z0, z1, z2, z3, z4, z5, z6, z7⟩ := row_cells Z5.out
                have zf := row_frozen Z5.out
                refine branch_one (i := 11) rfl (by kernel_rfl) (by rfl) (fun K hK => ?_)
                go_simp
                have KB := Lib.hid (K5.out.after (set8_keeps v5 (v2.heap.size + 1) (.int .i64 op9) (.slice sa9 set9.length sc9) (.slice ka9 kids9.length kc9) (.int .i64 mn9) (.int .i64 mx9) (.int .i64 mode9) (.int .i64 n9) (.bool neg9)) (by intro x hx; simp only [List.mem_cons, List.not_mem_nil, or_false] at hx; subst hx; exact .inr GW.out))
                refine hK.out _ _ (⟨⟨KB.out.cell a0 (by simp), KB.out.cell a1 (by simp), KB.out.cell a2 (by simp), KB.out.cell a3 (by simp), KB.out.cell a4 (by simp), KB.out.cell a5 (by simp), KB.out.cell a6 (by simp), KB.out.cell a7 (by simp)⟩, ⟨KB.out.cell b0 (by simp), KB.out.cell b1 (by simp), KB.out.cell b2 (by simp), KB.out.cell b3 (by simp), KB.out.cell b4 (by simp), KB.out.cell b5 (by simp), KB.out.cell b6 (by simp), KB.out.cell b7 (by simp)⟩⟩) (fun hHeld => ?_)
                clear hK K
                try simp only [Act.put, List.setIfInBounds_toArray, List.set_cons_zero, List.set_cons_succ]
                refine take_on (i := 12) (v := ?_) rfl (by kernel_rfl) (by kernel_rfl) (by kernel_rfl) (fun _ _ _ h => h) (by rfl) (by assumption) ?_ ?_
                rotate_left
                · ((intro w hSw; (try dsimp only at hSw); go_simp <;> with_reducible rfl); done)
                try simp only [Act.put, List.setIfInBounds_toArray, List.set_cons_zero, List.set_cons_succ]
                refine wpAnyH_done (by kernel_rfl) ?_ _
                go_wp2
                go_meet
                exact ⟨_, _, rfl, rfl, rfl, box_early (by rw [← R9.out]; exact OO9.out) (by rw [← R9.out]; exact TT9.out) Z5.out (by rw [← R9.out]; intro h; have h1 := FF.out _ h; have h2 := LT.out; omega), KB.out⟩
            · go_simp
              have K3 := Lib.hid (show Keeps [] W2 (v2.alloc (.cells #[.int .i64 0, .slice none 0 0, .slice none 0 0, .int .i64 0, .int .i64 0, .int .i64 0, .int .i64 0, .bool false] 64)) from (K2.out.alloc (.cells #[.int .i64 0, .slice none 0 0, .slice none 0 0, .int .i64 0, .int .i64 0, .int .i64 0, .int .i64 0, .bool false] 64)))
              have Z3 := Lib.hid (show (v2.alloc (.cells #[.int .i64 0, .slice none 0 0, .slice none 0 0, .int .i64 0, .int .i64 0, .int .i64 0, .int .i64 0, .bool false] 64)).heap[v2.heap.size]? = some (.cells #[.int .i64 0, .slice none 0 0, .slice none 0 0, .int .i64 0, .int .i64 0, .int .i64 0, .int .i64 0, .bool false] 64 (0, 0)) from by have h := (heap_alloc_new v2 (.cells #[.int .i64 0, .slice none 0 0, .slice none 0 0, .int .i64 0, .int .i64 0, .int .i64 0, .int .i64 0, .bool false] 64)); simpa using h)
              have GW := Lib.hid (show W2.heap.size ≤ v2.heap.size from by have h := K2.out.size; simpa using h)
              have OO4 := Lib.hid (OO4.out.keep (Keeps.a1 _ (.cells #[.int .i64 0, .slice none 0 0, .slice none 0 0, .int .i64 0, .int .i64 0, .int .i64 0, .int .i64 0, .bool false] 64)))
              have OO5 := Lib.hid (OO5.out.keep (Keeps.a1 _ (.cells #[.int .i64 0, .slice none 0 0, .slice none 0 0, .int .i64 0, .int .i64 0, .int .i64 0, .int .i64 0, .bool false] 64)))
              refine hK.out _ _ (⟨⟨K3.out.cell a0 (by simp), K3.out.cell a1 (by simp), K3.out.cell a2 (by simp), K3.out.cell a3 (by simp), K3.out.cell a4 (by simp), K3.out.cell a5 (by simp), K3.out.cell a6 (by simp), K3.out.cell a7 (by simp)⟩, ⟨K3.out.cell b0 (by simp), K3.out.cell b1 (by simp), K3.out.cell b2 (by simp), K3.out.cell b3 (by simp), K3.out.cell b4 (by simp), K3.out.cell b5 (by simp), K3.out.cell b6 (by simp), K3.out.cell b7 (by simp)⟩⟩) (fun hHeld => ?_)
              clear hK K
              try simp only [Act.put, List.setIfInBounds_toArray, List.set_cons_zero, List.set_cons_succ]
              refine branch_one (i := 4) rfl (by kernel_rfl) (by rfl) (fun K hK => ?_)
              go_simp
              have K4 := Lib.hid (K3.out.alloc (.cells #[.int .i64 op5, .slice sa5 set5.length sc5, .slice ka5 kids5.length kc5, .int .i64 mn5, .int .i64 mx5, .int .i64 mode5, .int .i64 n5, .bool neg5] 64))
              have HR := Lib.hid (show ((v2.alloc (.cells #[.int .i64 0, .slice none 0 0, .slice none 0 0, .int .i64 0, .int .i64 0, .int .i64 0, .int .i64 0, .bool false] 64)).alloc (.cells #[.int .i64 op5, .slice sa5 set5.length sc5, .slice ka5 kids5.length kc5, .int .i64 mn5, .int .i64 mx5, .int .i64 mode5, .int .i64 n5, .bool neg5] 64)).heap[(v2.heap.size + 1)]? = some (.cells #[.int .i64 op5, .slice sa5 set5.length sc5, .slice ka5 kids5.length kc5, .int .i64 mn5, .int .i64 mx5, .int .i64 mode5, .int .i64 n5, .bool neg5] 64 (0, 0)) from by have h := heap_alloc_new (v2.alloc (.cells #[.int .i64 0, .slice none 0 0, .slice none 0 0, .int .i64 0, .int .i64 0, .int .i64 0, .int .i64 0, .bool false] 64)) (.cells #[.int .i64 op5, .slice sa5 set5.length sc5, .slice ka5 kids5.length kc5, .int .i64 mn5, .int .i64 mx5, .int .i64 mode5, .int .i64 n5, .bool neg5] 64); simpa using h)
              have Z4 := Lib.hid (show ((v2.alloc (.cells #[.int .i64 0, .slice none 0 0, .slice none 0 0, .int .i64 0, .int .i64 0, .int .i64 0, .int .i64 0, .bool false] 64)).alloc (.cells #[.int .i64 op5, .slice sa5 set5.length sc5, .slice ka5 kids5.length kc5, .int .i64 mn5, .int .i64 mx5, .int .i64 mode5, .int .i64 n5, .bool neg5] 64)).heap[v2.heap.size]? = some (.cells #[.int .i64 0, .slice none 0 0, .slice none 0 0, .int .i64 0, .int .i64 0, .int .i64 0, .int .i64 0, .bool false] 64 (0, 0)) from (Keeps.a1 _ _).heap Z3.out (by simp))
              have OO4 := Lib.hid (OO4.out.keep (Keeps.a1 _ (.cells #[.int .i64 op5, .slice sa5 set5.length sc5, .slice ka5 kids5.length kc5, .int .i64 mn5, .int .i64 mx5, .int .i64 mode5, .int .i64 n5, .bool neg5] 64)))
              have OO5 := Lib.hid (OO5.out.keep (Keeps.a1 _ (.cells #[.int .i64 op5, .slice sa5 set5.length sc5, .slice ka5 kids5.length kc5, .int .i64 mn5, .int .i64 mx5, .int .i64 mode5, .int .i64 n5, .bool neg5] 64)))
              refine hK.out _ _ (⟨⟨K4.out.cell a0 (by simp), K4.out.cell a1 (by simp), K4.out.cell a2 (by simp), K4.out.cell a3 (by simp), K4.out.cell a4 (by simp), K4.out.cell a5 (by simp), K4.out.cell a6 (by simp), K4.out.cell a7 (by simp)⟩, ⟨K4.out.cell b0 (by simp), K4.out.cell b1 (by simp), K4.out.cell b2 (by simp), K4.out.cell b3 (by simp), K4.out.cell b4 (by simp), K4.out.cell b5 (by simp), K4.out.cell b6 (by simp), K4.out.cell b7 (by simp)⟩⟩) (fun hHeld => ?_)
              clear hK K
              try simp only [Act.put, List.setIfInBounds_toArray, List.set_cons_zero, List.set_cons_succ]
              refine take_on (i := 5) (v := ?_) rfl (by kernel_rfl) (by kernel_rfl) (by kernel_rfl) (fun _ _ _ h => h) (by rfl) (by assumption) ?_ ?_
              rotate_left
              · ((intro w hSw; (try dsimp only at hSw); go_simp <;> with_reducible rfl); done)
              try simp only [Act.put, List.setIfInBounds_toArray, List.set_cons_zero, List.set_cons_succ]
              refine branch_one (i := 6) rfl (by kernel_rfl) (by rfl) (fun K hK => ?_)
              go_simp
              refine Calls.mono (ap13 (.node 7 none 0 [] (some ⟨(v2.heap.size + 1), 0, none⟩) 1 [r5] 0 0 0 0 false) _ (mk1_ok OO5.out (Keeps.refl _ _) HR.out (by rw [R5.out]; rfl)) (by simp only [MRe.tree, MRe.trees, TT5.out]; rfl)) ?_
              rintro e v5 ⟨m9, rfl, ht9, ho9, hk5, hf9⟩
              have K5 := Lib.hid (K4.out.trans hk5)
              have Z5 := Lib.hid (hk5.heap Z4.out (by simp))
              have LT := Lib.hid (lt_of_block Z4.out)
              obtain ⟨r9, hr9⟩ : ∃ r9, r9 = m9 := ⟨_, rfl⟩
              rw [← hr9] at ht9 ho9 hf9
              have R9 := Lib.hid hr9
              have TT9 := Lib.hid ht9
              have OO9 := Lib.hid ho9
              have FF := Lib.hid hf9
              clear hr9 ht9 ho9 hf9
              obtain ⟨op9, sa9, sc9, set9, ka9, kc9, kids9, mn9, mx9, mode9, n9, neg9⟩ := m9
              simp only [MRe.val]
              have OO4 := Lib.hid (OO4.out.keep hk5)
              have OO5 := Lib.hid (OO5.out.keep hk5)
              clear hk5
              refine hK.out _ _ (⟨⟨K5.out.cell a0 (by simp), K5.out.cell a1 (by simp), K5.out.cell a2 (by simp), K5.out.cell a3 (by simp), K5.out.cell a4 (by simp), K5.out.cell a5 (by simp), K5.out.cell a6 (by simp), K5.out.cell a7 (by simp)⟩, ⟨K5.out.cell b0 (by simp), K5.out.cell b1 (by simp), K5.out.cell b2 (by simp), K5.out.cell b3 (by simp), K5.out.cell b4 (by simp), K5.out.cell b5 (by simp), K5.out.cell b6 (by simp), K5.out.cell b7 (by simp)⟩⟩) (fun hHeld => ?_)
              clear hK K
              try simp only [Act.put, List.setIfInBounds_toArray, List.set_cons_zero, List.set_cons_succ]
              refine take_on (i := 7) (v := ?_) rfl (by kernel_rfl) (by kernel_rfl) (by kernel_rfl) (fun _ _ _ h => h) (by rfl) (by assumption) ?_ ?_
              rotate_left
              · ((intro w hSw; (try dsimp only at hSw); go_simp <;> with_reducible rfl); done)
              try simp only [Act.put, List.setIfInBounds_toArray, List.set_cons_zero, List.set_cons_succ]
              refine take_on (i := 8) (v := ?_) rfl (by kernel_rfl) (by kernel_rfl) (by kernel_rfl) (fun _ _ _ h => h) (by rfl) (by assumption) ?_ ?_
              rotate_left
              · ((intro w hSw; (try dsimp only at hSw); go_simp <;> with_reducible rfl); done)
              try simp only [Act.put, List.setIfInBounds_toArray, List.set_cons_zero, List.set_cons_succ]
              refine take_on (i := 9) (v := ?_) rfl (by kernel_rfl) (by kernel_rfl) (by kernel_rfl) (fun _ _ _ h => h) (by rfl) (by assumption) ?_ ?_
              rotate_left
              · ((intro w hSw; (try dsimp only at hSw); go_simp <;> with_reducible rfl); done)
              try simp only [Act.put, List.setIfInBounds_toArray, List.set_cons_zero, List.set_cons_succ]
              obtain ⟨z0, z1, z2, z3, z4, z5, z6, z7⟩ := row_cells Z5.out
              have zf := row_frozen Z5.out
              refine branch_one (i := 11) rfl (by kernel_rfl) (by rfl) (fun K hK => ?_)
              go_simp
              have KB := Lib.hid (K5.out.after (set8_keeps v5 v2.heap.size (.int .i64 op9) (.slice sa9 set9.length sc9) (.slice ka9 kids9.length kc9) (.int .i64 mn9) (.int .i64 mx9) (.int .i64 mode9) (.int .i64 n9) (.bool neg9)) (by intro x hx; simp only [List.mem_cons, List.not_mem_nil, or_false] at hx; subst hx; exact .inr GW.out))
              refine hK.out _ _ (⟨⟨KB.out.cell a0 (by simp), KB.out.cell a1 (by simp), KB.out.cell a2 (by simp), KB.out.cell a3 (by simp), KB.out.cell a4 (by simp), KB.out.cell a5 (by simp), KB.out.cell a6 (by simp), KB.out.cell a7 (by simp)⟩, ⟨KB.out.cell b0 (by simp), KB.out.cell b1 (by simp), KB.out.cell b2 (by simp), KB.out.cell b3 (by simp), KB.out.cell b4 (by simp), KB.out.cell b5 (by simp), KB.out.cell b6 (by simp), KB.out.cell b7 (by simp)⟩⟩) (fun hHeld => ?_)
              clear hK K
              try simp only [Act.put, List.setIfInBounds_toArray, List.set_cons_zero, List.set_cons_succ]
              refine take_on (i := 12) (v := ?_) rfl (by kernel_rfl) (by kernel_rfl) (by kernel_rfl) (fun _ _ _ h => h) (by rfl) (by assumption) ?_ ?_
              rotate_left
              · ((intro w hSw; (try dsimp only at hSw); go_simp <;> with_reducible rfl); done)
              try simp only [Act.put, List.setIfInBounds_toArray, List.set_cons_zero, List.set_cons_succ]
              refine wpAnyH_done (by kernel_rfl) ?_ _
              go_wp2
              go_meet
              exact ⟨_, _, rfl, rfl, rfl, box_early (by rw [← R9.out]; exact OO9.out) (by rw [← R9.out]; exact TT9.out) Z5.out (by rw [← R9.out]; intro h; have h1 := FF.out _ h; have h2 := LT.out; omega), KB.out⟩
          · go_simp
            have K2 := Lib.hid (show Keeps [] W2 (v1.alloc (.cells #[.int .i64 0, .slice none 0 0, .slice none 0 0, .int .i64 0, .int .i64 0, .int .i64 0, .int .i64 0, .bool false] 64)) from (K1.out.alloc (.cells #[.int .i64 0, .slice none 0 0, .slice none 0 0, .int .i64 0, .int .i64 0, .int .i64 0, .int .i64 0, .bool false] 64)))
            have Z2 := Lib.hid (show (v1.alloc (.cells #[.int .i64 0, .slice none 0 0, .slice none 0 0, .int .i64 0, .int .i64 0, .int .i64 0, .int .i64 0, .bool false] 64)).heap[v1.heap.size]? = some (.cells #[.int .i64 0, .slice none 0 0, .slice none 0 0, .int .i64 0, .int .i64 0, .int .i64 0, .int .i64 0, .bool false] 64 (0, 0)) from by have h := (heap_alloc_new v1 (.cells #[.int .i64 0, .slice none 0 0, .slice none 0 0, .int .i64 0, .int .i64 0, .int .i64 0, .int .i64 0, .bool false] 64)); simpa using h)
            have GW := Lib.hid (show W2.heap.size ≤ v1.heap.size from by have h := K1.out.size; simpa using h)
            have OO4 := Lib.hid (OO4.out.keep (Keeps.a1 _ (.cells #[.int .i64 0, .slice none 0 0, .slice none 0 0, .int .i64 0, .int .i64 0, .int .i64 0, .int .i64 0, .bool false] 64)))
            refine hK.out _ _ (⟨⟨K2.out.cell a0 (by simp), K2.out.cell a1 (by simp), K2.out.cell a2 (by simp), K2.out.cell a3 (by simp), K2.out.cell a4 (by simp), K2.out.cell a5 (by simp), K2.out.cell a6 (by simp), K2.out.cell a7 (by simp)⟩, ⟨K2.out.cell b0 (by simp), K2.out.cell b1 (by simp), K2.out.cell b2 (by simp), K2.out.cell b3 (by simp), K2.out.cell b4 (by simp), K2.out.cell b5 (by simp), K2.out.cell b6 (by simp), K2.out.cell b7 (by simp)⟩⟩) (fun hHeld => ?_)
            clear hK K
            try simp only [Act.put, List.setIfInBounds_toArray, List.set_cons_zero, List.set_cons_succ]
            refine branch_one (i := 3) rfl (by kernel_rfl) (by rfl) (fun K hK => ?_)
            go_simp
            refine Calls.mono (lcat_any (.node opa saa sca seta kaa kca kidsa mna mxa modea na nega) (.node op4 sa4 sc4 set4 ka4 kc4 kids4 mn4 mx4 mode4 n4 neg4) _ (OA.out.keep (KW.out.trans K2.out)) (by rw [← R4.out]; exact OO4.out)) ?_
            rintro e v3 ⟨m5, rfl, ht5, ho5, hk3⟩
            have K3 := Lib.hid (K2.out.trans hk3)
            have Z3 := Lib.hid (hk3.heap Z2.out (by simp))
            obtain ⟨r5, hr5⟩ : ∃ r5, r5 = m5 := ⟨_, rfl⟩
            rw [← hr5] at ht5 ho5
            have R5 := Lib.hid hr5
            rw [← R4.out, TT4.out, TA.out] at ht5
            have TT5 := Lib.hid ht5
            have OO5 := Lib.hid ho5
            clear hr5 ht5 ho5 
            obtain ⟨op5, sa5, sc5, set5, ka5, kc5, kids5, mn5, mx5, mode5, n5, neg5⟩ := m5
            simp only [MRe.val]
            have OO4 := Lib.hid (OO4.out.keep hk3)
            clear hk3
            refine hK.out _ _ (⟨⟨K3.out.cell a0 (by simp), K3.out.cell a1 (by simp), K3.out.cell a2 (by simp), K3.out.cell a3 (by simp), K3.out.cell a4 (by simp), K3.out.cell a5 (by simp), K3.out.cell a6 (by simp), K3.out.cell a7 (by simp)⟩, ⟨K3.out.cell b0 (by simp), K3.out.cell b1 (by simp), K3.out.cell b2 (by simp), K3.out.cell b3 (by simp), K3.out.cell b4 (by simp), K3.out.cell b5 (by simp), K3.out.cell b6 (by simp), K3.out.cell b7 (by simp)⟩⟩) (fun hHeld => ?_)
            clear hK K
            try simp only [Act.put, List.setIfInBounds_toArray, List.set_cons_zero, List.set_cons_succ]
            refine branch_one (i := 4) rfl (by kernel_rfl) (by rfl) (fun K hK => ?_)
            go_simp
            have K4 := Lib.hid (K3.out.alloc (.cells #[.int .i64 op5, .slice sa5 set5.length sc5, .slice ka5 kids5.length kc5, .int .i64 mn5, .int .i64 mx5, .int .i64 mode5, .int .i64 n5, .bool neg5] 64))
            have HR := Lib.hid (show (v3.alloc (.cells #[.int .i64 op5, .slice sa5 set5.length sc5, .slice ka5 kids5.length kc5, .int .i64 mn5, .int .i64 mx5, .int .i64 mode5, .int .i64 n5, .bool neg5] 64)).heap[v3.heap.size]? = some (.cells #[.int .i64 op5, .slice sa5 set5.length sc5, .slice ka5 kids5.length kc5, .int .i64 mn5, .int .i64 mx5, .int .i64 mode5, .int .i64 n5, .bool neg5] 64 (0, 0)) from by have h := heap_alloc_new v3 (.cells #[.int .i64 op5, .slice sa5 set5.length sc5, .slice ka5 kids5.length kc5, .int .i64 mn5, .int .i64 mx5, .int .i64 mode5, .int .i64 n5, .bool neg5] 64); simpa using h)
            have Z4 := Lib.hid (show (v3.alloc (.cells #[.int .i64 op5, .slice sa5 set5.length sc5, .slice ka5 kids5.length kc5, .int .i64 mn5, .int .i64 mx5, .int .i64 mode5, .int .i64 n5, .bool neg5] 64)).heap[v1.heap.size]? = some (.cells #[.int .i64 0, .slice none 0 0, .slice none 0 0, .int .i64 0, .int .i64 0, .int .i64 0, .int .i64 0, .bool false] 64 (0, 0)) from (Keeps.a1 _ _).heap Z3.out (by simp))
            have OO4 := Lib.hid (OO4.out.keep (Keeps.a1 _ (.cells #[.int .i64 op5, .slice sa5 set5.length sc5, .slice ka5 kids5.length kc5, .int .i64 mn5, .int .i64 mx5, .int .i64 mode5, .int .i64 n5, .bool neg5] 64)))
            have OO5 := Lib.hid (OO5.out.keep (Keeps.a1 _ (.cells #[.int .i64 op5, .slice sa5 set5.length sc5, .slice ka5 kids5.length kc5, .int .i64 mn5, .int .i64 mx5, .int .i64 mode5, .int .i64 n5, .bool neg5] 64)))
            refine hK.out _ _ (⟨⟨K4.out.cell a0 (by simp), K4.out.cell a1 (by simp), K4.out.cell a2 (by simp), K4.out.cell a3 (by simp), K4.out.cell a4 (by simp), K4.out.cell a5 (by simp), K4.out.cell a6 (by simp), K4.out.cell a7 (by simp)⟩, ⟨K4.out.cell b0 (by simp), K4.out.cell b1 (by simp), K4.out.cell b2 (by simp), K4.out.cell b3 (by simp), K4.out.cell b4 (by simp), K4.out.cell b5 (by simp), K4.out.cell b6 (by simp), K4.out.cell b7 (by simp)⟩⟩) (fun hHeld => ?_)
            clear hK K
            try simp only [Act.put, List.setIfInBounds_toArray, List.set_cons_zero, List.set_cons_succ]
            refine take_on (i := 5) (v := ?_) rfl (by kernel_rfl) (by kernel_rfl) (by kernel_rfl) (fun _ _ _ h => h) (by rfl) (by assumption) ?_ ?_
            rotate_left
            · ((intro w hSw; (try dsimp only at hSw); go_simp <;> with_reducible rfl); done)
            try simp only [Act.put, List.setIfInBounds_toArray, List.set_cons_zero, List.set_cons_succ]
            refine branch_one (i := 6) rfl (by kernel_rfl) (by rfl) (fun K hK => ?_)
            go_simp
            refine Calls.mono (ap13 (.node 7 none 0 [] (some ⟨v3.heap.size, 0, none⟩) 1 [r5] 0 0 0 0 false) _ (mk1_ok OO5.out (Keeps.refl _ _) HR.out (by rw [R5.out]; rfl)) (by simp only [MRe.tree, MRe.trees, TT5.out]; rfl)) ?_
            rintro e v5 ⟨m9, rfl, ht9, ho9, hk5, hf9⟩
            have K5 := Lib.hid (K4.out.trans hk5)
            have Z5 := Lib.hid (hk5.heap Z4.out (by simp))
            have LT := Lib.hid (lt_of_block Z4.out)
            obtain ⟨r9, hr9⟩ : ∃ r9, r9 = m9 := ⟨_, rfl⟩
            rw [← hr9] at ht9 ho9 hf9
            have R9 := Lib.hid hr9
            have TT9 := Lib.hid ht9
            have OO9 := Lib.hid ho9
            have FF := Lib.hid hf9
            clear hr9 ht9 ho9 hf9
            obtain ⟨op9, sa9, sc9, set9, ka9, kc9, kids9, mn9, mx9, mode9, n9, neg9⟩ := m9
            simp only [MRe.val]
            have OO4 := Lib.hid (OO4.out.keep hk5)
            have OO5 := Lib.hid (OO5.out.keep hk5)
            clear hk5
            refine hK.out _ _ (⟨⟨K5.out.cell a0 (by simp), K5.out.cell a1 (by simp), K5.out.cell a2 (by simp), K5.out.cell a3 (by simp), K5.out.cell a4 (by simp), K5.out.cell a5 (by simp), K5.out.cell a6 (by simp), K5.out.cell a7 (by simp)⟩, ⟨K5.out.cell b0 (by simp), K5.out.cell b1 (by simp), K5.out.cell b2 (by simp), K5.out.cell b3 (by simp), K5.out.cell b4 (by simp), K5.out.cell b5 (by simp), K5.out.cell b6 (by simp), K5.out.cell b7 (by simp)⟩⟩) (fun hHeld => ?_)
            clear hK K
            try simp only [Act.put, List.setIfInBounds_toArray, List.set_cons_zero, List.set_cons_succ]
            refine take_on (i := 7) (v := ?_) rfl (by kernel_rfl) (by kernel_rfl) (by kernel_rfl) (fun _ _ _ h => h) (by rfl) (by assumption) ?_ ?_
            rotate_left
            · ((intro w hSw; (try dsimp only at hSw); go_simp <;> with_reducible rfl); done)
            try simp only [Act.put, List.setIfInBounds_toArray, List.set_cons_zero, List.set_cons_succ]
            refine take_on (i := 8) (v := ?_) rfl (by kernel_rfl) (by kernel_rfl) (by kernel_rfl) (fun _ _ _ h => h) (by rfl) (by assumption) ?_ ?_
            rotate_left
            · ((intro w hSw; (try dsimp only at hSw); go_simp <;> with_reducible rfl); done)
            try simp only [Act.put, List.setIfInBounds_toArray, List.set_cons_zero, List.set_cons_succ]
            refine take_on (i := 9) (v := ?_) rfl (by kernel_rfl) (by kernel_rfl) (by kernel_rfl) (fun _ _ _ h => h) (by rfl) (by assumption) ?_ ?_
            rotate_left
            · ((intro w hSw; (try dsimp only at hSw); go_simp <;> with_reducible rfl); done)
            try simp only [Act.put, List.setIfInBounds_toArray, List.set_cons_zero, List.set_cons_succ]
            obtain ⟨z0, z1, z2, z3, z4, z5, z6, z7⟩ := row_cells Z5.out
            have zf := row_frozen Z5.out
            refine branch_one (i := 11) rfl (by kernel_rfl) (by rfl) (fun K hK => ?_)
            go_simp
            have KB := Lib.hid (K5.out.after (set8_keeps v5 v1.heap.size (.int .i64 op9) (.slice sa9 set9.length sc9) (.slice ka9 kids9.length kc9) (.int .i64 mn9) (.int .i64 mx9) (.int .i64 mode9) (.int .i64 n9) (.bool neg9)) (by intro x hx; simp only [List.mem_cons, List.not_mem_nil, or_false] at hx; subst hx; exact .inr GW.out))
            refine hK.out _ _ (⟨⟨KB.out.cell a0 (by simp), KB.out.cell a1 (by simp), KB.out.cell a2 (by simp), KB.out.cell a3 (by simp), KB.out.cell a4 (by simp), KB.out.cell a5 (by simp), KB.out.cell a6 (by simp), KB.out.cell a7 (by simp)⟩, ⟨KB.out.cell b0 (by simp), KB.out.cell b1 (by simp), KB.out.cell b2 (by simp), KB.out.cell b3 (by simp), KB.out.cell b4 (by simp), KB.out.cell b5 (by simp), KB.out.cell b6 (by simp), KB.out.cell b7 (by simp)⟩⟩) (fun hHeld => ?_)
            clear hK K
            try simp only [Act.put, List.setIfInBounds_toArray, List.set_cons_zero, List.set_cons_succ]
            refine take_on (i := 12) (v := ?_) rfl (by kernel_rfl) (by kernel_rfl) (by kernel_rfl) (fun _ _ _ h => h) (by rfl) (by assumption) ?_ ?_
            rotate_left
            · ((intro w hSw; (try dsimp only at hSw); go_simp <;> with_reducible rfl); done)
            try simp only [Act.put, List.setIfInBounds_toArray, List.set_cons_zero, List.set_cons_succ]
            refine wpAnyH_done (by kernel_rfl) ?_ _
            go_wp2
            go_meet
            exact ⟨_, _, rfl, rfl, rfl, box_early (by rw [← R9.out]; exact OO9.out) (by rw [← R9.out]; exact TT9.out) Z5.out (by rw [← R9.out]; intro h; have h1 := FF.out _ h; have h2 := LT.out; omega), KB.out⟩
        · go_simp
          have K1 := Lib.hid (show Keeps [] W2 (W2.alloc (.cells #[.int .i64 0, .slice none 0 0, .slice none 0 0, .int .i64 0, .int .i64 0, .int .i64 0, .int .i64 0, .bool false] 64)).drew from (((Keeps.refl [] W2).alloc (.cells #[.int .i64 0, .slice none 0 0, .slice none 0 0, .int .i64 0, .int .i64 0, .int .i64 0, .int .i64 0, .bool false] 64)).drew))
          have Z1 := Lib.hid (show (W2.alloc (.cells #[.int .i64 0, .slice none 0 0, .slice none 0 0, .int .i64 0, .int .i64 0, .int .i64 0, .int .i64 0, .bool false] 64)).drew.heap[W2.heap.size]? = some (.cells #[.int .i64 0, .slice none 0 0, .slice none 0 0, .int .i64 0, .int .i64 0, .int .i64 0, .int .i64 0, .bool false] 64 (0, 0)) from (heap_alloc_new W2 (.cells #[.int .i64 0, .slice none 0 0, .slice none 0 0, .int .i64 0, .int .i64 0, .int .i64 0, .int .i64 0, .bool false] 64) : (W2.alloc (.cells #[.int .i64 0, .slice none 0 0, .slice none 0 0, .int .i64 0, .int .i64 0, .int .i64 0, .int .i64 0, .bool false] 64)).heap[W2.heap.size]? = some (.cells #[.int .i64 0, .slice none 0 0, .slice none 0 0, .int .i64 0, .int .i64 0, .int .i64 0, .int .i64 0, .bool false] 64 (0, 0))))
          have GW := Lib.hid (Nat.le_refl W2.heap.size)
          refine hK.out _ _ (⟨⟨K1.out.cell a0 (by simp), K1.out.cell a1 (by simp), K1.out.cell a2 (by simp), K1.out.cell a3 (by simp), K1.out.cell a4 (by simp), K1.out.cell a5 (by simp), K1.out.cell a6 (by simp), K1.out.cell a7 (by simp)⟩, ⟨K1.out.cell b0 (by simp), K1.out.cell b1 (by simp), K1.out.cell b2 (by simp), K1.out.cell b3 (by simp), K1.out.cell b4 (by simp), K1.out.cell b5 (by simp), K1.out.cell b6 (by simp), K1.out.cell b7 (by simp)⟩⟩) (fun hHeld => ?_)
          clear hK K
          try simp only [Act.put, List.setIfInBounds_toArray, List.set_cons_zero, List.set_cons_succ]
          refine branch_one (i := 2) rfl (by kernel_rfl) (by rfl) (fun K hK => ?_)
          go_simp
          refine Calls.mono (lstar_any (.node opb sab scb setb kab kcb kidsb mnb mxb modeb nb negb) _ (OB.out.keep (KW.out.trans K1.out))) ?_
          rintro e v2 ⟨m4, rfl, ht4, ho4, hk2⟩
          have K2 := Lib.hid (K1.out.trans hk2)
          have Z2 := Lib.hid (hk2.heap Z1.out (by simp))
          obtain ⟨r4, hr4⟩ : ∃ r4, r4 = m4 := ⟨_, rfl⟩
          rw [← hr4] at ht4 ho4
          have R4 := Lib.hid hr4
          rw [TB.out] at ht4
          have TT4 := Lib.hid ht4
          have OO4 := Lib.hid ho4
          clear hr4 ht4 ho4 
          obtain ⟨op4, sa4, sc4, set4, ka4, kc4, kids4, mn4, mx4, mode4, n4, neg4⟩ := m4
          simp only [MRe.val]
          clear hk2
          refine hK.out _ _ (⟨⟨K2.out.cell a0 (by simp), K2.out.cell a1 (by simp), K2.out.cell a2 (by simp), K2.out.cell a3 (by simp), K2.out.cell a4 (by simp), K2.out.cell a5 (by simp), K2.out.cell a6 (by simp), K2.out.cell a7 (by simp)⟩, ⟨K2.out.cell b0 (by simp), K2.out.cell b1 (by simp), K2.out.cell b2 (by simp), K2.out.cell b3 (by simp), K2.out.cell b4 (by simp), K2.out.cell b5 (by simp), K2.out.cell b6 (by simp), K2.out.cell b7 (by simp)⟩⟩) (fun hHeld => ?_)
          clear hK K
          try simp only [Act.put, List.setIfInBounds_toArray, List.set_cons_zero, List.set_cons_succ]
          refine branch_one (i := 3) rfl (by kernel_rfl) (by rfl) (fun K hK => ?_)
          go_simp
          refine Calls.mono (lcat_any (.node opa saa sca seta kaa kca kidsa mna mxa modea na nega) (.node op4 sa4 sc4 set4 ka4 kc4 kids4 mn4 mx4 mode4 n4 neg4) _ (OA.out.keep (KW.out.trans K2.out)) (by rw [← R4.out]; exact OO4.out)) ?_
          rintro e v3 ⟨m5, rfl, ht5, ho5, hk3⟩
          have K3 := Lib.hid (K2.out.trans hk3)
          have Z3 := Lib.hid (hk3.heap Z2.out (by simp))
          obtain ⟨r5, hr5⟩ : ∃ r5, r5 = m5 := ⟨_, rfl⟩
          rw [← hr5] at ht5 ho5
          have R5 := Lib.hid hr5
          rw [← R4.out, TT4.out, TA.out] at ht5
          have TT5 := Lib.hid ht5
          have OO5 := Lib.hid ho5
          clear hr5 ht5 ho5 
          obtain ⟨op5, sa5, sc5, set5, ka5, kc5, kids5, mn5, mx5, mode5, n5, neg5⟩ := m5
          simp only [MRe.val]
          have OO4 := Lib.hid (OO4.out.keep hk3)
          clear hk3
          refine hK.out _ _ (⟨⟨K3.out.cell a0 (by simp), K3.out.cell a1 (by simp), K3.out.cell a2 (by simp), K3.out.cell a3 (by simp), K3.out.cell a4 (by simp), K3.out.cell a5 (by simp), K3.out.cell a6 (by simp), K3.out.cell a7 (by simp)⟩, ⟨K3.out.cell b0 (by simp), K3.out.cell b1 (by simp), K3.out.cell b2 (by simp), K3.out.cell b3 (by simp), K3.out.cell b4 (by simp), K3.out.cell b5 (by simp), K3.out.cell b6 (by simp), K3.out.cell b7 (by simp)⟩⟩) (fun hHeld => ?_)
          clear hK K
          try simp only [Act.put, List.setIfInBounds_toArray, List.set_cons_zero, List.set_cons_succ]
          refine branch_one (i := 4) rfl (by kernel_rfl) (by rfl) (fun K hK => ?_)
          go_simp
          have K4 := Lib.hid (K3.out.alloc (.cells #[.int .i64 op5, .slice sa5 set5.length sc5, .slice ka5 kids5.length kc5, .int .i64 mn5, .int .i64 mx5, .int .i64 mode5, .int .i64 n5, .bool neg5] 64))
          have HR := Lib.hid (show (v3.alloc (.cells #[.int .i64 op5, .slice sa5 set5.length sc5, .slice ka5 kids5.length kc5, .int .i64 mn5, .int .i64 mx5, .int .i64 mode5, .int .i64 n5, .bool neg5] 64)).heap[v3.heap.size]? = some (.cells #[.int .i64 op5, .slice sa5 set5.length sc5, .slice ka5 kids5.length kc5, .int .i64 mn5, .int .i64 mx5, .int .i64 mode5, .int .i64 n5, .bool neg5] 64 (0, 0)) from by have h := heap_alloc_new v3 (.cells #[.int .i64 op5, .slice sa5 set5.length sc5, .slice ka5 kids5.length kc5, .int .i64 mn5, .int .i64 mx5, .int .i64 mode5, .int .i64 n5, .bool neg5] 64); simpa using h)
          have Z4 := Lib.hid (show (v3.alloc (.cells #[.int .i64 op5, .slice sa5 set5.length sc5, .slice ka5 kids5.length kc5, .int .i64 mn5, .int .i64 mx5, .int .i64 mode5, .int .i64 n5, .bool neg5] 64)).heap[W2.heap.size]? = some (.cells #[.int .i64 0, .slice none 0 0, .slice none 0 0, .int .i64 0, .int .i64 0, .int .i64 0, .int .i64 0, .bool false] 64 (0, 0)) from (Keeps.a1 _ _).heap Z3.out (by simp))
          have OO4 := Lib.hid (OO4.out.keep (Keeps.a1 _ (.cells #[.int .i64 op5, .slice sa5 set5.length sc5, .slice ka5 kids5.length kc5, .int .i64 mn5, .int .i64 mx5, .int .i64 mode5, .int .i64 n5, .bool neg5] 64)))
          have OO5 := Lib.hid (OO5.out.keep (Keeps.a1 _ (.cells #[.int .i64 op5, .slice sa5 set5.length sc5, .slice ka5 kids5.length kc5, .int .i64 mn5, .int .i64 mx5, .int .i64 mode5, .int .i64 n5, .bool neg5] 64)))
          refine hK.out _ _ (⟨⟨K4.out.cell a0 (by simp), K4.out.cell a1 (by simp), K4.out.cell a2 (by simp), K4.out.cell a3 (by simp), K4.out.cell a4 (by simp), K4.out.cell a5 (by simp), K4.out.cell a6 (by simp), K4.out.cell a7 (by simp)⟩, ⟨K4.out.cell b0 (by simp), K4.out.cell b1 (by simp), K4.out.cell b2 (by simp), K4.out.cell b3 (by simp), K4.out.cell b4 (by simp), K4.out.cell b5 (by simp), K4.out.cell b6 (by simp), K4.out.cell b7 (by simp)⟩⟩) (fun hHeld => ?_)
          clear hK K
          try simp only [Act.put, List.setIfInBounds_toArray, List.set_cons_zero, List.set_cons_succ]
          refine take_on (i := 5) (v := ?_) rfl (by kernel_rfl) (by kernel_rfl) (by kernel_rfl) (fun _ _ _ h => h) (by rfl) (by assumption) ?_ ?_
          rotate_left
          · ((intro w hSw; (try dsimp only at hSw); go_simp <;> with_reducible rfl); done)
          try simp only [Act.put, List.setIfInBounds_toArray, List.set_cons_zero, List.set_cons_succ]
          refine branch_one (i := 6) rfl (by kernel_rfl) (by rfl) (fun K hK => ?_)
          go_simp
          refine Calls.mono (ap13 (.node 7 none 0 [] (some ⟨v3.heap.size, 0, none⟩) 1 [r5] 0 0 0 0 false) _ (mk1_ok OO5.out (Keeps.refl _ _) HR.out (by rw [R5.out]; rfl)) (by simp only [MRe.tree, MRe.trees, TT5.out]; rfl)) ?_
          rintro e v5 ⟨m9, rfl, ht9, ho9, hk5, hf9⟩
          have K5 := Lib.hid (K4.out.trans hk5)
          have Z5 := Lib.hid (hk5.heap Z4.out (by simp))
          have LT := Lib.hid (lt_of_block Z4.out)
          obtain ⟨r9, hr9⟩ : ∃ r9, r9 = m9 := ⟨_, rfl⟩
          rw [← hr9] at ht9 ho9 hf9
          have R9 := Lib.hid hr9
          have TT9 := Lib.hid ht9
          have OO9 := Lib.hid ho9
          have FF := Lib.hid hf9
          clear hr9 ht9 ho9 hf9
          obtain ⟨op9, sa9, sc9, set9, ka9, kc9, kids9, mn9, mx9, mode9, n9, neg9⟩ := m9
          simp only [MRe.val]
          have OO4 := Lib.hid (OO4.out.keep hk5)
          have OO5 := Lib.hid (OO5.out.keep hk5)
          clear hk5
          refine hK.out _ _ (⟨⟨K5.out.cell a0 (by simp), K5.out.cell a1 (by simp), K5.out.cell a2 (by simp), K5.out.cell a3 (by simp), K5.out.cell a4 (by simp), K5.out.cell a5 (by simp), K5.out.cell a6 (by simp), K5.out.cell a7 (by simp)⟩, ⟨K5.out.cell b0 (by simp), K5.out.cell b1 (by simp), K5.out.cell b2 (by simp), K5.out.cell b3 (by simp), K5.out.cell b4 (by simp), K5.out.cell b5 (by simp), K5.out.cell b6 (by simp), K5.out.cell b7 (by simp)⟩⟩) (fun hHeld => ?_)
          clear hK K
          try simp only [Act.put, List.setIfInBounds_toArray, List.set_cons_zero, List.set_cons_succ]
          refine take_on (i := 7) (v := ?_) rfl (by kernel_rfl) (by kernel_rfl) (by kernel_rfl) (fun _ _ _ h => h) (by rfl) (by assumption) ?_ ?_
          rotate_left
          · ((intro w hSw; (try dsimp only at hSw); go_simp <;> with_reducible rfl); done)
          try simp only [Act.put, List.setIfInBounds_toArray, List.set_cons_zero, List.set_cons_succ]
          refine take_on (i := 8) (v := ?_) rfl (by kernel_rfl) (by kernel_rfl) (by kernel_rfl) (fun _ _ _ h => h) (by rfl) (by assumption) ?_ ?_
          rotate_left
          · ((intro w hSw; (try dsimp only at hSw); go_simp <;> with_reducible rfl); done)
          try simp only [Act.put, List.setIfInBounds_toArray, List.set_cons_zero, List.set_cons_succ]
          refine take_on (i := 9) (v := ?_) rfl (by kernel_rfl) (by kernel_rfl) (by kernel_rfl) (fun _ _ _ h => h) (by rfl) (by assumption) ?_ ?_
          rotate_left
          · ((intro w hSw; (try dsimp only at hSw); go_simp <;> with_reducible rfl); done)
          try simp only [Act.put, List.setIfInBounds_toArray, List.set_cons_zero, List.set_cons_succ]
          obtain ⟨z0, z1, z2, z3, z4, z5, z6, z7⟩ := row_cells Z5.out
          have zf := row_frozen Z5.out
          refine branch_one (i := 11) rfl (by kernel_rfl) (by rfl) (fun K hK => ?_)
          go_simp
          have KB := Lib.hid (K5.out.after (set8_keeps v5 W2.heap.size (.int .i64 op9) (.slice sa9 set9.length sc9) (.slice ka9 kids9.length kc9) (.int .i64 mn9) (.int .i64 mx9) (.int .i64 mode9) (.int .i64 n9) (.bool neg9)) (by intro x hx; simp only [List.mem_cons, List.not_mem_nil, or_false] at hx; subst hx; exact .inr GW.out))
          refine hK.out _ _ (⟨⟨KB.out.cell a0 (by simp), KB.out.cell a1 (by simp), KB.out.cell a2 (by simp), KB.out.cell a3 (by simp), KB.out.cell a4 (by simp), KB.out.cell a5 (by simp), KB.out.cell a6 (by simp), KB.out.cell a7 (by simp)⟩, ⟨KB.out.cell b0 (by simp), KB.out.cell b1 (by simp), KB.out.cell b2 (by simp), KB.out.cell b3 (by simp), KB.out.cell b4 (by simp), KB.out.cell b5 (by simp), KB.out.cell b6 (by simp), KB.out.cell b7 (by simp)⟩⟩) (fun hHeld => ?_)
          clear hK K
          try simp only [Act.put, List.setIfInBounds_toArray, List.set_cons_zero, List.set_cons_succ]
          refine take_on (i := 12) (v := ?_) rfl (by kernel_rfl) (by kernel_rfl) (by kernel_rfl) (fun _ _ _ h => h) (by rfl) (by assumption) ?_ ?_
          rotate_left
          · ((intro w hSw; (try dsimp only at hSw); go_simp <;> with_reducible rfl); done)
          try simp only [Act.put, List.setIfInBounds_toArray, List.set_cons_zero, List.set_cons_succ]
          refine wpAnyH_done (by kernel_rfl) ?_ _
          go_wp2
          go_meet
          exact ⟨_, _, rfl, rfl, rfl, box_early (by rw [← R9.out]; exact OO9.out) (by rw [← R9.out]; exact TT9.out) Z5.out (by rw [← R9.out]; intro h; have h1 := FF.out _ h; have h2 := LT.out; omega), KB.out⟩
      case rest =>
        obtain ⟨G12, W3, rfl, rfl, rfl, bx, kx⟩ := hcut
        have BV := Lib.hid bx
        have BU := Lib.hid (BU.out.keep kx)
        have BY := Lib.hid (BY.out.keep kx)
        have BZ := Lib.hid (BZ.out.keep kx)
        have KW := Lib.hid (KW.out.trans kx)
        replace a0 := kx.cell a0 (by simp)
        replace a1 := kx.cell a1 (by simp)
        replace a2 := kx.cell a2 (by simp)
        replace a3 := kx.cell a3 (by simp)
        replace a4 := kx.cell a4 (by simp)
        replace a5 := kx.cell a5 (by simp)
        replace a6 := kx.cell a6 (by simp)
        replace a7 := kx.cell a7 (by simp)
        replace b0 := kx.cell b0 (by simp)
        replace b1 := kx.cell b1 (by simp)
        replace b2 := kx.cell b2 (by simp)
        replace b3 := kx.cell b3 (by simp)
        replace b4 := kx.cell b4 (by simp)
        replace b5 := kx.cell b5 (by simp)
        replace b6 := kx.cell b6 (by simp)
        replace b7 := kx.cell b7 (by simp)
        clear bx kx
        have kA := Keeps.a1 W3 (.cells #[.int .i64 opa, .slice saa seta.length sca, .slice kaa kidsa.length kca, .int .i64 mna, .int .i64 mxa, .int .i64 modea, .int .i64 na, .bool nega] 64)
        replace b0 := kA.cell b0 (by simp)
        replace b1 := kA.cell b1 (by simp)
        replace b2 := kA.cell b2 (by simp)
        replace b3 := kA.cell b3 (by simp)
        replace b4 := kA.cell b4 (by simp)
        replace b5 := kA.cell b5 (by simp)
        replace b6 := kA.cell b6 (by simp)
        replace b7 := kA.cell b7 (by simp)
        have hm := mk1_ok (op := 4) (mn := 0) (mx := -1) (mode := 2) (cs := #[.int .i64 opa, .slice saa seta.length sca, .slice kaa kidsa.length kca, .int .i64 mna, .int .i64 mxa, .int .i64 modea, .int .i64 na, .bool nega]) (OA.out.keep KW.out) kA (heap_alloc_new W3 (.cells #[.int .i64 opa, .slice saa seta.length sca, .slice kaa kidsa.length kca, .int .i64 mna, .int .i64 mxa, .int .i64 modea, .int .i64 na, .bool nega] 64)) rfl
        have HC := Lib.hid (lcat_any (.node 4 none 0 [] (some ⟨W3.heap.size, 0, none⟩) 1 [.node opa saa sca seta kaa kca kidsa mna mxa modea na nega] 0 (-1) 2 0 false) (.node opb sab scb setb kab kcb kidsb mnb mxb modeb nb negb) _ hm ((OB.out.keep KW.out).keep kA))
        clear hm
        go_wp2_with fail
        refine Calls.mono HC.out ?_
        rintro e w11 ⟨h, rfl, hth, hoh, hk11⟩
        have hth : h.tree = heldX := by
          rw [hth, TB.out]
          simp only [MRe.tree, MRe.trees] at *
          rw [show (Tree.node opa seta (MRe.trees kidsa) mna mxa modea na nega) = lA from TA.out]
          rfl
        replace a0 := (kA.trans hk11).cell a0 (by simp)
        replace a1 := (kA.trans hk11).cell a1 (by simp)
        replace a2 := (kA.trans hk11).cell a2 (by simp)
        replace a3 := (kA.trans hk11).cell a3 (by simp)
        replace a4 := (kA.trans hk11).cell a4 (by simp)
        replace a5 := (kA.trans hk11).cell a5 (by simp)
        replace a6 := (kA.trans hk11).cell a6 (by simp)
        replace a7 := (kA.trans hk11).cell a7 (by simp)
        replace b0 := hk11.cell b0 (by simp)
        have KS := Lib.hid (kA.trans hk11)
        have BV := Lib.hid (BV.out.keep KS.out)
        have BU := Lib.hid (BU.out.keep KS.out)
        have BY := Lib.hid (BY.out.keep KS.out)
        have BZ := Lib.hid (BZ.out.keep KS.out)
        have KW := Lib.hid (KW.out.trans KS.out)
        obtain ⟨h0, hh0⟩ : ∃ h0, h0 = h := ⟨_, rfl⟩
        rw [← hh0] at hth hoh
        have H0 := Lib.hid hh0
        have TH := Lib.hid hth
        have OH := Lib.hid hoh
        clear kA hk11 hth hoh hh0 HC KS b0 b1 b2 b3 b4 b5 b6 b7
        obtain ⟨oph, sah, sch, seth, kah, kch, kidsh, mnh, mxh, modeh, nh, negh⟩ := h
        simp only [MRe.val]
        have kA := Keeps.a1 w11 (.cells #[.int .i64 oph, .slice sah seth.length sch, .slice kah kidsh.length kch, .int .i64 mnh, .int .i64 mxh, .int .i64 modeh, .int .i64 nh, .bool negh] 64)
        have BH := Lib.hid (box_late (t := 64) (cs := #[.int .i64 oph, .slice sah seth.length sch, .slice kah kidsh.length kch, .int .i64 mnh, .int .i64 mxh, .int .i64 modeh, .int .i64 nh, .bool negh]) OH.out TH.out (by rw [H0.out]; rfl))
        have BV := Lib.hid (BV.out.keep kA)
        have BU := Lib.hid (BU.out.keep kA)
        have BY := Lib.hid (BY.out.keep kA)
        have BZ := Lib.hid (BZ.out.keep kA)
        have KW := Lib.hid (KW.out.trans kA)
        replace a0 := kA.cell a0 (by simp)
        replace a1 := kA.cell a1 (by simp)
        replace a2 := kA.cell a2 (by simp)
        replace a3 := kA.cell a3 (by simp)
        replace a4 := kA.cell a4 (by simp)
        replace a5 := kA.cell a5 (by simp)
        replace a6 := kA.cell a6 (by simp)
        replace a7 := kA.cell a7 (by simp)
        clear kA
        go_wp2_with fail
        refine Calls.mono (names_any _) ?_
        rintro e w12 ⟨gN, cN, rfl, hk12⟩
        replace a0 := hk12.cell a0 (by simp)
        replace a1 := hk12.cell a1 (by simp)
        replace a2 := hk12.cell a2 (by simp)
        replace a3 := hk12.cell a3 (by simp)
        replace a4 := hk12.cell a4 (by simp)
        replace a5 := hk12.cell a5 (by simp)
        replace a6 := hk12.cell a6 (by simp)
        replace a7 := hk12.cell a7 (by simp)
        have BH := Lib.hid (BH.out.keep hk12)
        have BV := Lib.hid (BV.out.keep hk12)
        have BU := Lib.hid (BU.out.keep hk12)
        have BY := Lib.hid (BY.out.keep hk12)
        have BZ := Lib.hid (BZ.out.keep hk12)
        have KW := Lib.hid (KW.out.trans hk12)
        clear hk12
        go_upto_region 14 with fail
        obtain ⟨G14, hG14⟩ : ∃ G14, G14 = w11.heap.size := ⟨_, rfl⟩
        rw [← hG14]
        rw [← hG14] at BH
        clear hG14
        obtain ⟨y, hy, ty, oy⟩ := BY.out
        obtain ⟨z, hz, tz, oz⟩ := BZ.out
        obtain ⟨u, hu, tu, ou⟩ := BU.out
        obtain ⟨v, hv, tv, ov⟩ := BV.out
        obtain ⟨h', hh, th, oh⟩ := BH.out
        obtain ⟨opy, say, scy, sety, kay, kcy, kidsy, mny, mxy, modey, ny, negy⟩ := y
        obtain ⟨opz, saz, scz, setz, kaz, kcz, kidsz, mnz, mxz, modez, nz, negz⟩ := z
        obtain ⟨opu, sau, scu, setu, kau, kcu, kidsu, mnu, mxu, modeu, nu, negu⟩ := u
        obtain ⟨opv, sav, scv, setv, kav, kcv, kidsv, mnv, mxv, modev, nv, negv⟩ := v
        obtain ⟨opq, saq, scq, setq, kaq, kcq, kidsq, mnq, mxq, modeq, nq, negq⟩ := h'
        obtain ⟨y0, y1, y2, y3, y4, y5, y6, y7⟩ := hy.cells0
        obtain ⟨z0, z1, z2, z3, z4, z5, z6, z7⟩ := hz.cells0
        obtain ⟨x0, x1, x2, x3, x4, x5, x6, x7⟩ := hu.cells0
        obtain ⟨v0, v1, v2, v3, v4, v5, v6, v7⟩ := hv.cells0
        obtain ⟨q0, q1, q2, q3, q4, q5, q6, q7⟩ := hh.cells0
        have TY' := Lib.hid ty
        have TZ' := Lib.hid tz
        have TU' := Lib.hid tu
        have TV' := Lib.hid tv
        have TH' := Lib.hid th
        have OY' := Lib.hid oy
        have OZ' := Lib.hid oz
        have OU' := Lib.hid ou
        have OV' := Lib.hid ov
        have OH' := Lib.hid oh
        clear hy hz hu hv hh ty tz tu tv th oy oz ou ov oh
        refine wp_region_held_drew (S := fun w' => (w'.cell? ⟨P1, 0, none⟩ = some (.int .i64 opa) ∧ w'.cell? ⟨P1, 1, none⟩ = some (.slice saa seta.length sca) ∧ w'.cell? ⟨P1, 2, none⟩ = some (.slice kaa kidsa.length kca) ∧ w'.cell? ⟨P1, 3, none⟩ = some (.int .i64 mna) ∧ w'.cell? ⟨P1, 4, none⟩ = some (.int .i64 mxa) ∧ w'.cell? ⟨P1, 5, none⟩ = some (.int .i64 modea) ∧ w'.cell? ⟨P1, 6, none⟩ = some (.int .i64 na) ∧ w'.cell? ⟨P1, 7, none⟩ = some (.bool nega)) ∧ (w'.cell? ⟨G6, 0, none⟩ = some (.int .i64 opy) ∧ w'.cell? ⟨G6, 1, none⟩ = some (.slice say sety.length scy) ∧ w'.cell? ⟨G6, 2, none⟩ = some (.slice kay kidsy.length kcy) ∧ w'.cell? ⟨G6, 3, none⟩ = some (.int .i64 mny) ∧ w'.cell? ⟨G6, 4, none⟩ = some (.int .i64 mxy) ∧ w'.cell? ⟨G6, 5, none⟩ = some (.int .i64 modey) ∧ w'.cell? ⟨G6, 6, none⟩ = some (.int .i64 ny) ∧ w'.cell? ⟨G6, 7, none⟩ = some (.bool negy)) ∧ (w'.cell? ⟨G8, 0, none⟩ = some (.int .i64 opz) ∧ w'.cell? ⟨G8, 1, none⟩ = some (.slice saz setz.length scz) ∧ w'.cell? ⟨G8, 2, none⟩ = some (.slice kaz kidsz.length kcz) ∧ w'.cell? ⟨G8, 3, none⟩ = some (.int .i64 mnz) ∧ w'.cell? ⟨G8, 4, none⟩ = some (.int .i64 mxz) ∧ w'.cell? ⟨G8, 5, none⟩ = some (.int .i64 modez) ∧ w'.cell? ⟨G8, 6, none⟩ = some (.int .i64 nz) ∧ w'.cell? ⟨G8, 7, none⟩ = some (.bool negz)) ∧ (w'.cell? ⟨G10, 0, none⟩ = some (.int .i64 opu) ∧ w'.cell? ⟨G10, 1, none⟩ = some (.slice sau setu.length scu) ∧ w'.cell? ⟨G10, 2, none⟩ = some (.slice kau kidsu.length kcu) ∧ w'.cell? ⟨G10, 3, none⟩ = some (.int .i64 mnu) ∧ w'.cell? ⟨G10, 4, none⟩ = some (.int .i64 mxu) ∧ w'.cell? ⟨G10, 5, none⟩ = some (.int .i64 modeu) ∧ w'.cell? ⟨G10, 6, none⟩ = some (.int .i64 nu) ∧ w'.cell? ⟨G10, 7, none⟩ = some (.bool negu)) ∧ (w'.cell? ⟨G12, 0, none⟩ = some (.int .i64 opv) ∧ w'.cell? ⟨G12, 1, none⟩ = some (.slice sav setv.length scv) ∧ w'.cell? ⟨G12, 2, none⟩ = some (.slice kav kidsv.length kcv) ∧ w'.cell? ⟨G12, 3, none⟩ = some (.int .i64 mnv) ∧ w'.cell? ⟨G12, 4, none⟩ = some (.int .i64 mxv) ∧ w'.cell? ⟨G12, 5, none⟩ = some (.int .i64 modev) ∧ w'.cell? ⟨G12, 6, none⟩ = some (.int .i64 nv) ∧ w'.cell? ⟨G12, 7, none⟩ = some (.bool negv)) ∧ (w'.cell? ⟨G14, 0, none⟩ = some (.int .i64 opq) ∧ w'.cell? ⟨G14, 1, none⟩ = some (.slice saq setq.length scq) ∧ w'.cell? ⟨G14, 2, none⟩ = some (.slice kaq kidsq.length kcq) ∧ w'.cell? ⟨G14, 3, none⟩ = some (.int .i64 mnq) ∧ w'.cell? ⟨G14, 4, none⟩ = some (.int .i64 mxq) ∧ w'.cell? ⟨G14, 5, none⟩ = some (.int .i64 modeq) ∧ w'.cell? ⟨G14, 6, none⟩ = some (.int .i64 nq) ∧ w'.cell? ⟨G14, 7, none⟩ = some (.bool negq))) (by kernel_rfl) ⟨⟨((Keeps.refl [] w12).drew).cell a0 (by simp), ((Keeps.refl [] w12).drew).cell a1 (by simp), ((Keeps.refl [] w12).drew).cell a2 (by simp), ((Keeps.refl [] w12).drew).cell a3 (by simp), ((Keeps.refl [] w12).drew).cell a4 (by simp), ((Keeps.refl [] w12).drew).cell a5 (by simp), ((Keeps.refl [] w12).drew).cell a6 (by simp), ((Keeps.refl [] w12).drew).cell a7 (by simp)⟩, ⟨((Keeps.refl [] w12).drew).cell y0 (by simp), ((Keeps.refl [] w12).drew).cell y1 (by simp), ((Keeps.refl [] w12).drew).cell y2 (by simp), ((Keeps.refl [] w12).drew).cell y3 (by simp), ((Keeps.refl [] w12).drew).cell y4 (by simp), ((Keeps.refl [] w12).drew).cell y5 (by simp), ((Keeps.refl [] w12).drew).cell y6 (by simp), ((Keeps.refl [] w12).drew).cell y7 (by simp)⟩, ⟨((Keeps.refl [] w12).drew).cell z0 (by simp), ((Keeps.refl [] w12).drew).cell z1 (by simp), ((Keeps.refl [] w12).drew).cell z2 (by simp), ((Keeps.refl [] w12).drew).cell z3 (by simp), ((Keeps.refl [] w12).drew).cell z4 (by simp), ((Keeps.refl [] w12).drew).cell z5 (by simp), ((Keeps.refl [] w12).drew).cell z6 (by simp), ((Keeps.refl [] w12).drew).cell z7 (by simp)⟩, ⟨((Keeps.refl [] w12).drew).cell x0 (by simp), ((Keeps.refl [] w12).drew).cell x1 (by simp), ((Keeps.refl [] w12).drew).cell x2 (by simp), ((Keeps.refl [] w12).drew).cell x3 (by simp), ((Keeps.refl [] w12).drew).cell x4 (by simp), ((Keeps.refl [] w12).drew).cell x5 (by simp), ((Keeps.refl [] w12).drew).cell x6 (by simp), ((Keeps.refl [] w12).drew).cell x7 (by simp)⟩, ⟨((Keeps.refl [] w12).drew).cell v0 (by simp), ((Keeps.refl [] w12).drew).cell v1 (by simp), ((Keeps.refl [] w12).drew).cell v2 (by simp), ((Keeps.refl [] w12).drew).cell v3 (by simp), ((Keeps.refl [] w12).drew).cell v4 (by simp), ((Keeps.refl [] w12).drew).cell v5 (by simp), ((Keeps.refl [] w12).drew).cell v6 (by simp), ((Keeps.refl [] w12).drew).cell v7 (by simp)⟩, ⟨((Keeps.refl [] w12).drew).cell q0 (by simp), ((Keeps.refl [] w12).drew).cell q1 (by simp), ((Keeps.refl [] w12).drew).cell q2 (by simp), ((Keeps.refl [] w12).drew).cell q3 (by simp), ((Keeps.refl [] w12).drew).cell q4 (by simp), ((Keeps.refl [] w12).drew).cell q5 (by simp), ((Keeps.refl [] w12).drew).cell q6 (by simp), ((Keeps.refl [] w12).drew).cell q7 (by simp)⟩⟩ (fun hHeld => ?_)
        refine take_on (i := 0) (v := ?_) rfl (by kernel_rfl) (by kernel_rfl) (by kernel_rfl) (fun _ _ _ h => h) (by rfl) (by assumption) ?_ ?_
        rotate_left
        · ((intro w hSw; (try dsimp only at hSw); go_simp <;> with_reducible rfl); done)
        try simp only [Act.put, List.setIfInBounds_toArray, List.set_cons_zero, List.set_cons_succ]
        refine branch_one (i := 1) rfl (by kernel_rfl) (by rfl) (fun K hK => ?_)
        go_simp
        refine Calls.mono (letter_any 98 99 _) ?_
        rintro e l1 ⟨m4, rfl, ht4, ho4, hk⟩
        have K1 := Lib.hid (((Keeps.refl [] w12).drew).trans hk)
        obtain ⟨r4, hr4⟩ : ∃ r4, r4 = m4 := ⟨_, rfl⟩
        rw [← hr4] at ht4 ho4
        have HCMP := Lib.hid (same0 (.node opy say scy sety kay kcy kidsy mny mxy modey ny negy) r4 (letT 98 99) l1 (OY'.out.keep K1.out) ho4 TY'.out ht4 (by decide))
        have R4 := Lib.hid hr4
        clear hk ht4 ho4
        rw [hr4] at HCMP
        clear hr4
        obtain ⟨op4, sa4, sc4, set4, ka4, kc4, kids4, mn4, mx4, mode4, n4, neg4⟩ := m4
        simp only [MRe.val] at HCMP ⊢
        refine hK.out _ _ (⟨⟨K1.out.cell a0 (by simp), K1.out.cell a1 (by simp), K1.out.cell a2 (by simp), K1.out.cell a3 (by simp), K1.out.cell a4 (by simp), K1.out.cell a5 (by simp), K1.out.cell a6 (by simp), K1.out.cell a7 (by simp)⟩, ⟨K1.out.cell y0 (by simp), K1.out.cell y1 (by simp), K1.out.cell y2 (by simp), K1.out.cell y3 (by simp), K1.out.cell y4 (by simp), K1.out.cell y5 (by simp), K1.out.cell y6 (by simp), K1.out.cell y7 (by simp)⟩, ⟨K1.out.cell z0 (by simp), K1.out.cell z1 (by simp), K1.out.cell z2 (by simp), K1.out.cell z3 (by simp), K1.out.cell z4 (by simp), K1.out.cell z5 (by simp), K1.out.cell z6 (by simp), K1.out.cell z7 (by simp)⟩, ⟨K1.out.cell x0 (by simp), K1.out.cell x1 (by simp), K1.out.cell x2 (by simp), K1.out.cell x3 (by simp), K1.out.cell x4 (by simp), K1.out.cell x5 (by simp), K1.out.cell x6 (by simp), K1.out.cell x7 (by simp)⟩, ⟨K1.out.cell v0 (by simp), K1.out.cell v1 (by simp), K1.out.cell v2 (by simp), K1.out.cell v3 (by simp), K1.out.cell v4 (by simp), K1.out.cell v5 (by simp), K1.out.cell v6 (by simp), K1.out.cell v7 (by simp)⟩, ⟨K1.out.cell q0 (by simp), K1.out.cell q1 (by simp), K1.out.cell q2 (by simp), K1.out.cell q3 (by simp), K1.out.cell q4 (by simp), K1.out.cell q5 (by simp), K1.out.cell q6 (by simp), K1.out.cell q7 (by simp)⟩⟩) (fun hHeld => ?_)
        clear hK K
        try simp only [Act.put, List.setIfInBounds_toArray, List.set_cons_zero, List.set_cons_succ]
        refine branch_one (i := 2) rfl (by kernel_rfl) (by rfl) (fun K hK => ?_)
        go_simp
        refine Calls.mono HCMP.out ?_
        rintro e l2 ⟨rfl, hk⟩
        have K2 := Lib.hid (K1.out.trans hk)
        clear hk HCMP
        refine hK.out _ _ (⟨⟨K2.out.cell a0 (by simp), K2.out.cell a1 (by simp), K2.out.cell a2 (by simp), K2.out.cell a3 (by simp), K2.out.cell a4 (by simp), K2.out.cell a5 (by simp), K2.out.cell a6 (by simp), K2.out.cell a7 (by simp)⟩, ⟨K2.out.cell y0 (by simp), K2.out.cell y1 (by simp), K2.out.cell y2 (by simp), K2.out.cell y3 (by simp), K2.out.cell y4 (by simp), K2.out.cell y5 (by simp), K2.out.cell y6 (by simp), K2.out.cell y7 (by simp)⟩, ⟨K2.out.cell z0 (by simp), K2.out.cell z1 (by simp), K2.out.cell z2 (by simp), K2.out.cell z3 (by simp), K2.out.cell z4 (by simp), K2.out.cell z5 (by simp), K2.out.cell z6 (by simp), K2.out.cell z7 (by simp)⟩, ⟨K2.out.cell x0 (by simp), K2.out.cell x1 (by simp), K2.out.cell x2 (by simp), K2.out.cell x3 (by simp), K2.out.cell x4 (by simp), K2.out.cell x5 (by simp), K2.out.cell x6 (by simp), K2.out.cell x7 (by simp)⟩, ⟨K2.out.cell v0 (by simp), K2.out.cell v1 (by simp), K2.out.cell v2 (by simp), K2.out.cell v3 (by simp), K2.out.cell v4 (by simp), K2.out.cell v5 (by simp), K2.out.cell v6 (by simp), K2.out.cell v7 (by simp)⟩, ⟨K2.out.cell q0 (by simp), K2.out.cell q1 (by simp), K2.out.cell q2 (by simp), K2.out.cell q3 (by simp), K2.out.cell q4 (by simp), K2.out.cell q5 (by simp), K2.out.cell q6 (by simp), K2.out.cell q7 (by simp)⟩⟩) (fun hHeld => ?_)
        clear hK K
        try simp only [Act.put, List.setIfInBounds_toArray, List.set_cons_zero, List.set_cons_succ]
        refine take_on (i := 3) (v := ?_) rfl (by kernel_rfl) (by kernel_rfl) (by kernel_rfl) (fun _ _ _ h => h) (by rfl) (by assumption) ?_ ?_
        rotate_left
        · ((intro w hSw; (try dsimp only at hSw); go_simp <;> with_reducible rfl); done)
        try simp only [Act.put, List.setIfInBounds_toArray, List.set_cons_zero, List.set_cons_succ]
        refine take_on (i := 4) (v := ?_) rfl (by kernel_rfl) (by kernel_rfl) (by kernel_rfl) (fun _ _ _ h => h) (by rfl) (by assumption) ?_ ?_
        rotate_left
        · ((intro w hSw; (try dsimp only at hSw); go_simp <;> with_reducible rfl); done)
        try simp only [Act.put, List.setIfInBounds_toArray, List.set_cons_zero, List.set_cons_succ]
        refine take_on (i := 5) (v := ?_) rfl (by kernel_rfl) (by kernel_rfl) (by kernel_rfl) (fun _ _ _ h => h) (by rfl) (by assumption) ?_ ?_
        rotate_left
        · ((intro w hSw; (try dsimp only at hSw); go_simp <;> with_reducible rfl); done)
        try simp only [Act.put, List.setIfInBounds_toArray, List.set_cons_zero, List.set_cons_succ]
        refine take_on (i := 6) (v := ?_) rfl (by kernel_rfl) (by kernel_rfl) (by kernel_rfl) (fun _ _ _ h => h) (by rfl) (by assumption) ?_ ?_
        rotate_left
        · ((intro w hSw; (try dsimp only at hSw); go_simp <;> with_reducible rfl); done)
        try simp only [Act.put, List.setIfInBounds_toArray, List.set_cons_zero, List.set_cons_succ]
        refine branch_one (i := 7) rfl (by kernel_rfl) (by rfl) (fun K hK => ?_)
        go_simp
        refine Calls.mono (lstar_any (.node opa saa sca seta kaa kca kidsa mna mxa modea na nega) _ (OA.out.keep (KW.out.trans K2.out))) ?_
        rintro e l3 ⟨m5, rfl, ht5, ho5, hk⟩
        rw [TA.out] at ht5
        have K3 := Lib.hid (K2.out.trans hk)
        have HCMP := Lib.hid (same0 (.node opz saz scz setz kaz kcz kidsz mnz mxz modez nz negz) m5 (starT lA) l3 (OZ'.out.keep K3.out) ho5 TZ'.out ht5 (by decide))
        clear hk ht5 ho5
        obtain ⟨op5, sa5, sc5, set5, ka5, kc5, kids5, mn5, mx5, mode5, n5, neg5⟩ := m5
        simp only [MRe.val] at HCMP ⊢
        refine hK.out _ _ (⟨⟨K3.out.cell a0 (by simp), K3.out.cell a1 (by simp), K3.out.cell a2 (by simp), K3.out.cell a3 (by simp), K3.out.cell a4 (by simp), K3.out.cell a5 (by simp), K3.out.cell a6 (by simp), K3.out.cell a7 (by simp)⟩, ⟨K3.out.cell y0 (by simp), K3.out.cell y1 (by simp), K3.out.cell y2 (by simp), K3.out.cell y3 (by simp), K3.out.cell y4 (by simp), K3.out.cell y5 (by simp), K3.out.cell y6 (by simp), K3.out.cell y7 (by simp)⟩, ⟨K3.out.cell z0 (by simp), K3.out.cell z1 (by simp), K3.out.cell z2 (by simp), K3.out.cell z3 (by simp), K3.out.cell z4 (by simp), K3.out.cell z5 (by simp), K3.out.cell z6 (by simp), K3.out.cell z7 (by simp)⟩, ⟨K3.out.cell x0 (by simp), K3.out.cell x1 (by simp), K3.out.cell x2 (by simp), K3.out.cell x3 (by simp), K3.out.cell x4 (by simp), K3.out.cell x5 (by simp), K3.out.cell x6 (by simp), K3.out.cell x7 (by simp)⟩, ⟨K3.out.cell v0 (by simp), K3.out.cell v1 (by simp), K3.out.cell v2 (by simp), K3.out.cell v3 (by simp), K3.out.cell v4 (by simp), K3.out.cell v5 (by simp), K3.out.cell v6 (by simp), K3.out.cell v7 (by simp)⟩, ⟨K3.out.cell q0 (by simp), K3.out.cell q1 (by simp), K3.out.cell q2 (by simp), K3.out.cell q3 (by simp), K3.out.cell q4 (by simp), K3.out.cell q5 (by simp), K3.out.cell q6 (by simp), K3.out.cell q7 (by simp)⟩⟩) (fun hHeld => ?_)
        clear hK K
        try simp only [Act.put, List.setIfInBounds_toArray, List.set_cons_zero, List.set_cons_succ]
        refine branch_one (i := 8) rfl (by kernel_rfl) (by rfl) (fun K hK => ?_)
        go_simp
        refine Calls.mono HCMP.out ?_
        rintro e l4 ⟨rfl, hk⟩
        have K4 := Lib.hid (K3.out.trans hk)
        clear hk HCMP
        refine hK.out _ _ (⟨⟨K4.out.cell a0 (by simp), K4.out.cell a1 (by simp), K4.out.cell a2 (by simp), K4.out.cell a3 (by simp), K4.out.cell a4 (by simp), K4.out.cell a5 (by simp), K4.out.cell a6 (by simp), K4.out.cell a7 (by simp)⟩, ⟨K4.out.cell y0 (by simp), K4.out.cell y1 (by simp), K4.out.cell y2 (by simp), K4.out.cell y3 (by simp), K4.out.cell y4 (by simp), K4.out.cell y5 (by simp), K4.out.cell y6 (by simp), K4.out.cell y7 (by simp)⟩, ⟨K4.out.cell z0 (by simp), K4.out.cell z1 (by simp), K4.out.cell z2 (by simp), K4.out.cell z3 (by simp), K4.out.cell z4 (by simp), K4.out.cell z5 (by simp), K4.out.cell z6 (by simp), K4.out.cell z7 (by simp)⟩, ⟨K4.out.cell x0 (by simp), K4.out.cell x1 (by simp), K4.out.cell x2 (by simp), K4.out.cell x3 (by simp), K4.out.cell x4 (by simp), K4.out.cell x5 (by simp), K4.out.cell x6 (by simp), K4.out.cell x7 (by simp)⟩, ⟨K4.out.cell v0 (by simp), K4.out.cell v1 (by simp), K4.out.cell v2 (by simp), K4.out.cell v3 (by simp), K4.out.cell v4 (by simp), K4.out.cell v5 (by simp), K4.out.cell v6 (by simp), K4.out.cell v7 (by simp)⟩, ⟨K4.out.cell q0 (by simp), K4.out.cell q1 (by simp), K4.out.cell q2 (by simp), K4.out.cell q3 (by simp), K4.out.cell q4 (by simp), K4.out.cell q5 (by simp), K4.out.cell q6 (by simp), K4.out.cell q7 (by simp)⟩⟩) (fun hHeld => ?_)
        clear hK K
        try simp only [Act.put, List.setIfInBounds_toArray, List.set_cons_zero, List.set_cons_succ]
        refine take_on (i := 9) (v := ?_) rfl (by kernel_rfl) (by kernel_rfl) (by kernel_rfl) (fun _ _ _ h => h) (by rfl) (by assumption) ?_ ?_
        rotate_left
        · ((intro w hSw; (try dsimp only at hSw); go_simp <;> with_reducible rfl); done)
        try simp only [Act.put, List.setIfInBounds_toArray, List.set_cons_zero, List.set_cons_succ]
        refine take_on (i := 10) (v := ?_) rfl (by kernel_rfl) (by kernel_rfl) (by kernel_rfl) (fun _ _ _ h => h) (by rfl) (by assumption) ?_ ?_
        rotate_left
        · ((intro w hSw; (try dsimp only at hSw); go_simp <;> with_reducible rfl); done)
        try simp only [Act.put, List.setIfInBounds_toArray, List.set_cons_zero, List.set_cons_succ]
        refine take_on (i := 11) (v := ?_) rfl (by kernel_rfl) (by kernel_rfl) (by kernel_rfl) (fun _ _ _ h => h) (by rfl) (by assumption) ?_ ?_
        rotate_left
        · ((intro w hSw; (try dsimp only at hSw); go_simp <;> with_reducible rfl); done)
        try simp only [Act.put, List.setIfInBounds_toArray, List.set_cons_zero, List.set_cons_succ]
        refine take_on (i := 12) (v := ?_) rfl (by kernel_rfl) (by kernel_rfl) (by kernel_rfl) (fun _ _ _ h => h) (by rfl) (by assumption) ?_ ?_
        rotate_left
        · ((intro w hSw; (try dsimp only at hSw); go_simp <;> with_reducible rfl); done)
        try simp only [Act.put, List.setIfInBounds_toArray, List.set_cons_zero, List.set_cons_succ]
        refine take_on (i := 13) (v := ?_) rfl (by kernel_rfl) (by kernel_rfl) (by kernel_rfl) (fun _ _ _ h => h) (by rfl) (by assumption) ?_ ?_
        rotate_left
        · ((intro w hSw; (try dsimp only at hSw); go_simp <;> with_reducible rfl); done)
        try simp only [Act.put, List.setIfInBounds_toArray, List.set_cons_zero, List.set_cons_succ]
        have HCMP := same0 (.node opu sau scu setu kau kcu kidsu mnu mxu modeu nu negu) (.node opq saq scq setq kaq kcq kidsq mnq mxq modeq nq negq) heldX l4 (OU'.out.keep K4.out) (OH'.out.keep K4.out) TU'.out TH'.out (by decide)
        simp only [MRe.val] at HCMP
        have HCMP := Lib.hid HCMP
        refine branch_one (i := 14) rfl (by kernel_rfl) (by rfl) (fun K hK => ?_)
        go_simp
        refine Calls.mono HCMP.out ?_
        rintro e l5 ⟨rfl, hk⟩
        have K5 := Lib.hid (K4.out.trans hk)
        clear hk HCMP
        refine hK.out _ _ (⟨⟨K5.out.cell a0 (by simp), K5.out.cell a1 (by simp), K5.out.cell a2 (by simp), K5.out.cell a3 (by simp), K5.out.cell a4 (by simp), K5.out.cell a5 (by simp), K5.out.cell a6 (by simp), K5.out.cell a7 (by simp)⟩, ⟨K5.out.cell y0 (by simp), K5.out.cell y1 (by simp), K5.out.cell y2 (by simp), K5.out.cell y3 (by simp), K5.out.cell y4 (by simp), K5.out.cell y5 (by simp), K5.out.cell y6 (by simp), K5.out.cell y7 (by simp)⟩, ⟨K5.out.cell z0 (by simp), K5.out.cell z1 (by simp), K5.out.cell z2 (by simp), K5.out.cell z3 (by simp), K5.out.cell z4 (by simp), K5.out.cell z5 (by simp), K5.out.cell z6 (by simp), K5.out.cell z7 (by simp)⟩, ⟨K5.out.cell x0 (by simp), K5.out.cell x1 (by simp), K5.out.cell x2 (by simp), K5.out.cell x3 (by simp), K5.out.cell x4 (by simp), K5.out.cell x5 (by simp), K5.out.cell x6 (by simp), K5.out.cell x7 (by simp)⟩, ⟨K5.out.cell v0 (by simp), K5.out.cell v1 (by simp), K5.out.cell v2 (by simp), K5.out.cell v3 (by simp), K5.out.cell v4 (by simp), K5.out.cell v5 (by simp), K5.out.cell v6 (by simp), K5.out.cell v7 (by simp)⟩, ⟨K5.out.cell q0 (by simp), K5.out.cell q1 (by simp), K5.out.cell q2 (by simp), K5.out.cell q3 (by simp), K5.out.cell q4 (by simp), K5.out.cell q5 (by simp), K5.out.cell q6 (by simp), K5.out.cell q7 (by simp)⟩⟩) (fun hHeld => ?_)
        clear hK K
        try simp only [Act.put, List.setIfInBounds_toArray, List.set_cons_zero, List.set_cons_succ]
        refine take_on (i := 15) (v := ?_) rfl (by kernel_rfl) (by kernel_rfl) (by kernel_rfl) (fun _ _ _ h => h) (by rfl) (by assumption) ?_ ?_
        rotate_left
        · ((intro w hSw; (try dsimp only at hSw); go_simp <;> with_reducible rfl); done)
        try simp only [Act.put, List.setIfInBounds_toArray, List.set_cons_zero, List.set_cons_succ]
        refine take_on (i := 16) (v := ?_) rfl (by kernel_rfl) (by kernel_rfl) (by kernel_rfl) (fun _ _ _ h => h) (by rfl) (by assumption) ?_ ?_
        rotate_left
        · ((intro w hSw; (try dsimp only at hSw); go_simp <;> with_reducible rfl); done)
        try simp only [Act.put, List.setIfInBounds_toArray, List.set_cons_zero, List.set_cons_succ]
        refine take_on (i := 17) (v := ?_) rfl (by kernel_rfl) (by kernel_rfl) (by kernel_rfl) (fun _ _ _ h => h) (by rfl) (by assumption) ?_ ?_
        rotate_left
        · ((intro w hSw; (try dsimp only at hSw); go_simp <;> with_reducible rfl); done)
        try simp only [Act.put, List.setIfInBounds_toArray, List.set_cons_zero, List.set_cons_succ]
        refine take_on (i := 18) (v := ?_) rfl (by kernel_rfl) (by kernel_rfl) (by kernel_rfl) (fun _ _ _ h => h) (by rfl) (by assumption) ?_ ?_
        rotate_left
        · ((intro w hSw; (try dsimp only at hSw); go_simp <;> with_reducible rfl); done)
        try simp only [Act.put, List.setIfInBounds_toArray, List.set_cons_zero, List.set_cons_succ]
        refine take_on (i := 19) (v := ?_) rfl (by kernel_rfl) (by kernel_rfl) (by kernel_rfl) (fun _ _ _ h => h) (by rfl) (by assumption) ?_ ?_
        rotate_left
        · ((intro w hSw; (try dsimp only at hSw); go_simp <;> with_reducible rfl); done)
        try simp only [Act.put, List.setIfInBounds_toArray, List.set_cons_zero, List.set_cons_succ]
        refine branch_one (i := 20) rfl (by kernel_rfl) (by rfl) (fun K hK => ?_)
        go_simp
        have K6 := Lib.hid (K5.out.alloc (.cells #[.int .i64 opa, .slice saa seta.length sca, .slice kaa kidsa.length kca, .int .i64 mna, .int .i64 mxa, .int .i64 modea, .int .i64 na, .bool nega] 64))
        have hm := mk1_ok (op := 7) (mn := 0) (mx := 0) (mode := 0) (cs := #[.int .i64 opa, .slice saa seta.length sca, .slice kaa kidsa.length kca, .int .i64 mna, .int .i64 mxa, .int .i64 modea, .int .i64 na, .bool nega]) (OA.out.keep (KW.out.trans K5.out)) (Keeps.a1 l5 _) (heap_alloc_new l5 (.cells #[.int .i64 opa, .slice saa seta.length sca, .slice kaa kidsa.length kca, .int .i64 mna, .int .i64 mxa, .int .i64 modea, .int .i64 na, .bool nega] 64)) rfl
        have HCMP := same0 (.node opv sav scv setv kav kcv kidsv mnv mxv modev nv negv) (.node 7 none 0 [] (some ⟨l5.heap.size, 0, none⟩) 1 [.node opa saa sca seta kaa kca kidsa mna mxa modea na nega] 0 0 0 0 false) (mkT 7 [lA]) _ (OV'.out.keep K6.out) hm TV'.out (by rw [← TA.out]; rfl) (by decide)
        simp only [MRe.val] at HCMP
        have HCMP := Lib.hid HCMP
        clear hm
        refine hK.out _ _ (⟨⟨K6.out.cell a0 (by simp), K6.out.cell a1 (by simp), K6.out.cell a2 (by simp), K6.out.cell a3 (by simp), K6.out.cell a4 (by simp), K6.out.cell a5 (by simp), K6.out.cell a6 (by simp), K6.out.cell a7 (by simp)⟩, ⟨K6.out.cell y0 (by simp), K6.out.cell y1 (by simp), K6.out.cell y2 (by simp), K6.out.cell y3 (by simp), K6.out.cell y4 (by simp), K6.out.cell y5 (by simp), K6.out.cell y6 (by simp), K6.out.cell y7 (by simp)⟩, ⟨K6.out.cell z0 (by simp), K6.out.cell z1 (by simp), K6.out.cell z2 (by simp), K6.out.cell z3 (by simp), K6.out.cell z4 (by simp), K6.out.cell z5 (by simp), K6.out.cell z6 (by simp), K6.out.cell z7 (by simp)⟩, ⟨K6.out.cell x0 (by simp), K6.out.cell x1 (by simp), K6.out.cell x2 (by simp), K6.out.cell x3 (by simp), K6.out.cell x4 (by simp), K6.out.cell x5 (by simp), K6.out.cell x6 (by simp), K6.out.cell x7 (by simp)⟩, ⟨K6.out.cell v0 (by simp), K6.out.cell v1 (by simp), K6.out.cell v2 (by simp), K6.out.cell v3 (by simp), K6.out.cell v4 (by simp), K6.out.cell v5 (by simp), K6.out.cell v6 (by simp), K6.out.cell v7 (by simp)⟩, ⟨K6.out.cell q0 (by simp), K6.out.cell q1 (by simp), K6.out.cell q2 (by simp), K6.out.cell q3 (by simp), K6.out.cell q4 (by simp), K6.out.cell q5 (by simp), K6.out.cell q6 (by simp), K6.out.cell q7 (by simp)⟩⟩) (fun hHeld => ?_)
        clear hK K
        try simp only [Act.put, List.setIfInBounds_toArray, List.set_cons_zero, List.set_cons_succ]
        refine take_on (i := 21) (v := ?_) rfl (by kernel_rfl) (by kernel_rfl) (by kernel_rfl) (fun _ _ _ h => h) (by rfl) (by assumption) ?_ ?_
        rotate_left
        · ((intro w hSw; (try dsimp only at hSw); go_simp <;> with_reducible rfl); done)
        try simp only [Act.put, List.setIfInBounds_toArray, List.set_cons_zero, List.set_cons_succ]
        refine branch_one (i := 22) rfl (by kernel_rfl) (by rfl) (fun K hK => ?_)
        go_simp
        refine Calls.mono HCMP.out ?_
        rintro e l6 ⟨rfl, hk⟩
        have K7 := Lib.hid (K6.out.trans hk)
        clear hk HCMP
        refine hK.out _ _ (⟨⟨K7.out.cell a0 (by simp), K7.out.cell a1 (by simp), K7.out.cell a2 (by simp), K7.out.cell a3 (by simp), K7.out.cell a4 (by simp), K7.out.cell a5 (by simp), K7.out.cell a6 (by simp), K7.out.cell a7 (by simp)⟩, ⟨K7.out.cell y0 (by simp), K7.out.cell y1 (by simp), K7.out.cell y2 (by simp), K7.out.cell y3 (by simp), K7.out.cell y4 (by simp), K7.out.cell y5 (by simp), K7.out.cell y6 (by simp), K7.out.cell y7 (by simp)⟩, ⟨K7.out.cell z0 (by simp), K7.out.cell z1 (by simp), K7.out.cell z2 (by simp), K7.out.cell z3 (by simp), K7.out.cell z4 (by simp), K7.out.cell z5 (by simp), K7.out.cell z6 (by simp), K7.out.cell z7 (by simp)⟩, ⟨K7.out.cell x0 (by simp), K7.out.cell x1 (by simp), K7.out.cell x2 (by simp), K7.out.cell x3 (by simp), K7.out.cell x4 (by simp), K7.out.cell x5 (by simp), K7.out.cell x6 (by simp), K7.out.cell x7 (by simp)⟩, ⟨K7.out.cell v0 (by simp), K7.out.cell v1 (by simp), K7.out.cell v2 (by simp), K7.out.cell v3 (by simp), K7.out.cell v4 (by simp), K7.out.cell v5 (by simp), K7.out.cell v6 (by simp), K7.out.cell v7 (by simp)⟩, ⟨K7.out.cell q0 (by simp), K7.out.cell q1 (by simp), K7.out.cell q2 (by simp), K7.out.cell q3 (by simp), K7.out.cell q4 (by simp), K7.out.cell q5 (by simp), K7.out.cell q6 (by simp), K7.out.cell q7 (by simp)⟩⟩) (fun hHeld => ?_)
        clear hK K
        try simp only [Act.put, List.setIfInBounds_toArray, List.set_cons_zero, List.set_cons_succ]
        refine take_on (i := 23) (v := ?_) rfl (by kernel_rfl) (by kernel_rfl) (by kernel_rfl) (fun _ _ _ h => h) (by rfl) (by assumption) ?_ ?_
        rotate_left
        · ((intro w hSw; (try dsimp only at hSw); go_simp <;> with_reducible rfl); done)
        try simp only [Act.put, List.setIfInBounds_toArray, List.set_cons_zero, List.set_cons_succ]
        refine take_on (i := 24) (v := ?_) rfl (by kernel_rfl) (by kernel_rfl) (by kernel_rfl) (fun _ _ _ h => h) (by rfl) (by assumption) ?_ ?_
        rotate_left
        · ((intro w hSw; (try dsimp only at hSw); go_simp <;> with_reducible rfl); done)
        try simp only [Act.put, List.setIfInBounds_toArray, List.set_cons_zero, List.set_cons_succ]
        refine take_on (i := 25) (v := ?_) rfl (by kernel_rfl) (by kernel_rfl) (by kernel_rfl) (fun _ _ _ h => h) (by rfl) (by assumption) ?_ ?_
        rotate_left
        · ((intro w hSw; (try dsimp only at hSw); go_simp <;> with_reducible rfl); done)
        simp only [Act.put, List.setIfInBounds_toArray, List.set_cons_zero]
        refine wpAnyH_done (by kernel_rfl) ?_ _
        clear hHeld a0 a1 a2 a3 a4 a5 a6 a7 y0 y1 y2 y3 y4 y5 y6 y7 z0 z1 z2 z3 z4 z5 z6 z7 x0 x1 x2 x3 x4 x5 x6 x7 v0 v1 v2 v3 v4 v5 v6 v7 q0 q1 q2 q3 q4 q5 q6 q7
        go_wp2
        go_ret
        exact ⟨rfl, K3'.out.trans (KW.out.trans K7.out)⟩


end Go.Proofs.YtgdmkddegcecaaaGreat
