/- The tests of two kids: head, tail, stars, maybe, plus. Conditions: the trees lie in memory and are formed well. -/
import Derived.Test.YtgdmkddegcecaaaGreatBox
import Derived.BigQuiet
import Derived.Lib.QuietBelow
namespace Go.Proofs.YtgdmkddegcecaaaGreat
open Go.RowKit Go.Sort Go.BigFrame

theorem testOK_of {K : Nat} {cap : Array Value} {p : Tree → Tree → Bool} {kids : List MRe} {w : World}
    (h : ∀ a ∈ kids, ∀ b ∈ kids, ∀ W, Keeps [] w W → Calls Tryz.prog K (#[a.val, b.val] ++ cap) W fun e w' => e = .returned (.bool (p a.tree b.tree)) ∧ Keeps [] W w') : TestOK K cap p kids (Keeps [] w) (fun _ => Keeps [] w) :=
  fun i hi W hW => (h kids[i] (List.getElem_mem _) kids[i + 1] (List.getElem_mem _) W hW).mono fun e w' ⟨he, hk⟩ => ⟨he, fun _ => hW.trans hk, fun _ => hW.trans hk⟩

def hdEq (l m : List Tree) : Bool := match l, m with | a :: _, b :: _ => eqB a b | _, _ => false
def headP (x y : Tree) : Bool := x.op == 2 && (y.op == 2 && (singleHd x.kids && hdEq x.kids y.kids))

set_option maxRecDepth 100000 in
set_option maxHeartbeats 8000000 in
theorem head1_any (m1 m2 : MRe) (w : World) (k1 : m1.OK w) (k2 : m2.OK w) (f1 : m1.tree.WF) (f2 : m2.tree.WF) :
    Calls Tryz.prog 66 #[m1.val, m2.val] w fun e w' => e = .returned (.bool (headP m1.tree m2.tree)) ∧ Keeps [] w w' := by
  obtain ⟨op1, sa1, sc1, set1, ka1, kc1, kids1, mn1, mx1, mode1, n1, neg1⟩ := m1
  obtain ⟨op2, sa2, sc2, set2, ka2, kc2, kids2, mn2, mx2, mode2, n2, neg2⟩ := m2
  have hP : headP (MRe.tree (.node op1 sa1 sc1 set1 ka1 kc1 kids1 mn1 mx1 mode1 n1 neg1)) (MRe.tree (.node op2 sa2 sc2 set2 ka2 kc2 kids2 mn2 mx2 mode2 n2 neg2)) = (op1 == 2 && (op2 == 2 && (singleHd (MRe.trees kids1) && hdEq (MRe.trees kids1) (MRe.trees kids2)))) := rfl
  rw [hP]
  have hbx := box2 w (.node op1 sa1 sc1 set1 ka1 kc1 kids1 mn1 mx1 mode1 n1 neg1) (.node op2 sa2 sc2 set2 ka2 kc2 kids2 mn2 mx2 mode2 n2 neg2) 64
  have hkX := Keeps.a2 w (.cells #[.int .i64 op1, .slice sa1 set1.length sc1, .slice ka1 kids1.length kc1, .int .i64 mn1, .int .i64 mx1, .int .i64 mode1, .int .i64 n1, .bool neg1] 64) (.cells #[.int .i64 op2, .slice sa2 set2.length sc2, .slice ka2 kids2.length kc2, .int .i64 mn2, .int .i64 mx2, .int .i64 mode2, .int .i64 n2, .bool neg2] 64)
  have n1 := wf_node f1
  have n2 := wf_node f2
  simp only [MRe.val]
  by_cases h1 : op1 = 2
  · by_cases h2 : op2 = 2
    · subst h1
      subst h2
      have l1 := n1.htwo (.inl rfl)
      have l2 := n2.htwo (.inl rfl)
      obtain ⟨b1, o1, a, rfl, ha, ha0, haa, hao⟩ := k1.kids.head (by omega)
      obtain ⟨b2, o2, b, rfl, hb, hb0, hba, hbo⟩ := k2.kids.head (by omega)
      obtain ⟨r1, t1⟩ := trees_head ha0
      obtain ⟨r2, t2⟩ := trees_head hb0
      rw [t1, t2]
      have haf := wf_kid f1 ha
      have hbf := wf_kid f2 hb
      have HS := Lib.hid (fun W (h : Keeps [] w W) => single_any a W (hao.keep h) haf)
      have HE := Lib.hid (fun W (h : Keeps [] w W) => equal_any a b W (hao.keep h) (hbo.keep h))
      have hv : ((2 : Int) == 2 && ((2 : Int) == 2 && (singleHd (a.tree :: r1) && hdEq (a.tree :: r1) (b.tree :: r2)))) = (singleT a.tree && eqB a.tree b.tree) := rfl
      rw [hv]
      obtain ⟨q1, hq1⟩ : ∃ q, q = singleT a.tree := ⟨_, rfl⟩
      obtain ⟨q2, hq2⟩ : ∃ q, q = eqB a.tree b.tree := ⟨_, rfl⟩
      rw [← hq1] at HS
      rw [← hq2] at HE
      rw [← hq1, ← hq2]
      have hA := haa.keep hkX
      have hB := hba.keep hkX
      obtain ⟨op3, sa3, sc3, set3, ka3, kc3, kids3, mn3, mx3, mode3, n3, neg3⟩ := a
      obtain ⟨op4, sa4, sc4, set4, ka4, kc4, kids4, mn4, mx4, mode4, n4, neg4⟩ := b
      have g := hA.node
      have c0 := g.c0
      have c1 := g.c1
      have c2 := g.c2
      have c3 := g.c3
      have c4 := g.c4
      have c5 := g.c5
      have c6 := g.c6
      have c7 := g.c7
      clear g
      have g := hB.node
      have d0 := g.c0
      have d1 := g.c1
      have d2 := g.c2
      have d3 := g.c3
      have d4 := g.c4
      have d5 := g.c5
      have d6 := g.c6
      have d7 := g.c7
      obtain ⟨x0, -, x2, -⟩ := hbx.1.cells0
      obtain ⟨y0, -, y2, -⟩ := hbx.2.cells0
      have i1 : (0 : Int) < (kids1.length : Int) := by omega
      have i1n : 0 < kids1.length := by omega
      have i2n : 0 < kids2.length := by omega
      have i2 : (0 : Int) < (kids2.length : Int) := by omega
      simp only [MRe.val] at HS HE
      clear g hA hB hbx hP n1 n2 haa hba ha hb ha0 hb0 t1 t2 hv hq1 hq2 k1 k2 f1 f2 hao hbo haf hbf l1 l2
      have hv2 : q1 = false → (q1 && q2) = false := fun h => by rw [h]; rfl
      have hv3 : q1 = true → (q1 && q2) = q2 := fun h => by rw [h]; rfl
      have HV2 := Lib.hid hv2
      have HV3 := Lib.hid hv3
      obtain ⟨v, hv⟩ : ∃ v, v = (q1 && q2) := ⟨_, rfl⟩
      rw [← hv] at HV2 HV3 ⊢
      clear hv hv2 hv3
      obtain ⟨B, hBe⟩ : ∃ B, B = w.heap.size := ⟨_, rfl⟩
      simp only [MRe.row] at x0 x2 y0 y2 c0 c1 c2 c3 c4 c5 c6 c7 d0 d1 d2 d3 d4 d5 d6 d7
      cases q1 with
      | false =>
        go_enter Tryz.func66, Tryz.ntmps66
        go_upto_region 1 with fail
        rw [← hBe] at x0 x2 y0 y2 ⊢
        generalize (w.alloc (.cells #[.int .i64 2, .slice sa1 set1.length sc1, .slice (some ⟨b1, o1, none⟩) kids1.length kc1, .int .i64 mn1, .int .i64 mx1, .int .i64 mode1, .int .i64 n1, .bool neg1] 64)).alloc (.cells #[.int .i64 2, .slice sa2 set2.length sc2, .slice (some ⟨b2, o2, none⟩) kids2.length kc2, .int .i64 mn2, .int .i64 mx2, .int .i64 mode2, .int .i64 n2, .bool neg2] 64) = X at *
        clear hBe
        have cS : ∀ d os, Calls Tryz.prog 67 #[.agg #[.int .i64 op3, .slice sa3 set3.length sc3, .slice ka3 kids3.length kc3, .int .i64 mn3, .int .i64 mx3, .int .i64 mode3, .int .i64 n3, .bool neg3]] (grow (redrawn X d) os) fun e w'' => e = .returned (.bool false) ∧ ∃ p : Regrown, w'' = grow (redrawn X p.d) p.os := fun d os => Calls.regrown_of ((HS.out _ (hkX.trans (Keeps.of_below (below_regrown X d os)))).mono fun e w' ⟨he, hk⟩ => ⟨he, hk.below (Nat.le_refl _)⟩)
        have CS := Lib.hid cS
        have p0 := cell_regrown x0
        have p2 := cell_regrown x2
        have r0 := cell_regrown y0
        have r2 := cell_regrown y2
        have s0 := cell_regrown c0
        have s1 := cell_regrown c1
        have s2 := cell_regrown c2
        have s3 := cell_regrown c3
        have s4 := cell_regrown c4
        have s5 := cell_regrown c5
        have s6 := cell_regrown c6
        have s7 := cell_regrown c7
        have hkX' := Lib.hid hkX
        clear cS c0 c1 c2 c3 c4 c5 c6 c7 d0 d1 d2 d3 d4 d5 d6 d7 x0 x2 y0 y2 hkX
        refine wp_region_quiet_below (by kernel_rfl) (by kernel_rfl) ?_
        repeat (go_big_quiet_step (exact CS.out _ _))
        refine wpQuiet_nil ?_
        intro _ hw'
        obtain ⟨pq, hw''⟩ := hw'
        subst hw''
        have hk := Keeps.of_below (below_regrown X pq.d pq.os)
        have HK := Lib.hid (hkX'.out.trans hk)
        clear hk p0 p2 r0 r2 s0 s1 s2 s3 s4 s5 s6 s7
        generalize grow (redrawn X pq.d) pq.os = Y at *
        go_wp2
        go_ret
        exact ⟨by rw [HV2.out (by simp)]; rfl, HK.out⟩
      | true =>
        go_enter Tryz.func66, Tryz.ntmps66
        go_upto_region 1 with fail
        rw [← hBe] at x0 x2 y0 y2 ⊢
        generalize (w.alloc (.cells #[.int .i64 2, .slice sa1 set1.length sc1, .slice (some ⟨b1, o1, none⟩) kids1.length kc1, .int .i64 mn1, .int .i64 mx1, .int .i64 mode1, .int .i64 n1, .bool neg1] 64)).alloc (.cells #[.int .i64 2, .slice sa2 set2.length sc2, .slice (some ⟨b2, o2, none⟩) kids2.length kc2, .int .i64 mn2, .int .i64 mx2, .int .i64 mode2, .int .i64 n2, .bool neg2] 64) = X at *
        clear hBe
        have cS : ∀ d os, Calls Tryz.prog 67 #[.agg #[.int .i64 op3, .slice sa3 set3.length sc3, .slice ka3 kids3.length kc3, .int .i64 mn3, .int .i64 mx3, .int .i64 mode3, .int .i64 n3, .bool neg3]] (grow (redrawn X d) os) fun e w'' => e = .returned (.bool true) ∧ ∃ p : Regrown, w'' = grow (redrawn X p.d) p.os := fun d os => Calls.regrown_of ((HS.out _ (hkX.trans (Keeps.of_below (below_regrown X d os)))).mono fun e w' ⟨he, hk⟩ => ⟨he, hk.below (Nat.le_refl _)⟩)
        have cE : ∀ d os, Calls Tryz.prog 64 #[.agg #[.int .i64 op3, .slice sa3 set3.length sc3, .slice ka3 kids3.length kc3, .int .i64 mn3, .int .i64 mx3, .int .i64 mode3, .int .i64 n3, .bool neg3], .agg #[.int .i64 op4, .slice sa4 set4.length sc4, .slice ka4 kids4.length kc4, .int .i64 mn4, .int .i64 mx4, .int .i64 mode4, .int .i64 n4, .bool neg4]] (grow (redrawn X d) os) fun e w'' => e = .returned (.bool q2) ∧ ∃ p : Regrown, w'' = grow (redrawn X p.d) p.os := fun d os => Calls.regrown_of ((HE.out _ (hkX.trans (Keeps.of_below (below_regrown X d os)))).mono fun e w' ⟨he, hk⟩ => ⟨he, hk.below (Nat.le_refl _)⟩)
        have CS := Lib.hid cS
        have CE := Lib.hid cE
        have p0 := cell_regrown x0
        have p2 := cell_regrown x2
        have r0 := cell_regrown y0
        have r2 := cell_regrown y2
        have s0 := cell_regrown c0
        have s1 := cell_regrown c1
        have s2 := cell_regrown c2
        have s3 := cell_regrown c3
        have s4 := cell_regrown c4
        have s5 := cell_regrown c5
        have s6 := cell_regrown c6
        have s7 := cell_regrown c7
        have t0 := cell_regrown d0
        have t1 := cell_regrown d1
        have t2 := cell_regrown d2
        have t3 := cell_regrown d3
        have t4 := cell_regrown d4
        have t5 := cell_regrown d5
        have t6 := cell_regrown d6
        have t7 := cell_regrown d7
        have hkX' := Lib.hid hkX
        clear cS cE c0 c1 c2 c3 c4 c5 c6 c7 d0 d1 d2 d3 d4 d5 d6 d7 x0 x2 y0 y2 hkX
        refine wp_region_quiet_below (by kernel_rfl) (by kernel_rfl) ?_
        repeat (go_big_quiet_step (first | exact CS.out _ _ | exact CE.out _ _))
        refine wpQuiet_nil ?_
        intro _ hw'
        obtain ⟨pq, hw''⟩ := hw'
        subst hw''
        have hk := Keeps.of_below (below_regrown X pq.d pq.os)
        have HK := Lib.hid (hkX'.out.trans hk)
        clear hk p0 p2 r0 r2 s0 s1 s2 s3 s4 s5 s6 s7 t0 t1 t2 t3 t4 t5 t6 t7
        generalize grow (redrawn X pq.d) pq.os = Y at *
        go_wp2
        go_ret
        exact ⟨by rw [HV3.out (by simp)]; rfl, HK.out⟩
    · have hv : (op1 == 2 && (op2 == 2 && (singleHd (MRe.trees kids1) && hdEq (MRe.trees kids1) (MRe.trees kids2)))) = false := by simp [h2]
      rw [hv]
      subst h1
      obtain ⟨x0, -⟩ := hbx.1.cells0
      obtain ⟨y0, -⟩ := hbx.2.cells0
      have h2b : (op2 == 2) = false := by simpa using h2
      simp only [MRe.row] at x0 y0
      clear hv hP hbx n1 n2 k1 k2 f1 f2
      go_enter Tryz.func66, Tryz.ntmps66
      go_upto_region 1 with fail
      go_quiet (fail)
      go_wp2
      go_ret
      exact ⟨rfl, hkX.drewN _⟩
  · have hv : (op1 == 2 && (op2 == 2 && (singleHd (MRe.trees kids1) && hdEq (MRe.trees kids1) (MRe.trees kids2)))) = false := by simp [h1]
    rw [hv]
    obtain ⟨x0, -⟩ := hbx.1.cells0
    have h1b : (op1 == 2) = false := by simpa using h1
    simp only [MRe.row] at x0
    clear hv hP hbx n1 n2 k1 k2 f1 f2
    go_enter Tryz.func66, Tryz.ntmps66
    go_upto_region 1 with fail
    go_quiet (fail)
    go_wp2
    go_ret
    exact ⟨rfl, hkX.drewN _⟩

end Go.Proofs.YtgdmkddegcecaaaGreat
