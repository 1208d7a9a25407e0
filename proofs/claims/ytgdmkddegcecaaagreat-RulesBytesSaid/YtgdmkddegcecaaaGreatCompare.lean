/- ast.Compare and rules.equal over trees in memory. Conditions: the trees lie in memory. -/
import Derived.Test.YtgdmkddegcecaaaGreatCmpFn
import Derived.Laws.EntriesVeiled
namespace Go.Proofs.YtgdmkddegcecaaaGreat
open Go.RowKit

theorem MRe.induct {P : MRe → Prop} (h : ∀ op sa sc set ka kc kids mn mx mode n neg, (∀ k ∈ kids, P k) → P (.node op sa sc set ka kc kids mn mx mode n neg)) : ∀ m, P m := by
  intro m
  induction hb : m.tree.bulk using Nat.strongRecOn generalizing m with
  | _ b ih =>
    cases m with
    | node op sa sc set ka kc kids mn mx mode n neg =>
      refine h op sa sc set ka kc kids mn mx mode n neg fun k hk => ih k.tree.bulk ?_ k rfl
      subst hb
      have : k.tree ∈ MRe.trees kids := by rw [MRe.trees_eq]; exact List.mem_map_of_mem hk
      have := Tree.bulks_mem this
      simp only [MRe.tree, Tree.bulk]
      omega
theorem trees_drop (l : List MRe) (k : Nat) (h : k < l.length) : (MRe.trees l).drop k = l[k].tree :: (MRe.trees l).drop (k + 1) := by
  rw [MRe.trees_eq, ← List.map_drop, List.drop_eq_getElem_cons h, List.map_cons, ← List.map_drop]

set_option maxHeartbeats 2000000 in
theorem compareWalk_any (m1 : MRe) : ∀ (m2 : MRe) (b1 o1 b2 o2 c : Nat) (w : World), At8 w b1 o1 m1 → At8 w b2 o2 m2 → m1.OK w → m2.OK w → w.cell? ⟨c, 0, none⟩ = some (.func (Fn.func 92) #[] #[.pointer (some ⟨c, 0, none⟩)]) →
    Calls Tryz.prog 92 #[.pointer (some ⟨b1, o1, none⟩), .pointer (some ⟨b2, o2, none⟩), .pointer (some ⟨c, 0, none⟩)] w fun e w' => e = .returned (.int .i64 (cmpT m1.tree m2.tree)) ∧ Keeps [] w w' := by
  induction m1 using MRe.induct with
  | h op1 sa1 sc1 set1 ka1 kc1 kids1 mn1 mx1 mode1 n1 neg1 ih =>
    intro m2 b1 o1 b2 o2 c w h1 h2 k1 k2 hc
    have HC := Lib.hid (fun W (hk : Keeps [] w W) => compareNodes_any b1 o1 b2 o2 _ m2 W (h1.keep hk) (h2.keep hk) (k1.keep hk) (k2.keep hk))
    have hcmp := cmpT_eq (MRe.node op1 sa1 sc1 set1 ka1 kc1 kids1 mn1 mx1 mode1 n1 neg1).tree m2.tree
    obtain ⟨T1, hT1⟩ : ∃ T, T = (MRe.node op1 sa1 sc1 set1 ka1 kc1 kids1 mn1 mx1 mode1 n1 neg1).tree := ⟨_, rfl⟩
    obtain ⟨T2, hT2⟩ : ∃ T, T = m2.tree := ⟨_, rfl⟩
    rw [← hT1, ← hT2] at HC hcmp ⊢
    obtain ⟨q, hq⟩ : ∃ q, q = lexP (nodeN T1 T2) := ⟨_, rfl⟩
    rw [← hq] at HC hcmp
    have hlen : q = 0 → (MRe.trees kids1).length = T2.kids.length := fun h => by
      have h2 := lexP_zero (hq.symm.trans h) ((T1.kids.length : Int), (T2.kids.length : Int)) (by simp [nodeN, pairsN])
      simp only at h2
      have h3 : T1.kids = MRe.trees kids1 := by rw [hT1]; rfl
      rw [h3] at h2
      omega
    have hT1k : T1.kids = MRe.trees kids1 := by rw [hT1]; rfl
    rw [hT1k] at hcmp
    have HCMP := Lib.hid hcmp
    have HLEN := Lib.hid hlen
    have HT2 := Lib.hid hT2
    have HI := Lib.hid ih
    have a2 := h1.node.c2
    have hn1 := k1.nodes.le
    have hN1 := k1.nodes.cap
    unfold maxLen at hN1
    have HK1 := Lib.hid k1.kids
    have HH2 := Lib.hid h2
    have HK2 := Lib.hid k2
    clear ih hq hcmp hlen hT1 hT2 hT1k h1 h2 k1 k2
    go_enter Tryz.func92, Tryz.ntmps92
    go_wp2_with fail
    refine Calls.mono (HC.out _ (Keeps.refl _ _)) ?_
    rintro e w2 ⟨rfl, hk2⟩
    have e2 := hk2.cell a2 (by simp)
    have ec := hk2.cell hc (by simp)
    have HKA := Lib.hid hk2
    clear hk2 a2 hc HC
    by_cases hz : q = 0
    · have hl := HLEN.out hz
      have hcm := HCMP.out
      rw [if_neg (by simp [hz])] at hcm
      have HCM := Lib.hid hcm
      obtain ⟨op2, sa2, sc2, set2, ka2, kc2, kids2, mn2, mx2, mode2, n2, neg2⟩ := m2
      have hT2k : T2.kids = MRe.trees kids2 := by rw [HT2.out]; rfl
      rw [hT2k] at hl HCM
      rw [MRe.trees_length, MRe.trees_length] at hl
      have HL := Lib.hid hl
      have d2 := HKA.out.cell HH2.out.node.c2 (by simp)
      have HKK2 := Lib.hid HK2.out.kids
      clear hl hcm hT2k HLEN HCMP HH2 HK2
      subst hz
      go_wp2
      go_loopw [20] (fun i wr => ∃ k : Nat, k ≤ kids1.length ∧ i = .int .i64 k ∧ cmpTs ((MRe.trees kids1).drop k) ((MRe.trees kids2).drop k) = cmpTs (MRe.trees kids1) (MRe.trees kids2) ∧ Keeps [] w2 wr) (fun i _ => kids1.length - (intOf i).toNat)
      case atStart => exact ⟨0, Nat.zero_le _, rfl, rfl, Keeps.refl _ _⟩
      case round =>
        obtain ⟨k, hk, rfl, hl, hkp⟩ := hrel
        have HLL := Lib.hid hl
        have HK := Lib.hid hkp
        by_cases hlt : k < kids1.length
        · have hlt2 : k < kids2.length := by rw [← HL.out]; exact hlt
          have hkk := HKA.out.trans hkp
          obtain ⟨b, off, rfl, hb, hx⟩ := (HK1.out.keep hkk).nodes.kid (by omega)
          obtain ⟨b', off', rfl, hb', hx'⟩ := (HKK2.out.keep hkk).nodes.kid (by omega)
          have x1 := hkp.cell e2 (by simp)
          have x2 := hkp.cell d2 (by simp)
          have x3 := hkp.cell ec (by simp)
          have hc1 := (HK1.out.keep hkk).all kids1[k] (List.getElem_mem hlt)
          have hc2 := (HKK2.out.keep hkk).all kids2[k] (List.getElem_mem hlt2)
          have HCALL := Lib.hid (fun W (h : Keeps [] wr W) => HI.out kids1[k] (List.getElem_mem hlt) kids2[k] b (off + k * 8) b' (off' + k * 8) c W ((hx k hlt).keep h) ((hx' k hlt2).keep h) (hc1.keep h) (hc2.keep h) (h.cell x3 (by simp)))
          have hd : cmpTs (MRe.trees kids1) (MRe.trees kids2) = if cmpT kids1[k].tree kids2[k].tree ≠ 0 then cmpT kids1[k].tree kids2[k].tree else cmpTs ((MRe.trees kids1).drop (k + 1)) ((MRe.trees kids2).drop (k + 1)) := by
            rw [← hl, trees_drop kids1 k hlt, trees_drop kids2 k hlt2, cmpTs]
          obtain ⟨q, hq⟩ : ∃ q, q = cmpT kids1[k].tree kids2[k].tree := ⟨_, rfl⟩
          rw [← hq] at hd HCALL
          have HD := Lib.hid hd
          have hle2 := HKK2.out.nodes.le
          have hcap2 := HKK2.out.nodes.cap
          unfold maxLen at hcap2
          clear hq hd hc1 hc2 hx hx' hkk hl hkp HI
          go_wp2
          go_region_held3 (fun w' => w'.cell? ⟨c, 0, none⟩ = some (.func (Fn.func 92) #[] #[.pointer (some ⟨c, 0, none⟩)]) ∧ w'.cell? ⟨b1, o1 + 2, none⟩ = some (.slice (some ⟨b, off, none⟩) kids1.length kc1) ∧ w'.cell? ⟨b2, o2 + 2, none⟩ = some (.slice (some ⟨b', off', none⟩) kids2.length kc2))
            (first | exact ⟨x3, x1, x2⟩ | exact ⟨E1.out.cell x3 (by simp), E1.out.cell x1 (by simp), E1.out.cell x2 (by simp)⟩)
            (first
              | (go_at_call 92; refine Calls.mono (HCALL.out _ ((Keeps.refl [] wr).drew)) ?_; rintro e w3 ⟨rfl, hk3⟩; have E1 := Lib.hid (((Keeps.refl [] wr).drew).trans hk3); clear hk3))
          have HK3 := Lib.hid (HK.out.trans E1.out)
          clear x1 x2 x3 E1 HCALL
          by_cases hq : q = 0
          · have hdd := HD.out
            rw [if_neg (by simp [hq])] at hdd
            have HDE := Lib.hid hdd
            clear hdd HD
            subst hq
            go_wp2
            go_roundw
            case rel => exact ⟨k + 1, by omega, by go_num, HDE.out.symm, HK3.out⟩
            case measure => simp [intOf]; omega
          · have hdd := HD.out
            rw [if_pos hq] at hdd
            have HDD := Lib.hid hdd
            have hqb : (q != 0) = true := by simp [hq]
            clear hdd HD
            go_wp2
            go_ret
            exact ⟨by rw [HCM.out, HDD.out]; rfl, HKA.out.trans HK3.out⟩
        · obtain rfl : k = kids1.length := by omega
          have h0 : cmpTs (MRe.trees kids1) (MRe.trees kids2) = 0 := by rw [← hl, List.drop_of_length_le (by rw [MRe.trees_length]; omega)]; simp [cmpTs]
          have HH0 := Lib.hid h0
          clear hl hkp h0
          go_wp2
          go_ret
          exact ⟨by rw [HCM.out, HH0.out]; rfl, HKA.out.trans HK.out⟩
    · have hcm := HCMP.out
      rw [if_pos hz] at hcm
      have HCM := Lib.hid hcm
      have hqb : (q != 0) = true := by simp [hz]
      clear hcm HCMP HLEN
      go_wp2
      go_ret
      exact ⟨by rw [HCM.out]; rfl, HKA.out⟩

set_option maxHeartbeats 400000 in
theorem acompare_any (m1 m2 : MRe) (w : World) (k1 : m1.OK w) (k2 : m2.OK w) :
    Calls Tryz.prog 82 #[m1.val, m2.val] w fun e w' => e = .returned (.int .i64 (cmpT m1.tree m2.tree)) ∧ Keeps [] w w' := by
  have HW := Lib.hid (compareWalk_any m1 m2)
  have HK1 := Lib.hid k1
  have HK2 := Lib.hid k2
  obtain ⟨r1, hr1⟩ : ∃ r, r = m1 := ⟨_, rfl⟩
  obtain ⟨r2, hr2⟩ : ∃ r, r = m2 := ⟨_, rfl⟩
  obtain ⟨op1, sa1, sc1, set1, ka1, kc1, kids1, mn1, mx1, mode1, n1, neg1⟩ := m1
  obtain ⟨op2, sa2, sc2, set2, ka2, kc2, kids2, mn2, mx2, mode2, n2, neg2⟩ := m2
  simp only [MRe.val]
  have hmf : ∀ (fn : Fn) (first cap : Array Value) (w : World), (Instr.makeFunc fn first cap).run Tryz.prog w = .ok (.func fn first cap) w := fun _ _ _ _ => rfl
  rw [← hr1] at HW HK1 ⊢
  rw [← hr2] at HW HK2 ⊢
  have R1 : r1.row = [.int .i64 op1, .slice sa1 set1.length sc1, .slice ka1 kids1.length kc1, .int .i64 mn1, .int .i64 mx1, .int .i64 mode1, .int .i64 n1, .bool neg1] := by rw [hr1]; rfl
  have R2 : r2.row = [.int .i64 op2, .slice sa2 set2.length sc2, .slice ka2 kids2.length kc2, .int .i64 mn2, .int .i64 mx2, .int .i64 mode2, .int .i64 n2, .bool neg2] := by rw [hr2]; rfl
  have HR1 := Lib.hid R1
  have HR2 := Lib.hid R2
  clear hr1 hr2 R1 R2 k1 k2
  go_enter Tryz.func82, Tryz.ntmps82
  go_wp2_with fail
  refine Calls.mono (HW.out w.heap.size 0 (w.heap.size + 1) 0 (w.heap.size + 1 + 1) _ ?_ ?_ ?_ ?_ ?_) ?_
  · exact At8.keep (At8.box HR1.out.symm) (Keeps.a2 _ _ _)
  · have h := At8.box (w := w.alloc (.cells #[.int .i64 op1, .slice sa1 set1.length sc1, .slice ka1 kids1.length kc1, .int .i64 mn1, .int .i64 mx1, .int .i64 mode1, .int .i64 n1, .bool neg1] 64)) (T := 64) HR2.out.symm
    rw [show (w.alloc (.cells #[.int .i64 op1, .slice sa1 set1.length sc1, .slice ka1 kids1.length kc1, .int .i64 mn1, .int .i64 mx1, .int .i64 mode1, .int .i64 n1, .bool neg1] 64)).heap.size = w.heap.size + 1 by simp] at h
    exact h.keep (Keeps.a1 _ _)
  · exact HK1.out.keep (Keeps.a3 w _ _ _)
  · exact HK2.out.keep (Keeps.a3 w _ _ _)
  · have h := cell_new ((w.alloc (.cells #[.int .i64 op1, .slice sa1 set1.length sc1, .slice ka1 kids1.length kc1, .int .i64 mn1, .int .i64 mx1, .int .i64 mode1, .int .i64 n1, .bool neg1] 64)).alloc (.cells #[.int .i64 op2, .slice sa2 set2.length sc2, .slice ka2 kids2.length kc2, .int .i64 mn2, .int .i64 mx2, .int .i64 mode2, .int .i64 n2, .bool neg2] 64)) #[.func (Fn.func 92) #[] #[.pointer (some ⟨w.heap.size + 1 + 1, 0, none⟩)]] 111 0
    simpa using h
  rintro e w2 ⟨rfl, hk⟩
  have HK := Lib.hid ((Keeps.a3 w _ _ _).trans hk)
  clear hk
  go_wp2
  go_ret
  exact ⟨rfl, HK.out⟩

set_option maxHeartbeats 400000 in
theorem equal_any (m1 m2 : MRe) (w : World) (k1 : m1.OK w) (k2 : m2.OK w) :
    Calls Tryz.prog 64 #[m1.val, m2.val] w fun e w' => e = .returned (.bool (eqB m1.tree m2.tree)) ∧ Keeps [] w w' := by
  have HW := Lib.hid (fun W (h : Keeps [] w W) => acompare_any m1 m2 W (k1.keep h) (k2.keep h))
  obtain ⟨T1, h1⟩ : ∃ T, T = m1.tree := ⟨_, rfl⟩
  obtain ⟨T2, h2⟩ : ∃ T, T = m2.tree := ⟨_, rfl⟩
  rw [← h1, ← h2] at HW ⊢
  obtain ⟨op1, sa1, sc1, set1, ka1, kc1, kids1, mn1, mx1, mode1, n1, neg1⟩ := m1
  obtain ⟨op2, sa2, sc2, set2, ka2, kc2, kids2, mn2, mx2, mode2, n2, neg2⟩ := m2
  simp only [MRe.val] at HW ⊢
  clear k1 k2 h1 h2
  go_enter Tryz.func64, Tryz.ntmps64
  go_wp2_with fail
  refine Calls.mono (HW.out _ (Keeps.a2 w _ _)) ?_
  rintro e w2 ⟨rfl, hk⟩
  have HK := Lib.hid ((Keeps.a2 w _ _).trans hk)
  clear hk
  go_wp2
  go_ret
  refine ⟨?_, HK.out⟩
  unfold eqB
  by_cases h : cmpT T1 T2 = 0
  · simp [h]
  · simp [h]

end Go.Proofs.YtgdmkddegcecaaaGreat
