/- ast.Compare over trees in memory. Conditions: the trees lie in memory. -/
import Derived.Test.YtgdmkddegcecaaaGreatCmpPlain
import Derived.Test.YtgdmkddegcecaaaGreatFnA
import Derived.Deep.RegionHeld3
import Derived.Deep.DeepCutAuto
namespace Go.Proofs.YtgdmkddegcecaaaGreat
open Go.RowKit

theorem lexP_drop (l : List (Int × Int)) (k : Nat) (h : k < l.length) : lexP (l.drop k) = if l[k].1 < l[k].2 then -1 else if l[k].2 < l[k].1 then 1 else lexP (l.drop (k + 1)) := by
  rw [List.drop_eq_getElem_cons h]; rfl

set_option maxHeartbeats 400000 in
theorem aorder_any (sa : Option Addr) (sc : Nat) (l : List (Int × Int)) (w : World) (h : SpansIn w sa sc l) :
    Calls Tryz.prog 99 #[.slice sa l.length sc] w fun e w' => e = .returned (.int .i64 (lexP l)) ∧ Keeps [] w w' := by
  have hle := h.le
  have hcap := h.cap
  unfold maxLen at hcap
  have HS := Lib.hid h
  clear h
  go_enter Tryz.func99, Tryz.ntmps99
  go_wp2
  go_loopw [7] (fun i wr => ∃ k : Nat, k ≤ l.length ∧ i = .int .i64 k ∧ lexP (l.drop k) = lexP l ∧ Keeps [] w wr) (fun i _ => l.length - (intOf i).toNat)
  case atStart => exact ⟨0, Nat.zero_le _, rfl, rfl, Keeps.refl _ _⟩
  case round =>
    obtain ⟨k, hk, rfl, hl, hkp⟩ := hrel
    have HL := Lib.hid hl
    have HK := Lib.hid hkp
    by_cases hlt : k < l.length
    · obtain ⟨b, off, rfl, hb, hc⟩ := (HS.out.keep hkp).at_ (by omega)
      obtain ⟨c0, c1⟩ := hc k hlt
      have hd := lexP_drop l k hlt
      have HD := Lib.hid hd
      clear hl hkp hd hc
      obtain ⟨x, hx⟩ : ∃ x, x = l[k] := ⟨_, rfl⟩
      rw [← hx] at c0 c1 HD
      clear hx
      obtain ⟨p, q⟩ := x
      simp only at c0 c1 HD
      have hdd := HD.out
      by_cases h1 : p < q
      · rw [if_pos h1] at hdd
        have HDD := Lib.hid hdd
        clear hdd
        go_wp2
        go_ret
        exact ⟨by rw [← HL.out, HDD.out]; rfl, HK.out.alloc _⟩
      · by_cases h2 : q < p
        · rw [if_neg h1, if_pos h2] at hdd
          have HDD := Lib.hid hdd
          clear hdd
          go_wp2
          go_ret
          exact ⟨by rw [← HL.out, HDD.out]; rfl, HK.out.alloc _⟩
        · rw [if_neg h1, if_neg h2] at hdd
          have HDD := Lib.hid hdd
          clear hdd
          go_wp2
          go_roundw
          case rel => exact ⟨k + 1, by omega, by go_num, by rw [← HDD.out, HL.out], HK.out.alloc _⟩
          case measure => simp [intOf]; omega
    · obtain rfl : k = l.length := by omega
      clear hl hkp
      go_wp2
      go_ret
      exact ⟨by rw [← HL.out, List.drop_length]; rfl, HK.out⟩

theorem SpansIn.pairs (w : World) (l : List (Int × Int)) (cs : Array Value) (T : Nat) (hc : cs.toList = flatP l) (hm : l.length ≤ maxLen) : SpansIn (w.alloc (.cells cs T)).drew (some ⟨w.heap.size, 0, none⟩) l.length l :=
  SpansIn.of_block (w := (w.alloc (.cells cs T)).drew) (heap_alloc_new w (.cells cs T)) hc hm

theorem digit_any (b : Bool) (w : World) : Calls Tryz.prog 100 #[.bool b] w fun e w' => e = .returned (.int .i64 (digitI b)) ∧ w = w' := by
  cases b
  all_goals
    go_enter Tryz.func100, Tryz.ntmps100
    go_wp2
    go_ret
    exact ⟨rfl, rfl⟩

theorem spansN_drop : ∀ (a b : List (Int × Int)) (k : Nat) (ha : k < a.length) (hb : k < b.length), spansN (a.drop k) (b.drop k) = spanN a[k] b[k] ++ spansN (a.drop (k + 1)) (b.drop (k + 1)) := by
  intro a b k ha hb
  rw [List.drop_eq_getElem_cons ha, List.drop_eq_getElem_cons hb]; rfl

set_option maxRecDepth 100000 in
set_option maxHeartbeats 4000000 in
theorem compareNodes_any (b1 o1 b2 o2 : Nat) (m1 m2 : MRe) (w : World) (h1 : At8 w b1 o1 m1) (h2 : At8 w b2 o2 m2) (k1 : m1.OK w) (k2 : m2.OK w) :
    Calls Tryz.prog 93 #[.pointer (some ⟨b1, o1, none⟩), .pointer (some ⟨b2, o2, none⟩)] w fun e w' => e = .returned (.int .i64 (lexP (nodeN m1.tree m2.tree))) ∧ Keeps [] w w' := by
  obtain ⟨op1, sa1, sc1, set1, ka1, kc1, kids1, mn1, mx1, mode1, n1, neg1⟩ := m1
  obtain ⟨op2, sa2, sc2, set2, ka2, kc2, kids2, mn2, mx2, mode2, n2, neg2⟩ := m2
  have hs1 := k1.spans
  have hs2 := k2.spans
  have hn1 := k1.nodes.le
  have hn2 := k2.nodes.le
  have hN1 := k1.nodes.cap
  have hN2 := k2.nodes.cap
  have hl1 := hs1.le
  have hl2 := hs2.le
  have hL1 := hs1.cap
  have hL2 := hs2.cap
  unfold maxLen at hN1 hN2 hL1 hL2
  have g1 := h1.node
  have g2 := h2.node
  have c0 := g1.c0
  have c1 := g1.c1
  have d0 := g2.c0
  have d1 := g2.c1
  have HG1 := Lib.hid g1
  have HG2 := Lib.hid g2
  have HS1 := Lib.hid hs1
  have HS2 := Lib.hid hs2
  clear k1 k2 h1 h2 hs1 hs2 g1 g2
  simp only [MRe.tree]
  obtain ⟨T1, hT1⟩ : ∃ T, T = Tree.node op1 set1 (MRe.trees kids1) mn1 mx1 mode1 n1 neg1 := ⟨_, rfl⟩
  obtain ⟨T2, hT2⟩ : ∃ T, T = Tree.node op2 set2 (MRe.trees kids2) mn2 mx2 mode2 n2 neg2 := ⟨_, rfl⟩
  rw [← hT1, ← hT2]
  have hh : headN T1 T2 = [(op1, op2), ((set1.length : Int), (set2.length : Int))] := by rw [hT1, hT2]; rfl
  have hp : pairsN T1 T2 = [(mn1, mn2), (mx1, mx2), (mode1, mode2), (n1, n2), (digitI neg1, digitI neg2), ((kids1.length : Int), (kids2.length : Int))] := by rw [hT1, hT2]; simp [pairsN, Tree.mn, Tree.mx, Tree.mode, Tree.n, Tree.neg, Tree.kids, MRe.trees_length]
  have hsN : spansN T1.set T2.set = spansN set1 set2 := by rw [hT1, hT2]; rfl
  have HH := Lib.hid hh
  have HP := Lib.hid hp
  have HSN := Lib.hid hsN
  clear hh hp hsN hT1 hT2
  have hN : lexP (nodeN T1 T2) = if lexP (headN T1 T2) ≠ 0 then lexP (headN T1 T2) else if lexP (spansN set1 set2) ≠ 0 then lexP (spansN set1 set2) else lexP (pairsN T1 T2) := by
    unfold nodeN; rw [lexP_append, lexP_append, HSN.out]
  have HN := Lib.hid hN
  clear hN
  obtain ⟨q1, hq1⟩ : ∃ q, q = lexP [(op1, op2), ((set1.length : Int), (set2.length : Int))] := ⟨_, rfl⟩
  obtain ⟨q3, hq3⟩ : ∃ q, q = lexP [(mn1, mn2), (mx1, mx2), (mode1, mode2), (n1, n2), (digitI neg1, digitI neg2), ((kids1.length : Int), (kids2.length : Int))] := ⟨_, rfl⟩
  rw [HH.out, HP.out, ← hq1, ← hq3] at HN
  have HQ1 := Lib.hid hq1
  have HQ3 := Lib.hid hq3
  clear hq1 hq3 HH HP HSN
  have hlen : q1 = 0 → set1.length = set2.length := fun h => by have h2 := lexP_zero (HQ1.out.symm.trans h) ((set1.length : Int), (set2.length : Int)) (by simp); simp only at h2; omega
  have HLEN := Lib.hid hlen
  clear hlen
  go_enter Tryz.func93, Tryz.ntmps93
  go_wp2
  go_region_held3 (fun w' => w'.cell? ⟨b1, o1, none⟩ = some (.int .i64 op1) ∧ w'.cell? ⟨b1, o1 + 1, none⟩ = some (.slice sa1 set1.length sc1) ∧ w'.cell? ⟨b2, o2, none⟩ = some (.int .i64 op2) ∧ w'.cell? ⟨b2, o2 + 1, none⟩ = some (.slice sa2 set2.length sc2))
    (first | exact ⟨c0, c1, d0, d1⟩ | exact ⟨E1.out.cell c0 (by simp), E1.out.cell c1 (by simp), E1.out.cell d0 (by simp), E1.out.cell d1 (by simp)⟩ | exact ⟨((Keeps.refl [] w).alloc _).drew.cell c0 (by simp), ((Keeps.refl [] w).alloc _).drew.cell c1 (by simp), ((Keeps.refl [] w).alloc _).drew.cell d0 (by simp), ((Keeps.refl [] w).alloc _).drew.cell d1 (by simp)⟩)
    (first
      | (go_at_call 99; refine Calls.mono (aorder_any (some ⟨w.heap.size, 0, none⟩) 2 [(op1, op2), ((set1.length : Int), (set2.length : Int))] _ (SpansIn.pairs w [(op1, op2), ((set1.length : Int), (set2.length : Int))] #[.int .i64 op1, .int .i64 op2, .int .i64 set1.length, .int .i64 set2.length] 119 rfl (by simp [maxLen]))) ?_; rintro e w2 ⟨rfl, hk2⟩; rw [← HQ1.out]; have E1 := Lib.hid ((((Keeps.refl [] w).alloc _).drew).trans hk2); clear hk2))
  by_cases hz : q1 = 0
  · have hl12 := HLEN.out hz
    have hgo : (if (q1 ≠ 0) then q1 else if lexP (spansN set1 set2) ≠ 0 then lexP (spansN set1 set2) else q3) = if lexP (spansN set1 set2) ≠ 0 then lexP (spansN set1 set2) else q3 := by rw [if_neg (by simp [hz])]
    rw [hgo] at HN
    clear hgo
    obtain rfl := hz
    have E0 := Lib.hid E1.out
    have e1 := E1.out.cell c1 (by simp)
    have HL12 := Lib.hid hl12
    clear c0 c1 d0 d1 E1 hl12 HLEN
    go_wp2
    go_loopw [39] (fun i wr => ∃ k : Nat, k ≤ set1.length ∧ i = .int .i64 k ∧ lexP (spansN (set1.drop k) (set2.drop k)) = lexP (spansN set1 set2) ∧ Keeps [] w wr) (fun i _ => set1.length - (intOf i).toNat)
    case atStart => exact ⟨0, Nat.zero_le _, rfl, rfl, E0.out⟩
    case round =>
      obtain ⟨k, hk, rfl, hl, hkp⟩ := hrel
      have HL := Lib.hid hl
      have HK := Lib.hid hkp
      by_cases hlt : k < set1.length
      · have hlt2 : k < set2.length := by rw [← HL12.out]; exact hlt
        obtain ⟨b, off, rfl, hb, hc⟩ := (HS1.out.keep hkp).at_ (by omega)
        obtain ⟨b', off', rfl, hb', hc'⟩ := (HS2.out.keep hkp).at_ (by omega)
        obtain ⟨x0, x1⟩ := hc k hlt
        obtain ⟨y0, y1⟩ := hc' k hlt2
        have d1 := hkp.cell HG2.out.c1 (by simp)
        have hd := spansN_drop set1 set2 k hlt hlt2
        have HD := Lib.hid hd
        clear hl hkp hd hc hc'
        generalize set1[k] = x at *
        generalize set2[k] = y at *
        obtain ⟨p, q⟩ := x
        obtain ⟨p', q'⟩ := y
        simp only at x0 x1 y0 y1
        have hdd : lexP (spansN set1 set2) = if lexP [(p, p'), (q, q')] ≠ 0 then lexP [(p, p'), (q, q')] else lexP (spansN (set1.drop (k + 1)) (set2.drop (k + 1))) := by rw [← HL.out, HD.out, lexP_append]; rfl
        obtain ⟨q2, hq2⟩ : ∃ q2, q2 = lexP [(p, p'), (q, q')] := ⟨_, rfl⟩
        rw [← hq2] at hdd
        have HQ2 := Lib.hid hq2
        have HDD := Lib.hid hdd
        clear hq2 hdd HD
        have kV : Keeps [] wr (wr.alloc (.cells #[.int .i64 p, .int .i64 q] 80)) := (Keeps.refl [] wr).alloc _
        have v0 : (wr.alloc (.cells #[.int .i64 p, .int .i64 q] 80)).cell? ⟨wr.heap.size, 0, none⟩ = some (.int .i64 p) := cell_new _ _ _ _
        have v1 : (wr.alloc (.cells #[.int .i64 p, .int .i64 q] 80)).cell? ⟨wr.heap.size, 1, none⟩ = some (.int .i64 q) := cell_new _ _ _ _
        have u1 := kV.cell d1 (by simp)
        have z0 := kV.cell y0 (by simp)
        have z1 := kV.cell y1 (by simp)
        have HKV := Lib.hid (HK.out.trans kV)
        clear kV d1 y0 y1
        go_upto_region 7 with fail
        clear x0 x1 HK
        obtain ⟨B, hB⟩ : ∃ B, B = wr.heap.size := ⟨_, rfl⟩
        rw [← hB] at v0 v1 ⊢
        generalize wr.alloc (.cells #[.int .i64 p, .int .i64 q] 80) = V at *
        clear hb hb' hB
        go_region_held3 (fun w' => w'.cell? ⟨B, 0, none⟩ = some (.int .i64 p) ∧ w'.cell? ⟨B, 1, none⟩ = some (.int .i64 q) ∧ w'.cell? ⟨b2, o2 + 1, none⟩ = some (.slice (some ⟨b', off', none⟩) set2.length sc2) ∧ w'.cell? ⟨b', off' + k * 2, none⟩ = some (.int .i64 p') ∧ w'.cell? ⟨b', off' + k * 2 + 1, none⟩ = some (.int .i64 q'))
          (first | exact ⟨v0, v1, u1, z0, z1⟩ | exact ⟨E1.out.cell v0 (by simp), E1.out.cell v1 (by simp), E1.out.cell u1 (by simp), E1.out.cell z0 (by simp), E1.out.cell z1 (by simp)⟩ | exact ⟨((Keeps.refl [] V).alloc _).drew.cell v0 (by simp), ((Keeps.refl [] V).alloc _).drew.cell v1 (by simp), ((Keeps.refl [] V).alloc _).drew.cell u1 (by simp), ((Keeps.refl [] V).alloc _).drew.cell z0 (by simp), ((Keeps.refl [] V).alloc _).drew.cell z1 (by simp)⟩)
          (first
            | (go_at_call 99; refine Calls.mono (aorder_any (some ⟨V.heap.size, 0, none⟩) 2 [(p, p'), (q, q')] _ (SpansIn.pairs V [(p, p'), (q, q')] #[.int .i64 p, .int .i64 p', .int .i64 q, .int .i64 q'] 119 rfl (by simp [maxLen]))) ?_; rintro e w3 ⟨rfl, hk3⟩; rw [← HQ2.out]; have E1 := Lib.hid ((((Keeps.refl [] V).alloc _).drew).trans hk3); clear hk3))
        have HK3 := Lib.hid (HKV.out.trans E1.out)
        clear v0 v1 u1 z0 z1 E1 HKV
        by_cases hq : q2 = 0
        · have hdd := HDD.out
          rw [if_neg (by simp [hq])] at hdd
          have HDE := Lib.hid hdd
          clear hdd HDD
          subst hq
          go_wp2
          go_roundw
          case rel => exact ⟨k + 1, by omega, by go_num, HDE.out.symm, HK3.out⟩
          case measure => simp [intOf]; omega
        · have hdd := HDD.out
          rw [if_pos hq] at hdd
          have hnn := HN.out
          rw [hdd, if_pos hq] at hnn
          have HNN := Lib.hid hnn
          have hqb : (q2 != 0) = true := by simp [hq]
          clear hdd HDD hnn HN
          go_wp2
          go_ret
          exact ⟨by rw [HNN.out]; rfl, HK3.out⟩
      · obtain rfl : k = set1.length := by omega
        have h0 : lexP (spansN set1 set2) = 0 := by rw [← HL.out, List.drop_length]; rfl
        have hnn := HN.out
        rw [h0] at hnn
        simp only [ne_eq, not_true, if_false] at hnn
        have HNN := Lib.hid hnn
        have f0 := HG1.out
        have f1 := HG2.out
        have kk := HK.out
        have p3 := kk.cell f0.c3 (by simp)
        have p4 := kk.cell f0.c4 (by simp)
        have p5 := kk.cell f0.c5 (by simp)
        have p6 := kk.cell f0.c6 (by simp)
        have p7 := kk.cell f0.c7 (by simp)
        have p2 := kk.cell f0.c2 (by simp)
        have r3 := kk.cell f1.c3 (by simp)
        have r4 := kk.cell f1.c4 (by simp)
        have r5 := kk.cell f1.c5 (by simp)
        have r6 := kk.cell f1.c6 (by simp)
        have r7 := kk.cell f1.c7 (by simp)
        have r2 := kk.cell f1.c2 (by simp)
        clear hl hkp h0 hnn HN f0 f1 kk
        go_upto_region 11 with fail
        go_region_held3 (fun w' => w'.cell? ⟨b1, o1 + 3, none⟩ = some (.int .i64 mn1) ∧ w'.cell? ⟨b1, o1 + 4, none⟩ = some (.int .i64 mx1) ∧ w'.cell? ⟨b1, o1 + 5, none⟩ = some (.int .i64 mode1) ∧ w'.cell? ⟨b1, o1 + 6, none⟩ = some (.int .i64 n1) ∧ w'.cell? ⟨b1, o1 + 7, none⟩ = some (.bool neg1) ∧ w'.cell? ⟨b1, o1 + 2, none⟩ = some (.slice ka1 kids1.length kc1) ∧
            w'.cell? ⟨b2, o2 + 3, none⟩ = some (.int .i64 mn2) ∧ w'.cell? ⟨b2, o2 + 4, none⟩ = some (.int .i64 mx2) ∧ w'.cell? ⟨b2, o2 + 5, none⟩ = some (.int .i64 mode2) ∧ w'.cell? ⟨b2, o2 + 6, none⟩ = some (.int .i64 n2) ∧ w'.cell? ⟨b2, o2 + 7, none⟩ = some (.bool neg2) ∧ w'.cell? ⟨b2, o2 + 2, none⟩ = some (.slice ka2 kids2.length kc2))
          (first | exact ⟨p3, p4, p5, p6, p7, p2, r3, r4, r5, r6, r7, r2⟩ | exact ⟨E1.out.cell p3 (by simp), E1.out.cell p4 (by simp), E1.out.cell p5 (by simp), E1.out.cell p6 (by simp), E1.out.cell p7 (by simp), E1.out.cell p2 (by simp), E1.out.cell r3 (by simp), E1.out.cell r4 (by simp), E1.out.cell r5 (by simp), E1.out.cell r6 (by simp), E1.out.cell r7 (by simp), E1.out.cell r2 (by simp)⟩ | exact ⟨((Keeps.refl [] wr).alloc _).drew.cell p3 (by simp), ((Keeps.refl [] wr).alloc _).drew.cell p4 (by simp), ((Keeps.refl [] wr).alloc _).drew.cell p5 (by simp), ((Keeps.refl [] wr).alloc _).drew.cell p6 (by simp), ((Keeps.refl [] wr).alloc _).drew.cell p7 (by simp), ((Keeps.refl [] wr).alloc _).drew.cell p2 (by simp), ((Keeps.refl [] wr).alloc _).drew.cell r3 (by simp), ((Keeps.refl [] wr).alloc _).drew.cell r4 (by simp), ((Keeps.refl [] wr).alloc _).drew.cell r5 (by simp), ((Keeps.refl [] wr).alloc _).drew.cell r6 (by simp), ((Keeps.refl [] wr).alloc _).drew.cell r7 (by simp), ((Keeps.refl [] wr).alloc _).drew.cell r2 (by simp)⟩)
          (first
            | (go_at_call 100; refine Calls.mono (digit_any _ _) ?_; rintro e w3 ⟨rfl, rfl⟩)
            | (go_at_call 99; refine Calls.mono (aorder_any (some ⟨wr.heap.size, 0, none⟩) 6 [(mn1, mn2), (mx1, mx2), (mode1, mode2), (n1, n2), (digitI neg1, digitI neg2), ((kids1.length : Int), (kids2.length : Int))] _ (SpansIn.pairs wr [(mn1, mn2), (mx1, mx2), (mode1, mode2), (n1, n2), (digitI neg1, digitI neg2), ((kids1.length : Int), (kids2.length : Int))] #[.int .i64 mn1, .int .i64 mn2, .int .i64 mx1, .int .i64 mx2, .int .i64 mode1, .int .i64 mode2, .int .i64 n1, .int .i64 n2, .int .i64 (digitI neg1), .int .i64 (digitI neg2), .int .i64 kids1.length, .int .i64 kids2.length] 119 rfl (by simp [maxLen]))) ?_; rintro e w3 ⟨rfl, hk3⟩; rw [← HQ3.out]; have E1 := Lib.hid ((((Keeps.refl [] wr).alloc _).drew).trans hk3); clear hk3))
        have HK3 := Lib.hid (HK.out.trans E1.out)
        clear p3 p4 p5 p6 p7 p2 r3 r4 r5 r6 r7 r2 E1
        go_wp2
        go_ret
        exact ⟨by rw [HNN.out]; rfl, HK3.out⟩
  · have hnn := HN.out
    rw [if_pos hz] at hnn
    have HNN := Lib.hid hnn
    have hqb : (q1 != 0) = true := by simp [hz]
    clear hnn HN HLEN c0 c1 d0 d1
    go_wp2
    go_ret
    exact ⟨by rw [HNN.out]; rfl, E1.out⟩

end Go.Proofs.YtgdmkddegcecaaaGreat
