/- Part 45 of the proof. No condition: every lemma says its own. -/
import Derived.Test.YtkekenaamnhbhaaGreatZsbr
import Derived.Test.YtkekenaamnhbhaaGreatZsam
namespace Go.Proofs.YtkekenaamnhbhaaGreat
open Go.RowKit Go.BigFrame
open Go.RowKit
set_option maxRecDepth 100000
set_option maxHeartbeats 16000000
def mA (p : Option Addr) : MRe := .node 1 p 1 [(97, 97)] none 0 [] 0 0 0 0 false
def mB (p : Option Addr) : MRe := .node 1 p 1 [(98, 98)] none 0 [] 0 0 0 0 false
def mS (p k : Option Addr) : MRe := .node 4 none 0 [] k 1 [mA p] 0 (-1) 0 0 false
def mC1 (p q k c : Option Addr) : MRe := .node 2 none 0 [] c 3 [mS p k, mS p k, mB q] 0 0 0 0 false
def mC2 (p q k c : Option Addr) : MRe := .node 2 none 0 [] c 2 [mS p k, mB q] 0 0 0 0 false
theorem agA (p : Option Addr) : AllG (mA p) := .mk ⟨rfl, rfl, rfl, rfl, .inl ⟨rfl, rfl, rfl, 97, rfl, by decide, by decide⟩⟩ (fun k hk => by cases hk)
theorem agB (p : Option Addr) : AllG (mB p) := .mk ⟨rfl, rfl, rfl, rfl, .inl ⟨rfl, rfl, rfl, 98, rfl, by decide, by decide⟩⟩ (fun k hk => by cases hk)
theorem agS (p k : Option Addr) : AllG (mS p k) := .mk ⟨rfl, rfl, rfl, rfl, .inr (.inr ⟨rfl, rfl, rfl, rfl⟩)⟩ (fun x hx => by simp at hx; subst hx; exact agA p)
theorem agC1 (p q k c : Option Addr) : AllG (mC1 p q k c) := .mk ⟨rfl, rfl, rfl, rfl, .inr (.inl ⟨rfl, rfl, rfl, by simp, by simp⟩)⟩ (fun x hx => by
 simp only [List.mem_cons, List.not_mem_nil, or_false] at hx
 rcases hx with rfl | rfl | rfl
 ·exact agS p k
 ·exact agS p k
 ·exact agB q)
theorem agC2 (p q k c : Option Addr) : AllG (mC2 p q k c) := .mk ⟨rfl, rfl, rfl, rfl, .inr (.inl ⟨rfl, rfl, rfl, by simp, by simp⟩)⟩ (fun x hx => by
 simp only [List.mem_cons, List.not_mem_nil, or_false] at hx
 rcases hx with rfl | rfl
 ·exact agS p k
 ·exact agB q)
theorem comp1 {p : Pg} {a q k c : Option Addr} (h : p.ins.map insS = codeP 0 (mC1 a q k c).tree ++ [⟨0, 0, 0, 0, []⟩]) : ∃ σ, p.ins = bins1 σ := by
 have e : codeP 0 (mC1 a q k c).tree ++ [(⟨0, 0, 0, 0, []⟩ : IsT)] = [⟨2, 1, 3, 0, []⟩, ⟨1, 0, 0, 0, [(97, 97)]⟩, ⟨3, 0, 0, 0, []⟩, ⟨2, 4, 6, 0, []⟩, ⟨1, 0, 0, 0, [(97, 97)]⟩, ⟨3, 3, 0, 0, []⟩, ⟨1, 0, 0, 0, [(98, 98)]⟩, ⟨0, 0, 0, 0, []⟩] := by kernel_rfl
 rw [e] at h
 obtain ⟨ia, ic, ins, caps, runes⟩ := p
 simp only at h ⊢
 match ins, h with
 | [⟨o0, x0, y0, n0, s0, k0, p0⟩, ⟨o1, x1, y1, n1, s1, k1, p1⟩, ⟨o2, x2, y2, n2, s2, k2, p2⟩, ⟨o3, x3, y3, n3, s3, k3, p3⟩, ⟨o4, x4, y4, n4, s4, k4, p4⟩, ⟨o5, x5, y5, n5, s5, k5, p5⟩, ⟨o6, x6, y6, n6, s6, k6, p6⟩, ⟨o7, x7, y7, n7, s7, k7, p7⟩], h =>
  simp only [List.map_cons, List.map_nil, insS, List.cons.injEq, IsT.mk.injEq, and_true] at h
  obtain ⟨⟨rfl, rfl, rfl, rfl, rfl⟩, ⟨rfl, rfl, rfl, rfl, rfl⟩, ⟨rfl, rfl, rfl, rfl, rfl⟩, ⟨rfl, rfl, rfl, rfl, rfl⟩, ⟨rfl, rfl, rfl, rfl, rfl⟩, ⟨rfl, rfl, rfl, rfl, rfl⟩, ⟨rfl, rfl, rfl, rfl, rfl⟩, ⟨rfl, rfl, rfl, rfl, rfl⟩⟩ := h
  exact ⟨fun i => [(s0, k0), (s1, k1), (s2, k2), (s3, k3), (s4, k4), (s5, k5), (s6, k6), (s7, k7)].getD i (none, 0), rfl⟩
theorem comp2 {p : Pg} {a q k c : Option Addr} (h : p.ins.map insS = codeP 0 (mC2 a q k c).tree ++ [⟨0, 0, 0, 0, []⟩]) : ∃ σ, p.ins = bins2 σ := by
 have e : codeP 0 (mC2 a q k c).tree ++ [(⟨0, 0, 0, 0, []⟩ : IsT)] = [⟨2, 1, 3, 0, []⟩, ⟨1, 0, 0, 0, [(97, 97)]⟩, ⟨3, 0, 0, 0, []⟩, ⟨1, 0, 0, 0, [(98, 98)]⟩, ⟨0, 0, 0, 0, []⟩] := by kernel_rfl
 rw [e] at h
 obtain ⟨ia, ic, ins, caps, runes⟩ := p
 simp only at h ⊢
 match ins, h with
 | [⟨o0, x0, y0, n0, s0, k0, p0⟩, ⟨o1, x1, y1, n1, s1, k1, p1⟩, ⟨o2, x2, y2, n2, s2, k2, p2⟩, ⟨o3, x3, y3, n3, s3, k3, p3⟩, ⟨o4, x4, y4, n4, s4, k4, p4⟩], h =>
  simp only [List.map_cons, List.map_nil, insS, List.cons.injEq, IsT.mk.injEq, and_true] at h
  obtain ⟨⟨rfl, rfl, rfl, rfl, rfl⟩, ⟨rfl, rfl, rfl, rfl, rfl⟩, ⟨rfl, rfl, rfl, rfl, rfl⟩, ⟨rfl, rfl, rfl, rfl, rfl⟩, ⟨rfl, rfl, rfl, rfl, rfl⟩⟩ := h
  exact ⟨fun i => [(s0, k0), (s1, k1), (s2, k2), (s3, k3), (s4, k4)].getD i (none, 0), rfl⟩
theorem gv1 {x : Gr} (h : BGr x [1, 4, 6, 7] [1, 1, 1, 0] bes1) : gvalE x = 0 := by
 obtain ⟨h1, h2, h3, a0, c0, a1, c1, a2, c2, h4⟩ := h
 unfold gvalE
 rw [h1, h2, h3, h4]
 kernel_rfl
theorem gv2 {x : Gr} (h : BGr x [1, 3, 4] [1, 1, 0] bes2) : gvalE x = 0 := by
 obtain ⟨h1, h2, h3, a0, c0, a1, c1, a2, c2, h4⟩ := h
 unfold gvalE
 rw [h1, h2, h3, h4]
 kernel_rfl
theorem bof1 (w : World) (p q k c : Option Addr) (hm : (mC1 p q k c).OK w) : Calls Tryz.prog 23 #[patP (mC1 p q k c)] w fun e w' => ∃ cb, e = .returned (.tuple #[.agg #[.slice (some ⟨cb, 0, none⟩) 4 4, .int .i64 528, .int .i64 2], .int .i64 0]) ∧ SliceAt w' 3 1 (some cb) 4 4 (bi [0, 1, 1, 1]) ∧ Keeps [] w w' := by
 refine Calls.mono (bof_any w (mC1 p q k c) 1 6 (fun x => BGr x [1, 4, 6, 7] [1, 1, 1, 0] bes1) (fun W kW => prepare_any W (mC1 p q k c) 1 6 (fun p => (∃ σ, p.ins = bins1 σ) ∧ p.caps = 0 ∧ p.runes = false) _ (hm.keep kW) rfl (fun V kV => ?_) (fun V pg hpg hpp => ?_) (fun x hx => gd1 hx (gv1 hx)))) ?_
 ·refine Calls.mono (compileP_any (mC1 p q k c) V ((hm.keep kW).keep kV) (agC1 p q k c) (by kernel_rfl) (by show (6 : Nat) ≤ 256; decide) (by show (3 : Nat) ≤ 24; decide) (by show (9 : Nat) ≤ 1000000; decide) (by show (7 : Nat) ≤ 8000; decide)) ?_
  rintro e V' ⟨pg, rfl, h1, h2, h3, h4, h5⟩
  exact ⟨h5, pg, rfl, h1, comp1 h4, h2, h3⟩
 ·obtain ⟨ia, ic, ins, caps, runes⟩ := pg
  obtain ⟨⟨σ, h1⟩, h2, h3⟩ := hpp
  simp only at h1 h2 h3
  subst h1 h2 h3
  exact Calls.mono (Of_any _ _ _ _ _ _ V hpg (bpre1 ia ic σ)) (fun e V' h => bgr1 h)
 ·rintro e w' ⟨x, ps, cb, hx, hr, rfl, hs, hk⟩
  obtain ⟨a0, c0, a1, c1, a2, c2, a3, c3, rfl⟩ := gd1_ps (by rw [(gd1_of hx).2.1] at hr; exact hr)
  have n1 : x.nodes.length = 4 := by rw [hx.1]; rfl
  rw [gd1_rk hx, n1] at hs
  refine ⟨cb, ?_, hs, hk⟩
  rw [gd1_qs hx, gd1_rk hx, gd1_fac hx, gd1_deg hx, n1]
theorem bof2 (w : World) (p q k c : Option Addr) (hm : (mC2 p q k c).OK w) : Calls Tryz.prog 23 #[patP (mC2 p q k c)] w fun e w' => ∃ cb f, e = .returned (.tuple #[.agg #[.slice (some ⟨cb, 0, none⟩) 3 3, .int .i64 f, .int .i64 1], .int .i64 0]) ∧ SliceAt w' 3 1 (some cb) 3 3 (bi [0, 0, 0]) ∧ Keeps [] w w' := by
 refine Calls.mono (bof_any w (mC2 p q k c) 1 4 (fun x => BGr x [1, 3, 4] [1, 1, 0] bes2) (fun W kW => prepare_any W (mC2 p q k c) 1 4 (fun p => (∃ σ, p.ins = bins2 σ) ∧ p.caps = 0 ∧ p.runes = false) _ (hm.keep kW) rfl (fun V kV => ?_) (fun V pg hpg hpp => ?_) (fun x hx => gd2 hx (gv2 hx)))) ?_
 ·refine Calls.mono (compileP_any (mC2 p q k c) V ((hm.keep kW).keep kV) (agC2 p q k c) (by kernel_rfl) (by show (4 : Nat) ≤ 256; decide) (by show (3 : Nat) ≤ 24; decide) (by show (6 : Nat) ≤ 1000000; decide) (by show (4 : Nat) ≤ 8000; decide)) ?_
  rintro e V' ⟨pg, rfl, h1, h2, h3, h4, h5⟩
  exact ⟨h5, pg, rfl, h1, comp2 h4, h2, h3⟩
 ·obtain ⟨ia, ic, ins, caps, runes⟩ := pg
  obtain ⟨⟨σ, h1⟩, h2, h3⟩ := hpp
  simp only at h1 h2 h3
  subst h1 h2 h3
  exact Calls.mono (Of_any _ _ _ _ _ _ V hpg (bpre2 ia ic σ)) (fun e V' h => bgr2 h)
 ·rintro e w' ⟨x, ps, cb, hx, hr, rfl, hs, hk⟩
  obtain ⟨a0, c0, a1, c1, a2, c2, rfl⟩ := gd2_ps (by rw [(gd2_of hx).2.1] at hr; exact hr)
  have n1 : x.nodes.length = 3 := by rw [hx.1]; rfl
  rw [gd2_rk hx, n1] at hs
  refine ⟨cb, 120, ?_, hs, hk⟩
  rw [gd2_qs hx, gd2_rk hx, gd2_fac hx, gd2_deg hx, n1]
theorem steps1 (a : Option Addr) (n c : Nat) (w : World) : Calls Tryz.prog 7 #[.agg #[.slice a n c, .int .i64 528, .int .i64 2], .int .i64 1] w fun e w' => e = .returned (.tuple #[.int .i64 2112, .int .i64 0]) ∧ Keeps [] w w' := by
 refine Calls.mono (bsteps_any a n c 528 2 1 w) ?_
 rintro e w' ⟨rfl, hk⟩
 rw [show stepsR 528 2 1 = (2112, 0) by decide +kernel]
 exact ⟨rfl, hk⟩
set_option linter.unusedSimpArgs false in
theorem blives_any (w : World) : Calls Tryz.prog 10 #[] w fun e w' => e = .returned (.bool true) ∧ Keeps [] w w' := by
 obtain ⟨Q, hQ⟩ : ∃ Q : Ending → World → Prop, Q = fun e w' => e = .returned (.bool true) ∧ Keeps [] w w' := ⟨_, rfl⟩
 rw [← hQ]
 have HQ := gI hQ
 obtain ⟨H, hH⟩ : ∃ H, H = w.heap.size := ⟨_, rfl⟩
 obtain ⟨V1, hV1⟩ : ∃ V, V = w.alloc (.cells #[.int .i64 97, .int .i64 97] 51) := ⟨_, rfl⟩
 have k1 : Keeps [] w V1 := by rw [hV1]; exact Keeps.a1 _ _
 have s1 : V1.heap.size = H + 1 := by rw [hV1]; simp [hH]
 have n1 : V1.heap[H]? = some (.cells #[.int .i64 97, .int .i64 97] 51 (0, 0)) := by rw [hV1, hH]; exact heap_alloc_new _ _
 obtain ⟨V2, hV2⟩ : ∃ V, V = V1.alloc (.cells #[.int .i64 1, .slice (some ⟨H, 0, none⟩) 1 1, .slice none 0 0, .int .i64 0, .int .i64 0, .int .i64 0, .int .i64 0, .bool false] 55) := ⟨_, rfl⟩
 have k2 : Keeps [] V1 V2 := by rw [hV2]; exact Keeps.a1 _ _
 have s2 : V2.heap.size = H + 2 := by rw [hV2]; simp [s1]
 have n2 : V2.heap[H + 1]? = some (.cells #[.int .i64 1, .slice (some ⟨H, 0, none⟩) 1 1, .slice none 0 0, .int .i64 0, .int .i64 0, .int .i64 0, .int .i64 0, .bool false] 55 (0, 0)) := by rw [hV2, ← s1]; exact heap_alloc_new _ _
 obtain ⟨V3, hV3⟩ : ∃ V, V = V2.alloc (.cells #[.int .i64 98, .int .i64 98] 51) := ⟨_, rfl⟩
 have k3 : Keeps [] V2 V3 := by rw [hV3]; exact Keeps.a1 _ _
 have s3 : V3.heap.size = H + 3 := by rw [hV3]; simp [s2]
 have n3 : V3.heap[H + 2]? = some (.cells #[.int .i64 98, .int .i64 98] 51 (0, 0)) := by rw [hV3, ← s2]; exact heap_alloc_new _ _
 obtain ⟨V4, hV4⟩ : ∃ V, V = V3.alloc (.cells #[.int .i64 1, .slice (some ⟨H + 2, 0, none⟩) 1 1, .slice none 0 0, .int .i64 0, .int .i64 0, .int .i64 0, .int .i64 0, .bool false] 55) := ⟨_, rfl⟩
 have k4 : Keeps [] V3 V4 := by rw [hV4]; exact Keeps.a1 _ _
 have s4 : V4.heap.size = H + 4 := by rw [hV4]; simp [s3]
 have n4 : V4.heap[H + 3]? = some (.cells #[.int .i64 1, .slice (some ⟨H + 2, 0, none⟩) 1 1, .slice none 0 0, .int .i64 0, .int .i64 0, .int .i64 0, .int .i64 0, .bool false] 55 (0, 0)) := by rw [hV4, ← s3]; exact heap_alloc_new _ _
 obtain ⟨V5, hV5⟩ : ∃ V, V = V4.alloc (.cells #[.int .i64 1, .slice (some ⟨H, 0, none⟩) 1 1, .slice none 0 0, .int .i64 0, .int .i64 0, .int .i64 0, .int .i64 0, .bool false] 55) := ⟨_, rfl⟩
 have k5 : Keeps [] V4 V5 := by rw [hV5]; exact Keeps.a1 _ _
 have s5 : V5.heap.size = H + 5 := by rw [hV5]; simp [s4]
 have n5 : V5.heap[H + 4]? = some (.cells #[.int .i64 1, .slice (some ⟨H, 0, none⟩) 1 1, .slice none 0 0, .int .i64 0, .int .i64 0, .int .i64 0, .int .i64 0, .bool false] 55 (0, 0)) := by rw [hV5, ← s4]; exact heap_alloc_new _ _
 obtain ⟨V6, hV6⟩ : ∃ V, V = V5.alloc (.cells #[.int .i64 4, .slice none 0 0, .slice (some ⟨H + 4, 0, none⟩) 1 1, .int .i64 0, .int .i64 (-1), .int .i64 0, .int .i64 0, .bool false] 55) := ⟨_, rfl⟩
 have k6 : Keeps [] V5 V6 := by rw [hV6]; exact Keeps.a1 _ _
 have s6 : V6.heap.size = H + 6 := by rw [hV6]; simp [s5]
 have n6 : V6.heap[H + 5]? = some (.cells #[.int .i64 4, .slice none 0 0, .slice (some ⟨H + 4, 0, none⟩) 1 1, .int .i64 0, .int .i64 (-1), .int .i64 0, .int .i64 0, .bool false] 55 (0, 0)) := by rw [hV6, ← s5]; exact heap_alloc_new _ _
 obtain ⟨V7, hV7⟩ : ∃ V, V = V6.alloc (.cells #[.int .i64 4, .slice none 0 0, .slice (some ⟨H + 4, 0, none⟩) 1 1, .int .i64 0, .int .i64 (-1), .int .i64 0, .int .i64 0, .bool false, .int .i64 4, .slice none 0 0, .slice (some ⟨H + 4, 0, none⟩) 1 1, .int .i64 0, .int .i64 (-1), .int .i64 0, .int .i64 0, .bool false, .int .i64 1, .slice (some ⟨H + 2, 0, none⟩) 1 1, .slice none 0 0, .int .i64 0, .int .i64 0, .int .i64 0, .int .i64 0, .bool false] 55) := ⟨_, rfl⟩
 have k7 : Keeps [] V6 V7 := by rw [hV7]; exact Keeps.a1 _ _
 have s7 : V7.heap.size = H + 7 := by rw [hV7]; simp [s6]
 have n7 : V7.heap[H + 6]? = some (.cells #[.int .i64 4, .slice none 0 0, .slice (some ⟨H + 4, 0, none⟩) 1 1, .int .i64 0, .int .i64 (-1), .int .i64 0, .int .i64 0, .bool false, .int .i64 4, .slice none 0 0, .slice (some ⟨H + 4, 0, none⟩) 1 1, .int .i64 0, .int .i64 (-1), .int .i64 0, .int .i64 0, .bool false, .int .i64 1, .slice (some ⟨H + 2, 0, none⟩) 1 1, .slice none 0 0, .int .i64 0, .int .i64 0, .int .i64 0, .int .i64 0, .bool false] 55 (0, 0)) := by rw [hV7, ← s6]; exact heap_alloc_new _ _
 have k27 : Keeps [] V2 V7 := k3.trans (k4.trans (k5.trans (k6.trans k7)))
 have k17 : Keeps [] V1 V7 := k2.trans k27
 have HKV := gI (k1.trans k17)
 have HA := gI (k17.heap n1 (by simp))
 have HBb := gI ((k4.trans (k5.trans (k6.trans k7))).heap n3 (by simp))
 have HBX := gI ((k5.trans (k6.trans k7)).heap n4 (by simp))
 have HSK := gI ((k6.trans k7).heap n5 (by simp))
 have HSX := gI (k7.heap n6 (by simp))
 have HCK := gI n7
 have HOKA := gI (show ∀ W, Keeps [] V7 W → (mA (some ⟨H, 0, none⟩)).OK W from fun W k => .of (SpansIn.of_block (set := [(97, 97)]) (k.heap HA.out (by simp)) rfl (by simp [maxLen])) (KidsIn.nil _))
 have HOKB := gI (show ∀ W, Keeps [] V7 W → (mB (some ⟨H + 2, 0, none⟩)).OK W from fun W k => .of (SpansIn.of_block (set := [(98, 98)]) (k.heap HBb.out (by simp)) rfl (by simp [maxLen])) (KidsIn.nil _))
 have HOKS := gI (show ∀ W, Keeps [] V7 W → (mS (some ⟨H, 0, none⟩) (some ⟨H + 4, 0, none⟩)).OK W from fun W k => .of (SpansIn.nil _) ⟨NodesIn.of_block (kids := [mA (some ⟨H, 0, none⟩)]) (k.heap HSK.out (by simp)) rfl (by simp [maxLen]), fun x hx => by simp at hx; subst hx; exact HOKA.out W k⟩)
 have HOKC := gI (show (mC1 (some ⟨H, 0, none⟩) (some ⟨H + 2, 0, none⟩) (some ⟨H + 4, 0, none⟩) (some ⟨H + 6, 0, none⟩)).OK V7 from .of (SpansIn.nil _) ⟨NodesIn.of_block (kids := [mS (some ⟨H, 0, none⟩) (some ⟨H + 4, 0, none⟩), mS (some ⟨H, 0, none⟩) (some ⟨H + 4, 0, none⟩), mB (some ⟨H + 2, 0, none⟩)]) HCK.out rfl (by simp [maxLen]), fun x hx => by
  simp only [List.mem_cons, List.not_mem_nil, or_false] at hx
  rcases hx with rfl | rfl | rfl
  ·exact HOKS.out V7 (Keeps.refl _ _)
  ·exact HOKS.out V7 (Keeps.refl _ _)
  ·exact HOKB.out V7 (Keeps.refl _ _)⟩)
 have HC1 := gI (show Calls Tryz.prog 23 #[.agg #[.int .i64 2, .slice none 0 0, .slice (some ⟨H + 6, 0, none⟩) 3 3, .int .i64 0, .int .i64 0, .int .i64 0, .int .i64 0, .bool false, .int .i64 0, .bool false]] V7 _ from bof1 V7 (some ⟨H, 0, none⟩) (some ⟨H + 2, 0, none⟩) (some ⟨H + 4, 0, none⟩) (some ⟨H + 6, 0, none⟩) HOKC.out)
 have m1 := k2.heap n1 (by simp)
 have ca0 : V4.cell? ⟨H + 1, 0, none⟩ = some (.int .i64 1) := by simp [World.cell?, ((k3.trans k4).heap n2 (by simp))]
 have ca1 : V4.cell? ⟨H + 1, 1, none⟩ = some (.slice (some ⟨H, 0, none⟩) 1 1) := by simp [World.cell?, ((k3.trans k4).heap n2 (by simp))]
 have ca2 : V4.cell? ⟨H + 1, 2, none⟩ = some (.slice none 0 0) := by simp [World.cell?, ((k3.trans k4).heap n2 (by simp))]
 have ca3 : V4.cell? ⟨H + 1, 3, none⟩ = some (.int .i64 0) := by simp [World.cell?, ((k3.trans k4).heap n2 (by simp))]
 have ca4 : V4.cell? ⟨H + 1, 4, none⟩ = some (.int .i64 0) := by simp [World.cell?, ((k3.trans k4).heap n2 (by simp))]
 have ca5 : V4.cell? ⟨H + 1, 5, none⟩ = some (.int .i64 0) := by simp [World.cell?, ((k3.trans k4).heap n2 (by simp))]
 have ca6 : V4.cell? ⟨H + 1, 6, none⟩ = some (.int .i64 0) := by simp [World.cell?, ((k3.trans k4).heap n2 (by simp))]
 have ca7 : V4.cell? ⟨H + 1, 7, none⟩ = some (.bool false) := by simp [World.cell?, ((k3.trans k4).heap n2 (by simp))]
 have cs0 : V6.cell? ⟨H + 5, 0, none⟩ = some (.int .i64 4) := by simp [World.cell?, n6]
 have cs1 : V6.cell? ⟨H + 5, 1, none⟩ = some (.slice none 0 0) := by simp [World.cell?, n6]
 have cs2 : V6.cell? ⟨H + 5, 2, none⟩ = some (.slice (some ⟨H + 4, 0, none⟩) 1 1) := by simp [World.cell?, n6]
 have cs3 : V6.cell? ⟨H + 5, 3, none⟩ = some (.int .i64 0) := by simp [World.cell?, n6]
 have cs4 : V6.cell? ⟨H + 5, 4, none⟩ = some (.int .i64 (-1)) := by simp [World.cell?, n6]
 have cs5 : V6.cell? ⟨H + 5, 5, none⟩ = some (.int .i64 0) := by simp [World.cell?, n6]
 have cs6 : V6.cell? ⟨H + 5, 6, none⟩ = some (.int .i64 0) := by simp [World.cell?, n6]
 have cs7 : V6.cell? ⟨H + 5, 7, none⟩ = some (.bool false) := by simp [World.cell?, n6]
 have cb0 : V6.cell? ⟨H + 3, 0, none⟩ = some (.int .i64 1) := by simp [World.cell?, ((k5.trans k6).heap n4 (by simp))]
 have cb1 : V6.cell? ⟨H + 3, 1, none⟩ = some (.slice (some ⟨H + 2, 0, none⟩) 1 1) := by simp [World.cell?, ((k5.trans k6).heap n4 (by simp))]
 have cb2 : V6.cell? ⟨H + 3, 2, none⟩ = some (.slice none 0 0) := by simp [World.cell?, ((k5.trans k6).heap n4 (by simp))]
 have cb3 : V6.cell? ⟨H + 3, 3, none⟩ = some (.int .i64 0) := by simp [World.cell?, ((k5.trans k6).heap n4 (by simp))]
 have cb4 : V6.cell? ⟨H + 3, 4, none⟩ = some (.int .i64 0) := by simp [World.cell?, ((k5.trans k6).heap n4 (by simp))]
 have cb5 : V6.cell? ⟨H + 3, 5, none⟩ = some (.int .i64 0) := by simp [World.cell?, ((k5.trans k6).heap n4 (by simp))]
 have cb6 : V6.cell? ⟨H + 3, 6, none⟩ = some (.int .i64 0) := by simp [World.cell?, ((k5.trans k6).heap n4 (by simp))]
 have cb7 : V6.cell? ⟨H + 3, 7, none⟩ = some (.bool false) := by simp [World.cell?, ((k5.trans k6).heap n4 (by simp))]
 have HV1 := gI hV1
 have HV2 := gI hV2
 have HV3 := gI hV3
 have HV4 := gI hV4
 have HV5 := gI hV5
 have HV6 := gI hV6
 have HV7 := gI hV7
 have HH := gI hH
 have HS1 := gI s1
 have HS2 := gI s2
 have HS3 := gI s3
 have HS4 := gI s4
 have HS5 := gI s5
 have HS6 := gI s6
 clear hQ hH hV1 hV2 hV3 hV4 hV5 hV6 hV7 k1 k2 k3 k4 k5 k6 k7 s1 s2 s3 s4 s5 s6 s7 n1 n2 n3 n4 n5 n6 n7 m1 k17 k27
 go_enter Tryz.func10, Tryz.ntmps10
 go_upto_region 2 with fail
 rw [← HH.out, ← HV1.out, ← HV2.out]
 go_upto_region 3 with fail
 try rw [HS2.out]
 rw [← HV3.out]
 try rw [HS3.out]
 rw [← HV4.out]
 go_upto_region 4 with fail
 rw [← HV5.out, HS4.out]
 simp only [Nat.add_assoc, Nat.reduceAdd]
 rw [← HV6.out]
 clear ca0 ca1 ca2 ca3 ca4 ca5 ca6 ca7
 go_wp2_with fail
 rw [HS6.out, ← HV7.out]
 with_reducible refine Calls.mono HC1.out ?_
 rintro e w8 ⟨c1, rfl, hs8, hk8⟩
 obtain ⟨C8, hC8⟩ : ∃ C, C = w8.heap.size := ⟨_, rfl⟩
 obtain ⟨Z8, hZ8⟩ : ∃ Z, Z = w8.alloc (.cells #[.slice (some ⟨c1, 0, none⟩) 4 4, .int .i64 528, .int .i64 2] 30) := ⟨_, rfl⟩
 have hkZ8 : Keeps [] w8 Z8 := by rw [hZ8]; exact Keeps.a1 _ _
 have hZ8H : Z8.heap[C8]? = some (.cells #[.slice (some ⟨c1, 0, none⟩) 4 4, .int .i64 528, .int .i64 2] 30 (0, 0)) := by rw [hZ8, hC8]; exact heap_alloc_new _ _
 have HZ8H := gI hZ8H
 have HS8 := gI (hs8.keep hkZ8 (by simp))
 have HK8 := gI (hk8.trans hkZ8)
 have z0 : Z8.cell? ⟨C8, 0, none⟩ = some (.slice (some ⟨c1, 0, none⟩) 4 4) := by simp [World.cell?, hZ8H]
 have z1 : Z8.cell? ⟨C8, 1, none⟩ = some (.int .i64 528) := by simp [World.cell?, hZ8H]
 have z2 : Z8.cell? ⟨C8, 2, none⟩ = some (.int .i64 2) := by simp [World.cell?, hZ8H]
 have HC2 := gI (steps1 (some ⟨c1, 0, none⟩) 4 4 Z8)
 have HZ8 := gI hZ8
 have HC8 := gI hC8
 clear hs8 hk8 hC8 hZ8 hkZ8 hZ8H cs0 cs1 cs2 cs3 cs4 cs5 cs6 cs7 cb0 cb1 cb2 cb3 cb4 cb5 cb6 cb7
 go_upto_region 5 with fail
 rw [← HZ8.out, ← HC8.out]
 go_wp2_with fail
 with_reducible refine Calls.mono HC2.out ?_
 rintro e w9 ⟨rfl, hk9⟩
 have HK9 := gI (HK8.out.trans hk9)
 have HK98 := gI hk9
 have ds0 : w9.cell? ⟨H + 5, 0, none⟩ = some (.int .i64 4) := by simp [World.cell?, HK9.out.heap HSX.out (by simp)]
 have ds1 : w9.cell? ⟨H + 5, 1, none⟩ = some (.slice none 0 0) := by simp [World.cell?, HK9.out.heap HSX.out (by simp)]
 have ds2 : w9.cell? ⟨H + 5, 2, none⟩ = some (.slice (some ⟨H + 4, 0, none⟩) 1 1) := by simp [World.cell?, HK9.out.heap HSX.out (by simp)]
 have ds3 : w9.cell? ⟨H + 5, 3, none⟩ = some (.int .i64 0) := by simp [World.cell?, HK9.out.heap HSX.out (by simp)]
 have ds4 : w9.cell? ⟨H + 5, 4, none⟩ = some (.int .i64 (-1)) := by simp [World.cell?, HK9.out.heap HSX.out (by simp)]
 have ds5 : w9.cell? ⟨H + 5, 5, none⟩ = some (.int .i64 0) := by simp [World.cell?, HK9.out.heap HSX.out (by simp)]
 have ds6 : w9.cell? ⟨H + 5, 6, none⟩ = some (.int .i64 0) := by simp [World.cell?, HK9.out.heap HSX.out (by simp)]
 have ds7 : w9.cell? ⟨H + 5, 7, none⟩ = some (.bool false) := by simp [World.cell?, HK9.out.heap HSX.out (by simp)]
 have db0 : w9.cell? ⟨H + 3, 0, none⟩ = some (.int .i64 1) := by simp [World.cell?, HK9.out.heap HBX.out (by simp)]
 have db1 : w9.cell? ⟨H + 3, 1, none⟩ = some (.slice (some ⟨H + 2, 0, none⟩) 1 1) := by simp [World.cell?, HK9.out.heap HBX.out (by simp)]
 have db2 : w9.cell? ⟨H + 3, 2, none⟩ = some (.slice none 0 0) := by simp [World.cell?, HK9.out.heap HBX.out (by simp)]
 have db3 : w9.cell? ⟨H + 3, 3, none⟩ = some (.int .i64 0) := by simp [World.cell?, HK9.out.heap HBX.out (by simp)]
 have db4 : w9.cell? ⟨H + 3, 4, none⟩ = some (.int .i64 0) := by simp [World.cell?, HK9.out.heap HBX.out (by simp)]
 have db5 : w9.cell? ⟨H + 3, 5, none⟩ = some (.int .i64 0) := by simp [World.cell?, HK9.out.heap HBX.out (by simp)]
 have db6 : w9.cell? ⟨H + 3, 6, none⟩ = some (.int .i64 0) := by simp [World.cell?, HK9.out.heap HBX.out (by simp)]
 have db7 : w9.cell? ⟨H + 3, 7, none⟩ = some (.bool false) := by simp [World.cell?, HK9.out.heap HBX.out (by simp)]
 obtain ⟨D9, hD9⟩ : ∃ D, D = w9.heap.size := ⟨_, rfl⟩
 obtain ⟨Z9, hZ9⟩ : ∃ Z, Z = w9.alloc (.cells #[.int .i64 4, .slice none 0 0, .slice (some ⟨H + 4, 0, none⟩) 1 1, .int .i64 0, .int .i64 (-1), .int .i64 0, .int .i64 0, .bool false, .int .i64 1, .slice (some ⟨H + 2, 0, none⟩) 1 1, .slice none 0 0, .int .i64 0, .int .i64 0, .int .i64 0, .int .i64 0, .bool false] 55) := ⟨_, rfl⟩
 have hkZ9 : Keeps [] w9 Z9 := by rw [hZ9]; exact Keeps.a1 _ _
 have hZ9H : Z9.heap[D9]? = some (.cells #[.int .i64 4, .slice none 0 0, .slice (some ⟨H + 4, 0, none⟩) 1 1, .int .i64 0, .int .i64 (-1), .int .i64 0, .int .i64 0, .bool false, .int .i64 1, .slice (some ⟨H + 2, 0, none⟩) 1 1, .slice none 0 0, .int .i64 0, .int .i64 0, .int .i64 0, .int .i64 0, .bool false] 55 (0, 0)) := by rw [hZ9, hD9]; exact heap_alloc_new _ _
 have HK9Z := gI (HK9.out.trans hkZ9)
 have HOK2 := gI (show (mC2 (some ⟨H, 0, none⟩) (some ⟨H + 2, 0, none⟩) (some ⟨H + 4, 0, none⟩) (some ⟨D9, 0, none⟩)).OK Z9 from .of (SpansIn.nil _) ⟨NodesIn.of_block (kids := [mS (some ⟨H, 0, none⟩) (some ⟨H + 4, 0, none⟩), mB (some ⟨H + 2, 0, none⟩)]) hZ9H rfl (by simp [maxLen]), fun x hx => by
  simp only [List.mem_cons, List.not_mem_nil, or_false] at hx
  rcases hx with rfl | rfl
  ·exact HOKS.out Z9 HK9Z.out
  ·exact HOKB.out Z9 HK9Z.out⟩)
 have HC3 := gI (show Calls Tryz.prog 23 #[.agg #[.int .i64 2, .slice none 0 0, .slice (some ⟨D9, 0, none⟩) 2 2, .int .i64 0, .int .i64 0, .int .i64 0, .int .i64 0, .bool false, .int .i64 0, .bool false]] Z9 _ from bof2 Z9 (some ⟨H, 0, none⟩) (some ⟨H + 2, 0, none⟩) (some ⟨H + 4, 0, none⟩) (some ⟨D9, 0, none⟩) HOK2.out)
 have HKZ9 := gI hkZ9
 have HZ9 := gI hZ9
 have HD9 := gI hD9
 clear hk9 hD9 hZ9 hkZ9 hZ9H z0 z1 z2
 go_wp2_with fail
 rw [← HZ9.out, ← HD9.out]
 with_reducible refine Calls.mono HC3.out ?_
 rintro e w10 ⟨c2, f2, rfl, hs10, hk10⟩
 obtain ⟨C10, hC10⟩ : ∃ C, C = w10.heap.size := ⟨_, rfl⟩
 obtain ⟨Z10, hZ10⟩ : ∃ Z, Z = w10.alloc (.cells #[.slice (some ⟨c2, 0, none⟩) 3 3, .int .i64 f2, .int .i64 1] 30) := ⟨_, rfl⟩
 have hkZ10 : Keeps [] w10 Z10 := by rw [hZ10]; exact Keeps.a1 _ _
 have hZ10H : Z10.heap[C10]? = some (.cells #[.slice (some ⟨c2, 0, none⟩) 3 3, .int .i64 f2, .int .i64 1] 30 (0, 0)) := by rw [hZ10, hC10]; exact heap_alloc_new _ _
 have HZ10H := gI hZ10H
 have HS10 := gI (hs10.keep hkZ10 (by simp))
 have hk810 : Keeps [] Z8 Z10 := HK98.out.trans (HKZ9.out.trans (hk10.trans hkZ10))
 have HK10 := gI (HK8.out.trans hk810)
 have HS81 := gI (HS8.out.keep hk810 (by simp))
 have HZ8H1 := gI (hk810.heap HZ8H.out (by simp))
 have HZ10 := gI hZ10
 have HC10 := gI hC10
 clear hs10 hk10 hC10 hZ10 hkZ10 hZ10H hk810 ds0 ds1 ds2 ds3 ds4 ds5 ds6 ds7 db0 db1 db2 db3 db4 db5 db6 db7
 obtain ⟨X11, hX11⟩ : ∃ X, X = Z10.alloc (.cells #[.int .i64 0, .int .i64 1, .int .i64 1, .int .i64 1] 3) := ⟨_, rfl⟩
 have hk11 : Keeps [] Z10 X11 := by rw [hX11]; exact Keeps.a1 _ _
 have hi11 : IntsIn X11 (some ⟨Z10.heap.size, 0, none⟩) [0, 1, 1, 1] := by rw [hX11]; exact (Ints.alloc 3 Z10 [0, 1, 1, 1]).to_in
 have hq11 : IntsIn X11 (some ⟨c1, 0, none⟩) [0, 1, 1, 1] := (show SliceAt X11 3 1 (some c1) 4 4 ([0, 1, 1, 1].map (Value.int .i64)) from HS81.out.keep hk11 (by simp)).to_in
 have h4 := same_any (some ⟨c1, 0, none⟩) (some ⟨Z10.heap.size, 0, none⟩) 4 4 [0, 1, 1, 1] [0, 1, 1, 1] X11 hq11 hi11 (by simp) (by simp)
 rw [show decide (([0, 1, 1, 1] : List Int) = [0, 1, 1, 1]) = true from rfl] at h4
 have HC4 := gI (show Calls Tryz.prog 18 #[.slice (some ⟨c1, 0, none⟩) 4 4, .slice (some ⟨Z10.heap.size, 0, none⟩) 4 4] X11 _ from h4)
 have y0 : Z10.cell? ⟨C8, 0, none⟩ = some (.slice (some ⟨c1, 0, none⟩) 4 4) := by simp [World.cell?, HZ8H1.out]
 have HX11 := gI hX11
 have HK11 := gI hk11
 clear h4 hX11 hk11 hi11 hq11
 go_upto_region 7 with fail
 rw [← HZ10.out, ← HC10.out]
 go_wp2_with fail
 rw [← HX11.out]
 with_reducible refine Calls.mono HC4.out ?_
 rintro e w12 ⟨rfl, n12, hw12⟩
 have hk12 : Keeps [] Z10 w12 := by rw [hw12]; exact HK11.out.drewN _
 have y1 : w12.cell? ⟨C8, 1, none⟩ = some (.int .i64 528) := by simp [World.cell?, hk12.heap HZ8H1.out (by simp)]
 have y2 : w12.cell? ⟨C8, 2, none⟩ = some (.int .i64 2) := by simp [World.cell?, hk12.heap HZ8H1.out (by simp)]
 have x0 : w12.cell? ⟨C10, 0, none⟩ = some (.slice (some ⟨c2, 0, none⟩) 3 3) := by simp [World.cell?, hk12.heap HZ10H.out (by simp)]
 have x2 : w12.cell? ⟨C10, 2, none⟩ = some (.int .i64 1) := by simp [World.cell?, hk12.heap HZ10H.out (by simp)]
 obtain ⟨X13, hX13⟩ : ∃ X, X = w12.alloc (.cells #[.int .i64 0, .int .i64 0, .int .i64 0] 3) := ⟨_, rfl⟩
 have hk13 : Keeps [] w12 X13 := by rw [hX13]; exact Keeps.a1 _ _
 have hi13 : IntsIn X13 (some ⟨w12.heap.size, 0, none⟩) [0, 0, 0] := by rw [hX13]; exact (Ints.alloc 3 w12 [0, 0, 0]).to_in
 have hq13 : IntsIn X13 (some ⟨c2, 0, none⟩) [0, 0, 0] := (show SliceAt X13 3 1 (some c2) 3 3 ([0, 0, 0].map (Value.int .i64)) from (HS10.out.keep hk12 (by simp)).keep hk13 (by simp)).to_in
 have h5 := same_any (some ⟨c2, 0, none⟩) (some ⟨w12.heap.size, 0, none⟩) 3 3 [0, 0, 0] [0, 0, 0] X13 hq13 hi13 (by simp) (by simp)
 rw [show decide (([0, 0, 0] : List Int) = [0, 0, 0]) = true from rfl] at h5
 have HC5 := gI (show Calls Tryz.prog 18 #[.slice (some ⟨c2, 0, none⟩) 3 3, .slice (some ⟨w12.heap.size, 0, none⟩) 3 3] X13 _ from h5)
 have HX13 := gI hX13
 have HKF := gI ((HKV.out.trans HK10.out).trans (hk12.trans hk13))
 clear h5 hk12 hw12 hX13 hk13 hi13 hq13 y0
 go_wp2_with fail
 rw [← HX13.out]
 with_reducible refine Calls.mono HC5.out ?_
 rintro e w14 ⟨rfl, n14, hw14⟩
 have HK14 := gI (show Keeps [] w w14 by rw [hw14]; exact HKF.out.drewN _)
 clear hw14 y1 y2 x0 x2
 go_wp2
 rw [HQ.out]
 exact ⟨rfl, HK14.out⟩
theorem addr_add2 (b off j : Nat) : (⟨b, off, none⟩ : Addr).add j = ⟨b, off + j, none⟩ := by unfold Addr.add; split <;> simp_all
theorem IntsIn.take2 {w : World} {a : Option Addr} {xs : List Int} (h : IntsIn w a xs) (m : Nat) : IntsIn w a (xs.take m) := fun h0 => by
 have h1 : 0 < xs.length := by rw [List.length_take] at h0; omega
 obtain ⟨b, off, h2, h3⟩ := h h1
 refine ⟨b, off, h2, fun j hj => ?_⟩
 rw [List.length_take] at hj
 rw [h3 j (by omega)]
 have e1 : j < m := by omega
 simp [List.getD_eq_getElem?_getD, e1]
theorem ints2_any (ao : Option Addr) (c most : Nat) (xs : List Int) (w : World) (hx : IntsIn w ao xs) (hm : most ≤ 1000) (hl : xs.length ≤ 9223372036854775807) (hc : xs.length ≤ c) :
  Calls Tryz.prog 6 #[.slice ao xs.length c, .int .i64 most] w fun e w' =>
   ∃ (a' : Option Nat) (c' : Nat), e = .returned (sv a' (xs.take most).length c') ∧ SliceAt w' 3 1 a' (xs.take most).length c' ((xs.take most).map (Value.int .i64)) ∧ Keeps [] w w' ∧ (∀ z, a' = some z → w.heap.size ≤ z) := by
 obtain ⟨i0, hi, hz0, hz1, hz2⟩ := infoParts infoInt
 have Hi := gI hi
 have Hz0 := gI hz0
 have Hz1 := gI hz1
 have Hz2 := gI hz2
 have HX := gI (hx.take2 most)
 clear hi hz0 hz1 hz2 hx
 obtain ⟨ys, hys⟩ : ∃ ys, ys = xs.take most := ⟨_, rfl⟩
 rw [← hys] at HX ⊢
 have hyl : ys.length = min most xs.length := by rw [hys, List.length_take]
 clear hys
 have hfin : ∀ (g c' : Nat) (w2 : World), SliceAt w2 3 1 (some g) ys.length c' (ys.map (Value.int .i64)) → Keeps [] w w2 → w.heap.size ≤ g → (∃ (a' : Option Nat) (c'' : Nat), Ending.returned (.slice (some ⟨g, 0, none⟩) ys.length c') = .returned (sv a' ys.length c'') ∧ SliceAt w2 3 1 a' ys.length c'' (ys.map (Value.int .i64)) ∧ Keeps [] w w2 ∧ (∀ z, a' = some z → w.heap.size ≤ z)) := by
  intro g c' w2 h1 h2 h3
  exact ⟨some g, c', rfl, h1, h2, by intro z hz; simp at hz; subst hz; exact h3⟩
 have HF := gI hfin
 clear hfin
 by_cases h0 : ys.length = 0
 ·obtain rfl := List.eq_nil_of_length_eq_zero h0
  by_cases c1 : (most : Int) < (xs.length : Int)
  ·obtain rfl : most = 0 := by simp at hyl; omega
   clear hyl h0
   cases ao
   all_goals
    go_enter Tryz.func6, Tryz.ntmps6
    go_wp2
    go_ret
    exact ⟨none, 0, rfl, SliceAt.nil _ _ _, Keeps.refl _ _, by simp⟩
  ·have hx0 : xs.length = 0 := by simp at hyl; omega
   rw [hx0] at c1 ⊢
   clear hyl h0 hx0
   cases ao
   all_goals
    go_enter Tryz.func6, Tryz.ntmps6
    go_wp2
    go_ret
    exact ⟨none, 0, rfl, SliceAt.nil _ _ _, Keeps.refl _ _, by simp⟩
 ·obtain ⟨b, off, rfl, hcx⟩ := HX.out (by omega)
  have HC := gI hcx
  clear hcx
  have hnews : ∀ j u, (ys.map (Value.int .i64))[j]? = some u → w.cell? ((⟨b, off, none⟩ : Addr).add j) = some u := by
   intro j u hj
   have hj2 : j < ys.length := by
    have := (List.getElem?_eq_some_iff.1 hj).1
    simpa using this
   simp [hj2] at hj
   subst hj
   have := HC.out j hj2
   simp [hj2] at this
   rw [addr_add2]
   exact this
  have HN := gI hnews
  have HO := gI (show ∀ u ∈ ys.map (Value.int .i64), u.oneCell' = true from fun u hu => by simp at hu; obtain ⟨x, _, rfl⟩ := hu; rfl)
  clear hnews
  by_cases c1 : (most : Int) < (xs.length : Int)
  ·obtain rfl : most = ys.length := by omega
   clear hyl
   go_enter Tryz.func6, Tryz.ntmps6
   go_wp2_with (at_builtin; refine wpList_append_sl rfl (.tmp 6) (.tmp 12) 22 rfl 3 i0 _ 1 8 Tryz.underlying22 Hi.out Hz0.out Hz1.out Hz2.out rfl (by decide) none 0 0 [] rfl (SliceAt.nil _ _ _) ⟨b, off, none⟩ ys.length c (ys.map (Value.int .i64)) rfl (by simp) HN.out HO.out (by omega) (by omega) (by omega) ?hk)
   case hk =>
    intro g c' w2 hsl hk2 hg
    have hg2 : w.heap.size ≤ g := by simpa using hg
    have HE := gI (HF.out g c' w2 hsl hk2 hg2)
    clear hsl hk2 hg
    go_wp2
    go_ret
    exact HE.out
  ·have hx0 : xs.length = ys.length := by omega
   rw [hx0] at c1 hc ⊢
   clear hyl hx0
   go_enter Tryz.func6, Tryz.ntmps6
   go_wp2_with (at_builtin; refine wpList_append_sl rfl (.tmp 6) (.tmp 12) 22 rfl 3 i0 _ 1 8 Tryz.underlying22 Hi.out Hz0.out Hz1.out Hz2.out rfl (by decide) none 0 0 [] rfl (SliceAt.nil _ _ _) ⟨b, off, none⟩ ys.length c (ys.map (Value.int .i64)) rfl (by simp) HN.out HO.out (by omega) (by omega) (by omega) ?hk)
   case hk =>
    intro g c' w2 hsl hk2 hg
    have hg2 : w.heap.size ≤ g := by simpa using hg
    have HE := gI (HF.out g c' w2 hsl hk2 hg2)
    clear hsl hk2 hg
    go_wp2
    go_ret
    exact HE.out
end Go.Proofs.YtkekenaamnhbhaaGreat
