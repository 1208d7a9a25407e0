/- Part 20 of the proof. No condition: every lemma says its own. -/
import Derived.Test.YtkekenaamnhbhaaGreatZsas
namespace Go.Proofs.YtkekenaamnhbhaaGreat
open Go.RowKit Go.Sort Go.BigFrame
set_option maxRecDepth 100000
set_option maxHeartbeats 16000000
theorem wpList_mapIns {P : Program} {k e b n : Nat} {w : World} {g : Value → Option Value} {ops : Array Oper} {rest : List Oper} {o : Oper} {a : Act} {Q : Exit → Act → World → Prop} (hg : o.guard = none) (m x v : Operand) (t : TypeId) (hop : o.op = Op.insert t m x v)
  (K : Maps.Keyed P k) (ht : P.underlying t = some (.map k e)) (hm : a.eval m = .map (some b)) (h : MapAt w P k b n g) (hn : n < maxLen) (key val : Value) (hx : a.eval x = key) (hv : a.eval v = val) (hkey : IsKey P k key)
  (hK : ∀ w', MapAt w' P k b (n + 1) (fun u => @ite _ (u = key) (Classical.propDecidable _) (some val) (g u)) → Keeps [b] w w' → wpList P ops Q rest (a.put o.dst undef) w') : wpList P ops Q (o :: rest) a w := by
 refine wpList_plain hg fun K' hK' => ?_
 obtain ⟨w', hrun, r1, r2⟩ := h.put K ht hn val hkey
 unfold Oper.wp
 simp [execOp, hop, hm, hx, hv, hrun, Result.andThen]
 exact hK' _ _ (hK w' r1 r2)
theorem search_ok : SearchOK := by
 intro W0 OKs dom nf ncap wf wcap succ s0 goal pre
 have PRE := gI pre
 obtain ⟨Q, hQ⟩ : ∃ Q, Q = SearchPost W0 succ s0 goal := ⟨_, rfl⟩
 rw [← hQ]
 have HQ := gI hQ
 obtain ⟨x, y, z⟩ := s0
 clear pre hQ
 simp only [triv]
 obtain ⟨B, hB⟩ : ∃ B, B = W0.heap.size := ⟨_, rfl⟩
 obtain ⟨X, hX⟩ : ∃ X, X = W0.alloc (.cells #[.int .i64 x, .int .i64 y, .int .i64 z] 175) := ⟨_, rfl⟩
 have hb : X.heap[B]? = some (.cells #[.int .i64 x, .int .i64 y, .int .i64 z] 175 (0, 0)) := by rw [hX, hB]; exact heap_alloc_new W0 _
 have b0 : X.cell? ⟨B, 0, none⟩ = some (.int .i64 x) := by simp [World.cell?, hb]
 have b1 : X.cell? ⟨B, 1, none⟩ = some (.int .i64 y) := by simp [World.cell?, hb]
 have b2 : X.cell? ⟨B, 2, none⟩ = some (.int .i64 z) := by simp [World.cell?, hb]
 have HX := gI hX
 have HB := gI hB
 have HMM : ∀ W : World, (Instr.makeMap 191 none).run Tryz.prog W = .ok (.map (some W.heap.size)) (W.alloc (.map #[] 0)) := fun W => run_makeMap _ W
 clear hX hb hB
 go_enter Tryz.func102, Tryz.ntmps102
 go_upto_region 1 with fail
 rw [← HX.out, ← HB.out]
 go_upto_region 2 with fail
 obtain ⟨S1, hS1⟩ : ∃ n, n = X.heap.size := ⟨_, rfl⟩
 obtain ⟨V, hV⟩ : ∃ V, V = (X.alloc (.cells #[.int .i64 x, .int .i64 y, .int .i64 z] 175)).alloc (.cells #[.slice (some ⟨S1, 0, none⟩) 1 1, .int .i64 (-1), .int .i64 0] 189) := ⟨_, rfl⟩
 have hkV : Keeps [] X V := by rw [hV]; exact ((Keeps.refl [] X).alloc _).alloc _
 have g0 : V.heap[S1]? = some (.cells #[.int .i64 x, .int .i64 y, .int .i64 z] 175 (0, 0)) := by rw [hV, hS1]; exact (Keeps.a1 _ _).heap (heap_alloc_new X _) (by simp)
 have g1 : V.heap[S1 + 1]? = some (.cells #[.slice (some ⟨S1, 0, none⟩) 1 1, .int .i64 (-1), .int .i64 0] 189 (0, 0)) := by rw [hV, hS1]; exact heap_alloc2_new X _ _
 have b0 := hkV.cell b0 (by simp)
 have b1 := hkV.cell b1 (by simp)
 have b2 := hkV.cell b2 (by simp)
 rw [← hS1, ← hV]
 have hVs : V.heap.size = S1 + 2 := by rw [hV, hS1]; simp
 have b0' := (Keeps.a1 V (.map #[] 0)).cell b0 (by simp)
 have b1' := (Keeps.a1 V (.map #[] 0)).cell b1 (by simp)
 have b2' := (Keeps.a1 V (.map #[] 0)).cell b2 (by simp)
 have HVK := gI hkV
 have HVS := gI hVs
 have HG0 := gI g0
 have HG1 := gI g1
 have HS1 := gI hS1
 have htok := gI (PRE.out.ok _ PRE.out.start).1
 clear hV hkV hVs g0 g1 hS1
 go_wp2_with (refine wpList_mapIns rfl (.tmp 24) (.tmp 25) (.const (.bool true)) 191 rfl triKeyed Tryz.underlying191 rfl (MapAt.made V Tryz.prog 175) (by unfold maxLen; omega) (triv (x, y, z)) (.bool true) rfl rfl (key3 htok.out) ?_)
 intro w1 hm1 hk1
 have hk01 : Keeps [] V w1 := (Keeps.a1 V (.map #[] 0)).after hk1 (by intro q hq; simp at hq; subst hq; exact .inr (Nat.le_refl _))
 have b0 := hk01.cell b0 (by simp)
 have b1 := hk01.cell b1 (by simp)
 have b2 := hk01.cell b2 (by simp)
 have HM1 := gI hm1
 have HK01 := gI hk01
 clear hm1 hk1 hk01 b0' b1' b2'
 obtain ⟨fb, hfb⟩ : ∃ n, n = V.heap.size := ⟨_, rfl⟩
 obtain ⟨p9, hp9⟩ : ∃ n, n = w1.heap.size := ⟨_, rfl⟩
 have HFB := gI hfb
 have HP9 := gI hp9
 have HST := gI (show SInv W0 OKs dom succ (x, y, z) goal p9 fb (S1 + 1) 1 0 [⟨⟨[(x, y, z)], -1, 0, []⟩, some S1, 1⟩] (w1.alloc (.cells #[.map (some fb)] 191)) from by
  have kA := Keeps.a1 w1 (.cells #[.map (some fb)] 191)
  have kB := HK01.out.trans kA
  have h9 := heap_alloc_new w1 (.cells #[.map (some fb)] 191)
  rw [← hp9] at h9
  have hm := HM1.out
  rw [← hfb] at hm
  have s1 := HVS.out
  have s2 := HS1.out
  have s3 := HK01.out.size
  have s4 := HX.out
  have s5 : X.heap.size = W0.heap.size + 1 := by rw [s4]; simp
  have s6 := HM1.out.lt
  refine SInv.start PRE.out.start (PRE.out.ok _ PRE.out.start).2 PRE.out.ne (((by rw [s4]; exact Keeps.a1 _ _ : Keeps [] W0 X).trans HVK.out).trans kB) (kB.heap HG1.out (by simp)) (kB.heap HG0.out (by simp)) (by simp [World.cell?, h9]) (hm.keep kA (by simp)) (fun v => rfl) ?_ ?_
  ·simp
   omega
  ·intro q hq
   simp at hq
   rcases hq with rfl | rfl | rfl | rfl <;> omega)
 clear hfb hp9
 go_wp2
 rw [← HFB.out, ← HP9.out]
 go_loopw [8, 10] (fun v i wr => ∃ (gn gc k : Nat) (l : List GB), v = .slice (some ⟨gn, 0, none⟩) l.length gc ∧ i = .int .i64 k ∧ SInv W0 OKs dom succ (x, y, z) goal p9 fb gn gc k l wr) (fun _ i _ => dom.length - (intOf i).toNat)
 case atStart => exact ⟨S1 + 1, 1, 0, _, rfl, rfl, HST.out⟩
 case round =>
  obtain ⟨gn, gc, k, l, rfl, rfl, hinv⟩ := hrel
  obtain ⟨wR, hwR⟩ : ∃ wR : World, wR = wr := ⟨_, rfl⟩
  subst hwR
  by_cases hk : k < l.length
  ·have hn := l[k].g.sts.length
   have HLEN := gI (Nat.le_trans (hinv.len (fun t ht => (PRE.out.ok t ht).2)) PRE.out.len)
   obtain ⟨gb0, gb1, gb2⟩ := flatG_get l k hk
   have hfl := flatG_length l
   have hc0 := hinv.grp.row.cell (k * 3) (by omega)
   rw [List.getElem?_eq_getElem (by omega)] at gb0
   rw [Option.some.inj gb0] at hc0
   obtain ⟨ts0, hts0⟩ : ∃ ts0, ts0 = l[k].g.sts := ⟨_, rfl⟩
   obtain ⟨sa, hsa⟩ : ∃ sa, sa = l[k].a := ⟨_, rfl⟩
   obtain ⟨sc, hsc⟩ : ∃ sc, sc = l[k].c := ⟨_, rfl⟩
   rw [← hts0, ← hsa, ← hsc] at hc0
   have HSL := gI (show SliceAt wR 175 3 sa ts0.length sc (triF ts0) by rw [hts0, hsa, hsc]; exact hinv.grp.sts _ (List.getElem_mem hk))
   have HSA := gI (show ∀ x ∈ sa.toList, x ∈ gblocks l by intro x hx; rw [hsa] at hx; exact mem_gblocks.2 ⟨_, List.getElem_mem hk, by simpa using hx⟩)
   have HTS := gI (show ∀ t, t ∈ ts0 ↔ t ∈ sts (l.map GB.g) k by intro t; rw [hts0, sts_map hk])
   have HTL := gI (show ts0.length ≤ 1000000 by
    have hs : ts0.Sublist (gsts l) := by rw [hts0]; exact List.sublist_flatten_of_mem (List.mem_map.2 ⟨_, List.getElem_mem hk, rfl⟩)
    exact Nat.le_trans (nodup_le (hinv.nd.sublist hs) fun t ht => (PRE.out.ok t (hinv.ok t (hs.subset ht))).2) PRE.out.len)
   have HINV := gI hinv
   have HC0 := gI hc0
   obtain ⟨gF, hgF0, hgF1, hgF2⟩ := FMap.of hinv.fnd
   have HGF0 := gI hgF0
   have HGF1 := gI hgF1
   have HGF2 := gI hgF2
   obtain ⟨lb, hlb⟩ : ∃ n, n = wR.heap.size := ⟨_, rfl⟩
   obtain ⟨p11, hp11⟩ : ∃ n, n = wR.heap.size + 1 := ⟨_, rfl⟩
   obtain ⟨p12, hp12⟩ : ∃ n, n = wR.heap.size + 1 + 1 := ⟨_, rfl⟩
   obtain ⟨X0, hX0⟩ : ∃ X0, X0 = ((wR.alloc (.map #[] 0)).alloc (.cells #[.map (some wR.heap.size)] 192)).alloc (.cells #[.slice none 0 0] 187) := ⟨_, rfl⟩
   have hkX0 : Keeps [] wR X0 := by rw [hX0]; exact ((Keeps.a1 wR _).alloc _).alloc _
   have HMM2 : ∀ W : World, (Instr.makeMap 192 none).run Tryz.prog W = .ok (.map (some W.heap.size)) (W.alloc (.map #[] 0)) := fun W => run_makeMap _ W
   have hc0 : X0.cell? ⟨gn, k * 3, none⟩ = some (sv sa ts0.length sc) := hkX0.cell HC0.out (by simp)
   have HX0 := gI hX0
   have HLB := gI hlb
   have HP11 := gI hp11
   have HP12 := gI hp12
   have HKX0 := gI hkX0
   have hxl : X0.heap.size = wR.heap.size + 3 := by rw [hX0]; simp
   have hw9 := World.block_lt_of_cell? _ _ hinv.fnd.c9
   simp only at hw9
   have hwf := hgF0.lt
   have HW9 := gI hw9
   have HWF := gI hwf
   have HXL := gI hxl
   have HNJ := gI (show NJ W0 dom (fun t => t ∈ gsts l) p9 p11 p12 fb lb dom.length gF [] [p9, p11, p12, fb, lb] X0 from by
    have e11 : X0.heap[p11]? = some (.cells #[.map (some lb)] 192 (0, 0)) := by
     have h := heap_alloc2_new wR (.map #[] 0) (.cells #[.map (some wR.heap.size)] 192)
     rw [hX0, hp11, hlb]
     exact (Keeps.a1 _ _).heap h (by simp)
    have e12 : X0.heap[p12]? = some (.cells #[.slice none 0 0] 187 (0, 0)) := by
     have h := heap_alloc_new ((wR.alloc (.map #[] 0)).alloc (.cells #[.map (some wR.heap.size)] 192)) (.cells #[.slice none 0 0] 187)
     rw [show ((wR.alloc (.map #[] 0)).alloc (.cells #[.map (some wR.heap.size)] 192)).heap.size = p12 by rw [hp12]; simp, ← hX0] at h
     exact h
    have hlm : MapAt X0 Tryz.prog 175 lb 0 (fun _ => none) := by
     have h := MapAt.made wR Tryz.prog 175
     rw [← hlb] at h
     rw [hX0]
     exact h.keep ((Keeps.a1 _ _).alloc _) (by simp)
    have hge := hinv.ge
    have hws := hinv.kp.size
    have hap := hinv.ap
    refine ⟨none, 0, [], fun _ => none, rfl, hkX0.cell hinv.fnd.c9 (by simp), by simp [World.cell?, e11], e12, hgF0.keep hkX0 (by simp), hlm.mono (Nat.zero_le _), SliceAt.nil _ _ _, List.nodup_nil, fun t => ?_, fun t ht => ?_, fun v _ hv => ?_, fun _ _ _ => rfl, fun t ht => ?_, ⟨?_, ?_⟩, hinv.kp.trans hkX0⟩
    ·simp
    ·cases ht
    ·exact absurd rfl hv
    ·cases ht
    ·simp at hap ⊢
     omega
    ·intro q hq
     simp at hq
     omega)
   have HFT := gI hgF1
   clear hinv hfl gb0 gb1 gb2 hgF0 hgF1 hgF2 hX0 hlb hp11 hp12 hts0 hsa hsc hkX0 hxl hw9 hwf
   go_upto_region 8 with fail
   rw [← HX0.out, ← HP12.out, ← HP11.out, ← HLB.out]
   simp only [sv] at hc0
   go_wp2
   go_loopw [40] (fun v wA => ∃ (m : Nat) (ln : List (Int × Tri)) (U : List Nat), v = .int .i64 m ∧ m ≤ ts0.length ∧ NJ W0 dom (fun t => t ∈ gsts l) p9 p11 p12 fb lb dom.length gF ln U wA ∧ (∀ c t, (c, t) ∈ ln ↔ ∃ p ∈ ts0.take m, succ p c t) ∧ Keeps [p9, p11, p12, fb, lb] X0 wA ∧ ∀ x ∈ U, x ∈ [p9, p11, p12, fb, lb] ∨ X0.heap.size ≤ x) (fun v _ => ts0.length - (intOf v).toNat)
   case atStart => exact ⟨0, [], _, rfl, Nat.zero_le _, HNJ.out, by simp, Keeps.refl _ _, fun x hx => .inl hx⟩
   case round =>
    obtain ⟨m, ln, U, rfl, hm, hnj, hln, hkA, hU⟩ := hrel
    obtain ⟨wA, hwA⟩ : ∃ wA : World, wA = wr := ⟨_, rfl⟩
    subst hwA
    have HNJA := gI hnj
    have HLN := gI hln
    have HKA := gI hkA
    have HU := gI hU
    clear hnj hln hkA hU HNJ
    have htl := HTL.out
    by_cases hlt : m < ts0.length
    ·obtain ⟨sg, rfl⟩ := HSL.out.some_of (by omega)
     simp only [Option.map_some]
     have hsl : SliceAt wA 175 3 (some sg) ts0.length sc (triF ts0) := (HSL.out.keep HKX0.out (by simp)).keep HKA.out (by
      intro q hq
      simp only [Option.some.injEq] at hq
      subst hq
      have h1 := HSL.out.lt
      have h2 := HINV.out.ap
      have h3 := HSA.out sg (by simp)
      have h4 := HLB.out
      have h5 := HP11.out
      have h6 := HP12.out
      simp only [List.nodup_cons, List.mem_cons, not_or] at h2
      simp only [List.mem_cons, List.not_mem_nil, or_false, not_or]
      exact ⟨fun e => h2.1.2.2 (e ▸ h3), by omega, by omega, fun e => h2.2.1.2 (e ▸ h3), by omega⟩)
     obtain ⟨c0, c1, c2⟩ := hsl.tri m hlt
     have hmem : ts0.getD m z0 ∈ ts0 := getD_mem_tri hlt
     obtain ⟨⟨sx, sy, sz⟩, hs⟩ : ∃ s : Tri, s = ts0.getD m z0 := ⟨_, rfl⟩
     rw [← hs] at c0 c1 c2 hmem
     simp only at c0 c1 c2
     have HS := gI hs
     have HMEM := gI hmem
     obtain ⟨X1, hX1⟩ : ∃ X1, X1 = wA.alloc (.cells #[.int .i64 sx, .int .i64 sy, .int .i64 sz] 175) := ⟨_, rfl⟩
     have hkX1 : Keeps [] wA X1 := by rw [hX1]; exact Keeps.a1 _ _
     obtain ⟨p14, hp14⟩ : ∃ n, n = wA.heap.size := ⟨_, rfl⟩
     have HX1 := gI hX1
     have HKX1 := gI hkX1
     have HP14 := gI hp14
     have h14 : X1.heap[p14]? = some (.cells #[.int .i64 sx, .int .i64 sy, .int .i64 sz] 175 (0, 0)) := by rw [hX1, hp14]; exact heap_alloc_new wA _
     have d0 : X1.cell? ⟨p14, 0, none⟩ = some (.int .i64 sx) := by simp [World.cell?, h14]
     have d1 : X1.cell? ⟨p14, 1, none⟩ = some (.int .i64 sy) := by simp [World.cell?, h14]
     have d2 : X1.cell? ⟨p14, 2, none⟩ = some (.int .i64 sz) := by simp [World.cell?, h14]
     clear hsl hmem hs hX1 hkX1 hp14 h14
     have hen := PRE.out.enN
     unfold EntersA at hen
     go_upto_region 11 with fail
     rw [← HX1.out, ← HP14.out]
     go_wp2_with fail
     refine Calls.mono (PRE.out.next p9 p11 p12 (NJ W0 dom (fun t => t ∈ gsts l) p9 p11 p12 fb lb dom.length gF) (name_ok (F := fun t => t ∈ gsts l) HFT.out PRE.out.len PRE.out.ok) (sx, sy, sz) ln U X1 ?sok ?sj) ?_
     case sok => exact HINV.out.ok _ (by
      obtain ⟨b, hb, hu⟩ := mem_gsts.1 (show (sx, sy, sz) ∈ gsts l from by
       have h1 := (HTS.out _).1 HMEM.out
       rw [sts_map hk] at h1
       exact mem_gsts.2 ⟨_, List.getElem_mem hk, h1⟩)
      exact mem_gsts.2 ⟨b, hb, hu⟩)
     case sj => exact (name_ok (OKs := OKs) (F := fun t => t ∈ gsts l) HFT.out PRE.out.len PRE.out.ok).stab ln U wA X1 [] HNJA.out HKX1.out (by simp)
     rintro e w4 ⟨rfl, l4, U4, hj4, hu4, hk4, hl4⟩
     have HJ4 := gI hj4
     have HU4 := gI hu4
     have HK4 := gI hk4
     have HL4 := gI hl4
     clear hen hj4 hu4 hk4 hl4 c0 c1 c2 d0 d1 d2
     go_wp2
     go_roundw
     case rel =>
      have h1 := HXL.out
      have h2 := HKA.out.size
      have h3 : X1.heap.size = wA.heap.size + 1 := by rw [HX1.out]; simp
      refine ⟨m + 1, ln ++ l4, U4, by go_num, by omega, HJ4.out, fun c t => ?_, (HKA.out.trans (HKX1.out.mono (by simp))).after HK4.out (fun q hq => HU.out q hq), fun q hq => ?_⟩
      ·rw [List.mem_append, HLN.out, HL4.out, take_succ_getD hlt, ← HS.out]
       constructor
       ·rintro (⟨p, hp, hs⟩ | hs)
        ·exact ⟨p, by simp [hp], hs⟩
        ·exact ⟨_, by simp, hs⟩
       ·rintro ⟨p, hp, hs⟩
        rcases List.mem_append.1 hp with hp | hp
        ·exact .inl ⟨p, hp, hs⟩
        ·simp at hp
         subst hp
         exact .inr hs
      ·rcases HU4.out q hq with e | e
       ·exact HU.out q e
       ·exact .inr (by omega)
     case measure => simp [intOf]; omega
    ·obtain rfl : m = ts0.length := by omega
     rw [List.take_of_length_le (Nat.le_refl _)] at HLN
     obtain ⟨ga, c, ts, gL, hUe, hnj⟩ := HNJA.out
     have HASK := gI (show ∀ t ∈ ts, HasKey gL (fun t => - lstOf gL t) t from fun t ht => by
      obtain ⟨v, h1, _⟩ := hnj.at_ t ht
      refine ⟨?_, by show gL (triv t) = some (.int .i64 (- - lstOf gL t)); rw [lstOf_eq h1, Int.neg_neg]; exact h1⟩
      obtain ⟨_, e, he⟩ := (hnj.mem t).1 ht
      obtain ⟨p, hp, hs⟩ := (HLN.out e t).1 he
      exact (PRE.out.ok t (PRE.out.closed p e t (HINV.out.ok p (by
       have h2 := (HTS.out _).1 hp
       rw [sts_map hk] at h2
       exact mem_gsts.2 ⟨_, List.getElem_mem hk, h2⟩)) hs)).1)
     have htsl : ts.length ≤ 1000000 := Nat.le_trans (nodup_le hnj.nd hnj.dm) PRE.out.len
     have hnbd := hnj.nb.nd
     have HSORT := sort_sl ga p11 lb dom.length gL (fun t => - lstOf gL t) ts c wA ⟨hnj.c11, hnj.lm⟩ hnj.sl (fun g hg => by
      subst hg
      simp only [List.nodup_cons, List.mem_cons, not_or, Option.toList_some, List.not_mem_nil, or_false] at hnbd ⊢
      omega) HASK.out htsl
     unfold cmpV at HSORT
     have HSORT := gI HSORT
     have c12 : wA.cell? ⟨p12, 0, none⟩ = some (sv ga ts.length c) := by simp [World.cell?, hnj.c12]
     have HH := gI hnj
     have HUE := gI hUe
     have HTSL := gI htsl
     clear hnj hUe htsl hnbd
     go_wp2_with fail
     refine Calls.mono HSORT.out ?_
     rintro e wS ⟨rfl, ys, hs1, hs2, hs3, hs4⟩
     have hyl : ys.length = ts.length := hs2.length_eq
     have hnbd := HH.out.nb.nd
     simp only [List.nodup_cons, List.mem_cons, not_or] at hnbd
     have c12 : wS.cell? ⟨p12, 0, none⟩ = some (.slice (ga.map fun g => ⟨g, 0, none⟩) ts.length c) := hs4.cell c12 hnbd.2.2.1.2.2
     obtain ⟨N, hN⟩ : ∃ N, N = ts.length := ⟨_, rfl⟩
     rw [← hN] at c12 hyl
     have HYL := gI hyl
     have hNl : N ≤ 1000000 := by rw [hN]; exact HTSL.out
     obtain ⟨lst, hlst⟩ : ∃ lst, lst = lstOf gL := ⟨_, rfl⟩
     have HYS := gI (show YS OKs dom succ l k lst ys from by
      have hsuc : ∀ t ∈ ys, ∃ v, gL (triv t) = some (.int .i64 v) ∧ lst t = v ∧ (v, t) ∈ ln ∧ ∀ d, (d, t) ∈ ln → v ≤ d := fun t ht => by
       obtain ⟨v, h1, h2, h3⟩ := HH.out.at_ t (hs2.mem_iff.1 ht)
       exact ⟨v, h1, by rw [hlst]; exact lstOf_eq h1, h2, h3⟩
      have hstep : ∀ p ∈ sts (l.map GB.g) k, OKs p := fun p hp => HINV.out.ok p (by
       rw [sts_map hk] at hp
       exact mem_gsts.2 ⟨_, List.getElem_mem hk, hp⟩)
      refine ⟨hs2.nodup_iff.2 HH.out.nd, fun t ht => ((HH.out.mem t).1 (hs2.mem_iff.1 ht)).1, fun t ht => ?_, fun p q h1 h2 => ?_, fun t ht => ?_, fun t ht p hp d hd => ?_, fun p hp d u hu => ?_⟩
      ·obtain ⟨v, _, _, h3, _⟩ := hsuc t ht
       obtain ⟨p, hp, hs⟩ := (HLN.out v t).1 h3
       have hok := PRE.out.closed p v t (hstep p ((HTS.out p).1 hp)) hs
       exact ⟨hok, PRE.out.ok t hok⟩
      ·have := hs3 p q (Nat.zero_le _) h1 h2
       simp only [← hlst] at this
       omega
      ·obtain ⟨v, _, h2, h3, _⟩ := hsuc t ht
       obtain ⟨p, hp, hs⟩ := (HLN.out v t).1 h3
       exact ⟨p, (HTS.out p).1 hp, by rw [h2]; exact hs⟩
      ·obtain ⟨v, _, h2, _, h4⟩ := hsuc t ht
       rw [h2]
       exact h4 d ((HLN.out d t).2 ⟨p, (HTS.out p).2 hp, hd⟩)
      ·by_cases hg : u ∈ gsts l
       ·exact .inl hg
       ·exact .inr (hs2.mem_iff.2 ((HH.out.mem u).2 ⟨hg, d, (HLN.out d u).2 ⟨p, (HTS.out p).2 hp, hu⟩⟩)))
     have HLST := gI (show ∀ t ∈ ys, gL (triv t) = some (.int .i64 (lst t)) from fun t ht => by
      obtain ⟨v, h1, _⟩ := HH.out.at_ t (hs2.mem_iff.1 ht)
      rw [hlst, lstOf_eq h1]
      exact h1)
     have hap := HINV.out.ap
     simp only [List.nodup_cons, List.mem_cons, not_or] at hap
     have hgn : gn < wR.heap.size := HINV.out.grp.lt gn (by simp)
     have hgb : ∀ q ∈ gblocks l, q < wR.heap.size := fun q hq => HINV.out.grp.lt q (by simp [hq])
     have hga : ∀ q ∈ ga.toList, X0.heap.size ≤ q := fun q hq => by
      rcases HU.out q (by rw [HUE.out]; simp at hq ⊢; simp [hq]) with e | e
      ·exfalso
       simp only [List.mem_cons, List.not_mem_nil, or_false] at e
       rcases e with rfl | rfl | rfl | rfl | rfl
       ·exact hnbd.1.2.2.2.2 hq
       ·exact hnbd.2.1.2.2.2 hq
       ·exact hnbd.2.2.1.2.2 hq
       ·exact hnbd.2.2.2.1.2 hq
       ·exact hnbd.2.2.2.2.1 hq
      ·exact e
     have hAPT : ∀ q, q = p9 ∨ q = p11 ∨ q = p12 ∨ q = lb ∨ q ∈ ga.toList → q ∉ fb :: gn :: gblocks l := fun q hq hm => by
      have e1 := HP11.out
      have e2 := HP12.out
      have e3 := HLB.out
      have e4 := HXL.out
      have e5 := HWF.out
      simp only [List.mem_cons] at hm
      have hlt : q = fb ∨ q < wR.heap.size := by
       rcases hm with rfl | rfl | hm
       ·exact .inl rfl
       ·exact .inr hgn
       ·exact .inr (hgb q hm)
      have hlt' : q < wR.heap.size := by
       rcases hlt with rfl | e
       ·exact e5
       ·exact e
      rcases hq with rfl | rfl | rfl | rfl | hq
      ·rcases hm with e | e | e
       ·exact hap.1.1 e
       ·exact hap.1.2.1 e
       ·exact hap.1.2.2 e
      ·omega
      ·omega
      ·omega
      ·have := hga q hq; omega
     have hnX : ∀ q, q ∈ gn :: gblocks l → q ∉ [p9, p11, p12, fb, lb] ∧ q ∉ ga.toList := fun q hq => by
      have e1 := HP11.out
      have e2 := HP12.out
      have e3 := HLB.out
      have e4 := HXL.out
      have hlt : q < wR.heap.size := by
       rcases List.mem_cons.1 hq with rfl | hm
       ·exact hgn
       ·exact hgb q hm
      refine ⟨fun hm => ?_, fun hm => by have := hga q hm; omega⟩
      simp only [List.mem_cons, List.not_mem_nil, or_false] at hm
      rcases hm with rfl | rfl | rfl | rfl | rfl
      ·rcases List.mem_cons.1 hq with e | e
       ·exact hap.1.2.1 e
       ·exact hap.1.2.2 e
      ·omega
      ·omega
      ·rcases List.mem_cons.1 hq with e | e
       ·exact hap.2.1.1 e
       ·exact hap.2.1.2 e
      ·omega
     have hkXS : Keeps (p9 :: p11 :: p12 :: fb :: lb :: ga.toList) X0 wS := (HKA.out.mono (fun q hq => .inl (by simp at hq ⊢; omega))).trans (hs4.mono (fun q hq => .inl (by simp at hq ⊢; simp [hq])))
     have HKW := gI (show ∀ W, Keeps (fb :: gn :: gblocks l) wS W → W.cell? ⟨p9, 0, none⟩ = some (.map (some fb)) ∧ W.cell? ⟨p11, 0, none⟩ = some (.map (some lb)) ∧ W.cell? ⟨p12, 0, none⟩ = some (.slice (ga.map fun g => ⟨g, 0, none⟩) N c) ∧ MapAt W Tryz.prog 175 lb dom.length gL ∧ SliceAt W 175 3 ga ys.length c (triF ys) from fun W hk =>
      ⟨hk.cell (hs4.cell HH.out.c9 hnbd.1.2.2.2.2) (hAPT _ (.inl rfl)), hk.cell (hs4.cell HH.out.c11 hnbd.2.1.2.2.2) (hAPT _ (.inr (.inl rfl))), hk.cell c12 (hAPT _ (.inr (.inr (.inl rfl)))), (HH.out.lm.keep hs4 hnbd.2.2.2.2.1).keep hk (hAPT _ (.inr (.inr (.inr (.inl rfl))))), hs1.keep hk (fun g hg => hAPT g (.inr (.inr (.inr (.inr (by simp [hg]))))))⟩)
     have HGRP := gI (show GrpAt W0.heap.size wS (some gn) gc l from (HINV.out.grp.keep HKX0.out (by simp)).keep hkXS (fun q hq hm => by
      have h1 := hnX q (by simpa using hm)
      simp only [List.mem_cons] at hq h1
      simp only [List.not_mem_nil, or_false] at h1
      rcases hq with e | e | e | e | e | e
      ·exact h1.1 (by simp [e])
      ·exact h1.1 (by simp [e])
      ·exact h1.1 (by simp [e])
      ·exact h1.1 (by simp [e])
      ·exact h1.1 (by simp [e])
      ·exact h1.2 e))
     have HFM := gI (show FMap dom wS fb (fun t => t ∈ gsts l) from ⟨gF, (HH.out.fm.keep hs4 hnbd.2.2.2.1.2), HFT.out, HGF2.out⟩)
     have HKS := gI (show Keeps [] W0 wS from HH.out.kp.after hs4 (fun q hq => .inr (by
      have e4 := HXL.out
      have e6 := HINV.out.kp.size
      have := hga q hq
      omega)))
     have HWS := gI (show wR.heap.size ≤ wS.heap.size ∧ fb ∉ gn :: gblocks l ∧ fb < wS.heap.size ∧ p9 < wS.heap.size from by
      have e4 := HXL.out
      have e5 := HWF.out
      have e6 := hkXS.size
      have e7 := HW9.out
      exact ⟨by omega, by simp [hap.2.1.1, hap.2.1.2], by omega, by omega⟩)
     clear hs1 hs2 hs3 hs4 hlst hN hap hgn hgb hga hAPT hnX hkXS hnbd htl hm hlt
     go_wp2
     go_loopw [8, 54] (fun v8 v54 wB => ∃ (gn' gc' j : Nat) (l' : List GB), v8 = .slice (some ⟨gn', 0, none⟩) l'.length gc' ∧ v54 = .int .i64 j ∧ j ≤ N ∧ BI W0 wS dom l k fb gn lst ys j gn' gc' l' wB ∧ goal ∉ ys.take j) (fun _ v54 _ => N - (intOf v54).toNat)
     case atStart =>
      exact ⟨gn, gc, 0, l, rfl, rfl, Nat.zero_le _, BI.start HGRP.out HFM.out HINV.out.nd, by simp⟩
     case round =>
      obtain ⟨gn1, gc1, j, l1, rfl, rfl, hj, hbi, hgoal⟩ := hrel
      obtain ⟨wB, hwB⟩ : ∃ wB : World, wB = wr := ⟨_, rfl⟩
      subst hwB
      have HBI := gI hbi
      have HGO := gI hgoal
      clear hbi hgoal
      by_cases hjn : j < N
      ·have hjy : j < ys.length := by rw [HYL.out]; exact hjn
       obtain ⟨k9, k11, k12, klm, ksl⟩ := HKW.out wB HBI.out.kp
       obtain ⟨gb, rfl⟩ := ksl.some_of (by omega)
       simp only [Option.map_some] at k12 ⊢
       obtain ⟨c0, c1, c2⟩ := ksl.tri j hjy
       obtain ⟨⟨sx, sy, sz⟩, hs⟩ : ∃ s : Tri, s = ys.getD j z0 := ⟨_, rfl⟩
       rw [← hs] at c0 c1 c2
       simp only at c0 c1 c2
       have hsy : (sx, sy, sz) ∈ ys := by rw [hs]; exact getD_mem_tri hjy
       have HOK := gI (HYS.out.ok _ hsy)
       have HSY := gI hsy
       have HS := gI hs
       obtain ⟨X2, hX2⟩ : ∃ X2, X2 = wB.alloc (.cells #[.int .i64 sx, .int .i64 sy, .int .i64 sz] 175) := ⟨_, rfl⟩
       have hkX2 : Keeps [] wB X2 := by rw [hX2]; exact Keeps.a1 _ _
       obtain ⟨p16, hp16⟩ : ∃ n, n = wB.heap.size := ⟨_, rfl⟩
       have h16 : X2.heap[p16]? = some (.cells #[.int .i64 sx, .int .i64 sy, .int .i64 sz] 175 (0, 0)) := by rw [hX2, hp16]; exact heap_alloc_new wB _
       have d0 : X2.cell? ⟨p16, 0, none⟩ = some (.int .i64 sx) := by simp [World.cell?, h16]
       have d1 : X2.cell? ⟨p16, 1, none⟩ = some (.int .i64 sy) := by simp [World.cell?, h16]
       have d2 : X2.cell? ⟨p16, 2, none⟩ = some (.int .i64 sz) := by simp [World.cell?, h16]
       have k9 := hkX2.cell k9 (by simp)
       obtain ⟨gF2, f1, f2, f3⟩ := HBI.out.mp
       have f1 := f1.keep hkX2 (by simp)
       have hfbB := f1.lt
       have HX2 := gI hX2
       have HKX2 := gI hkX2
       have HP16 := gI hp16
       have H16 := gI h16
       have HF1 := gI f1
       have HF2 := gI f2
       have HF3 := gI f3
       have HPL := gI PRE.out.len
       have HNE := gI (show fb ≠ p16 ∧ fb ≠ p9 from by
        have h1 := HBI.out.kp.size
        have h2 := HWS.out.2.2.1
        have h3 := HINV.out.ap
        simp only [List.nodup_cons, List.mem_cons, not_or] at h3
        exact ⟨by rw [hp16]; omega, fun e => h3.1.1 e.symm⟩)
       clear ksl klm k11 hs hsy hX2 hkX2 hp16 h16 f1 f2 f3 hfbB
       go_upto_region 17 with fail
       rw [← HX2.out, ← HP16.out]
       go_wp2_with (at_mapUpdate; refine wpList_mapPut rfl _ _ _ 191 rfl 175 4 triKeyed Tryz.underlying191 fb dom.length gF2 rfl HF1.out (by have := HPL.out; unfold maxLen; omega) (key3 HOK.out.2.1) ?_)
       intro w5 hm5 hk5
       have hk25 : Keeps [fb] wB w5 := (HKX2.out.mono (by simp)).trans hk5
       have hK5 : Keeps (fb :: gn :: gblocks l) wS w5 := HBI.out.kp.trans (hk25.mono (fun q hq => .inl (by simp at hq; simp [hq])))
       have HFM5 := gI (FMap.put HF2.out HF3.out HOK.out.2.2 hm5)
       have hnfb : fb ∉ gn1 :: gblocks l1 := fun hm => by
        rcases HBI.out.frs fb hm with e | e
        ·exact HWS.out.2.1 e
        ·have := HWS.out.2.2.1; omega
       have HG5 := gI (HBI.out.grp.keep hk25 (fun q hq => by simp only [List.mem_singleton] at hq; subst hq; simpa using hnfb))
       have h16 := hk5.heap H16.out (by simpa using HNE.out.1.symm)
       have d0 : w5.cell? ⟨p16, 0, none⟩ = some (.int .i64 sx) := by simp [World.cell?, h16]
       have d1 : w5.cell? ⟨p16, 1, none⟩ = some (.int .i64 sy) := by simp [World.cell?, h16]
       have d2 : w5.cell? ⟨p16, 2, none⟩ = some (.int .i64 sz) := by simp [World.cell?, h16]
       obtain ⟨-, k11, k12, klm, ksl⟩ := HKW.out w5 hK5
       simp only [Option.map_some] at k12
       have HLO := gI (show ∀ (t : Tri), t ∈ ys → ∀ n, (Instr.lookup 192 (.map (some lb)) (triv t) false).run Tryz.prog (w5.drewN n) = .ok (.int .i64 (lst t)) (w5.drewN n) from fun t ht n => by
        have h := (klm.keep ((Keeps.refl [] w5).drewN n) (by simp)).look false triKeyed Tryz.underlying192 (z := .int .i64 0) (by kernel_rfl) (key3 (HYS.out.ok t ht).2.1)
        rw [HLST.out t ht] at h
        exact h)
       have hl0 := HLO.out _ HSY.out
       simp only [triv] at hl0
       obtain ⟨ms, hms⟩ : ∃ ms, ms = lst (sx, sy, sz) := ⟨_, rfl⟩
       rw [← hms] at hl0
       have HMS := gI hms
       have HK25 := gI hk25
       have HK5 := gI hK5
       have HH16 := gI h16
       have HKSL := gI ksl
       have HK12 := gI k12
       clear hk25 hK5 hnfb h16 hm5 hk5 klm ksl hms k9 c0 c1 c2
       go_upto_region 18 with fail
       go_cut [54, 75] from 54 to 128 (fun s54 s75 wx => s54 = .int .i64 j ∧ ∃ b : Bool, s75 = .bool b ∧ (b = true ↔ (j = 0 ∨ lst (ys.getD j z0) ≠ lst (ys.getD (j - 1) z0))) ∧ Keeps [] w5 wx)
       case first =>
        by_cases hj0 : j = 0
        ·subst hj0
         go_quiet (fail)
         go_wp2
         go_meet
         exact ⟨rfl, true, rfl, by simp, (Keeps.refl _ _).drewN _⟩
        ·obtain ⟨p, hp⟩ : ∃ p, p = j - 1 := ⟨_, rfl⟩
         have hpn : p < N := by omega
         have hpn2 : (p : Int) < (N : Int) := by omega
         have hp0 : (0 : Int) ≤ (p : Int) := by omega
         have hwr : IntKind.i64.wrap ((j : Int) - 1) = (p : Int) := by rw [IntWalk.i64_in _ (by omega)]; omega
         have hj1 : ((j : Int) == 0) = false := by simp; omega
         have hpy : p < ys.length := by rw [HYL.out]; exact hpn
         obtain ⟨q0, q1, q2⟩ := HKSL.out.tri p hpy
         obtain ⟨⟨px, py, pz⟩, hps⟩ : ∃ s : Tri, s = ys.getD p z0 := ⟨_, rfl⟩
         have hl1 := HLO.out (ys.getD p z0) (getD_mem_tri hpy)
         rw [← hps] at q0 q1 q2 hl1
         simp only [triv] at q0 q1 q2 hl1
         obtain ⟨mp, hmp⟩ : ∃ mp, mp = lst (px, py, pz) := ⟨_, rfl⟩
         rw [← hmp] at hl1
         have HEQ := gI (show (lst (ys.getD j z0) ≠ lst (ys.getD (j - 1) z0)) ↔ ms ≠ mp by rw [← hp, ← hps, ← HS.out, ← hmp, ← HMS.out])
         have HJ0 := gI hj0
         clear hps hmp hp hpy hj0
         by_cases hmm : ms = mp
         ·subst hmm
          go_quiet (fail)
          go_wp2
          go_meet
          exact ⟨rfl, false, rfl, by rw [HEQ.out]; simpa using HJ0.out, (Keeps.refl _ _).drewN _⟩
         ·have hmm2 : (ms != mp) = true := by simpa using hmm
          have HMM3 := gI hmm
          clear hmm
          go_quiet (fail)
          go_wp2
          go_meet
          exact ⟨rfl, true, rfl, by rw [HEQ.out]; simpa using .inr HMM3.out, (Keeps.refl _ _).drewN _⟩
       case rest =>
        obtain ⟨rfl, b, rfl, hb, hkc⟩ := hcut
        have d0 := hkc.cell d0 (by simp)
        have d1 := hkc.cell d1 (by simp)
        have d2 := hkc.cell d2 (by simp)
        have k11 := hkc.cell k11 (by simp)
        have HB1 := gI hb
        have HKC := gI hkc
        have HH16 := gI (hkc.heap HH16.out (by simp))
        have HFM6 := gI (HFM5.out.keep hkc (by simp))
        have HG6 := gI (HG5.out.keep hkc (by simp))
        have HK6 := gI (HK5.out.trans (hkc.mono (by simp)))
        have hl0 : (Instr.lookup 192 (.map (some lb)) (.agg #[.int .i64 sx, .int .i64 sy, .int .i64 sz]) false).run Tryz.prog wc = .ok (.int .i64 ms) wc := by
         obtain ⟨-, -, -, klm, -⟩ := HKW.out wc HK6.out
         have h := klm.look false triKeyed Tryz.underlying192 (z := .int .i64 0) (by kernel_rfl) (key3 (HYS.out.ok _ HSY.out).2.1)
         rw [HLST.out _ HSY.out, ← HMS.out] at h
         exact h
        have HL1 := gI (Nat.le_trans (HBI.out.len HYS.out HINV.out.ne (fun t ht => (PRE.out.ok t (HINV.out.ok t ht)).2)) PRE.out.len)
        clear hb hkc
        go_upto_if 75 with fail
        go_cut [8, 54] from 54 to 128 (fun s8 s54 wx => s54 = .int .i64 j ∧ ∃ (gn2 gc2 : Nat) (i : List GB) (b : GB), s8 = .slice (some ⟨gn2, 0, none⟩) (i.length + 1) gc2 ∧ BP W0 wS dom l k fb gn lst ys j gn2 gc2 i b wx ∧ wx.heap[p16]? = some (.cells #[.int .i64 sx, .int .i64 sy, .int .i64 sz] 175 (0, 0)) ∧ p16 ∉ gn2 :: gblocks (i ++ [b]))
        case first =>
         cases b with
         | false =>
          go_wp2
          go_meet
          have h16n : p16 ∉ gn1 :: gblocks l1 := fun hm => by
           have h1 := HBI.out.grp.lt p16 (by simpa using hm)
           have h2 := HP16.out
           omega
          have h1 : ¬ (j = 0 ∨ lst (ys.getD j z0) ≠ lst (ys.getD (j - 1) z0)) := fun h => by have := HB1.out.2 h; cases this
          obtain ⟨i, b, he, hbp⟩ := HBI.out.same HYS.out hk hjy (by omega) (by by_cases e : lst (ys.getD j z0) = lst (ys.getD (j - 1) z0); exact e; exact absurd (.inr e) h1) HK6.out HG6.out (by rw [← HS.out]; exact HFM6.out)
          exact ⟨rfl, gn1, gc1, i, b, by rw [he]; simp, hbp, HH16.out, by rw [← he]; exact h16n⟩
         | true =>
          obtain ⟨iG, hi0, hz0, hz1, hz2⟩ := infoParts infoGr
          have HI0 := gI hi0
          have HI1 := gI hz0
          have HI2 := gI hz1
          have HI3 := gI hz2
          clear hi0 hz0 hz1 hz2
          go_wp2_with (at_builtin; refine wpList_append_sl rfl (.tmp 76) (.tmp 82) 190 rfl 189 iG _ 3 40 Tryz.underlying190 HI0.out HI1.out HI2.out HI3.out rfl (by decide) (some gn1) l1.length gc1 (flatG l1) rfl (HG6.out.row.alloc _) ⟨wc.heap.size, 0, none⟩ 1 1 [.slice none 0 0, .int .i64 k, .int .i64 ms] rfl rfl (news_row' _ _ _ _ rfl) ?hone (by decide) (by have := HL1.out; omega) (by have := HL1.out; omega) ?hk)
          case hone => exact ⟨rfl, rfl, rfl⟩
          case hk =>
           intro g c2 w6 hs6 hk6 hg6
           have HA := gI (Keeps.a1 wc (.cells #[.slice none 0 0, .int .i64 k, .int .i64 ms] 189))
           have HS6 := gI hs6
           have HKK6 := gI hk6
           have HGG6 := gI hg6
           clear hs6 hk6 hg6
           go_wp2
           go_meet
           have hN := HKS.out.size
           have hN6 := HK6.out.size
           have hgn1 : gn1 ∈ fb :: gn :: gblocks l ∨ wS.heap.size ≤ gn1 := by
            rcases HBI.out.frs gn1 (by simp) with e | e
            ·exact .inl (by simp at e ⊢; exact .inr e)
            ·exact .inr e
           have hfg : fb ≠ gn1 := fun e => by
            rcases HBI.out.frs gn1 (by simp) with e' | e'
            ·exact HWS.out.2.1 (e ▸ e')
            ·have := HWS.out.2.2.1; omega
           have hp16g : p16 ≠ gn1 := fun e => by
            have h1 := HBI.out.grp.lt gn1 (by simp)
            have h2 := HP16.out
            omega
           have hpush := GrpAt.push (HG6.out.keep HA.out (by simp)) (b := ⟨⟨[], k, lst (ys.getD j z0), wd (l1.map GB.g) k ++ [lst (ys.getD j z0)]⟩, none, 0⟩) rfl rfl rfl (g := g) (c' := c2) (by
            have h := HS6.out
            rw [HMS.out, HS.out] at h
            exact h) HKK6.out (by
            rcases HGG6.out with e | e
            ·exact .inl (by rw [e])
            ·exact .inr (by simpa using e)) (by have := HA.out.size; omega)
           have hbp := HBI.out.push HYS.out hk hjy (by by_cases e : j = 0; exact .inl e; exact .inr ((HB1.out.1 trivial).resolve_left e)) (g := g) (c' := c2) (w' := w6) (((HK6.out.trans (HA.out.mono (by simp))).after HKK6.out (fun q hq => by simp at hq; subst hq; exact hgn1))) hpush (by
            rcases HGG6.out with e | e
            ·exact .inl e
            ·exact .inr (by omega)) (by
            rw [← HS.out]
            exact (HFM6.out.keep HA.out (by simp)).keep HKK6.out (by simpa using hfg))
           exact ⟨rfl, g, c2, l1, _, rfl, hbp, HKK6.out.heap (HA.out.heap HH16.out (by simp)) (by simpa using hp16g), fun hm => by
            rw [gblocks_append] at hm
            have h16l := lt_of_block HH16.out
            have h2 := HP16.out
            simp only [List.mem_cons, List.mem_append] at hm
            rcases hm with hm | hm | hm
            ·subst hm
             rcases HGG6.out with e | e
             ·exact hp16g e.symm
             ·omega
            ·have h1 := HBI.out.grp.lt p16 (by simp [hm])
             omega
            ·simp [gblocks] at hm⟩
        case rest =>
         obtain ⟨rfl, gn2, gc2, i, b, rfl, hbp, h16, hn16⟩ := hcut
         obtain ⟨w7, hw7⟩ : ∃ w7 : World, w7 = wc := ⟨_, rfl⟩
         subst hw7
         have HBP := gI hbp
         have hgl := hbp.grp.lt gn2 (by simp)
         obtain ⟨e0, -, -⟩ := flatG_get (i ++ [b]) i.length (by simp)
         have hfl := flatG_length (i ++ [b])
         have h0 := hbp.grp.row.cell (i.length * 3) (by rw [hfl]; simp)
         rw [List.getElem?_eq_getElem (by rw [hfl]; simp)] at e0
         rw [Option.some.inj e0] at h0
         simp only [List.getElem_append_right (Nat.le_refl _), Nat.sub_self, List.getElem_singleton, sv] at h0
         have hfz : ∀ o, w7.frozen? ⟨gn2, o, none⟩ = false := fun o => hbp.grp.row.fz o
         have hsts := hbp.grp.sts b (by simp)
         have hll := hbp.len HYS.out hjy HINV.out.ne (fun t ht => (PRE.out.ok t (HINV.out.ok t ht)).2)
         have hil : i.length + 1 ≤ 1000000 := Nat.le_trans hll.1 PRE.out.len
         have hbl : b.g.sts.length ≤ 1000000 := Nat.le_trans hll.2 PRE.out.len
         have hw1 : IntKind.i64.wrap ((i.length : Int) + 1 - 1) = (i.length : Int) := by rw [IntWalk.i64_in _ (by omega)]; omega
         have d0 : w7.cell? ⟨p16, 0, none⟩ = some (.int .i64 sx) := by simp [World.cell?, h16]
         have d1 : w7.cell? ⟨p16, 1, none⟩ = some (.int .i64 sy) := by simp [World.cell?, h16]
         have d2 : w7.cell? ⟨p16, 2, none⟩ = some (.int .i64 sz) := by simp [World.cell?, h16]
         have hnb : ∀ q ∈ b.a.toList, q ≠ gn2 ∧ q ≠ p16 := fun q hq => by
          have hqm : q ∈ gblocks (i ++ [b]) := mem_gblocks.2 ⟨b, by simp, by simpa using hq⟩
          have h1 := hbp.grp.nd
          simp only [Option.toList_some, List.singleton_append, List.nodup_cons] at h1
          exact ⟨fun e => h1.1 (e ▸ hqm), fun e => hn16 (by rw [← e]; simp [hqm])⟩
         have hn16 : p16 ≠ gn2 := fun e => hn16 (by simp [e])
         have HIL := gI hil
         have HBL := gI hbl
         have H0 := gI h0
         have HSTS := gI hsts
         have HNB := gI hnb
         have HN16 := gI hn16
         have HH16b := gI h16
         clear hbp e0 hfl hsts hbl h16 hnb hll
         obtain ⟨iT, hi0, hz0, hz1, hz2⟩ := infoParts infoT3
         have HI0 := gI hi0
         have HI1 := gI hz0
         have HI2 := gI hz1
         have HI3 := gI hz2
         have K1 := Keeps.a1 w7 (.cells #[.int .i64 sx, .int .i64 sy, .int .i64 sz] 175)
         have KA := gI K1
         clear hi0 hz0 hz1 hz2
         go_upto_region 21 with fail
         go_cut [54] from 54 to 128 (fun s54 wx => s54 = .int .i64 j ∧ ∃ st c' w8, wx = w8.setCell ⟨gn2, i.length * 3, none⟩ (sv (some st) (b.g.sts.length + 1) c') ∧ SliceAt w8 175 3 (some st) (b.g.sts.length + 1) c' (triF b.g.sts ++ triL (sx, sy, sz)) ∧ Keeps b.a.toList w7 w8 ∧ (b.a = some st ∨ w7.heap.size ≤ st))
         case first =>
          refine wp_region_held_drew (S := fun w' => w'.cell? ⟨p16, 0, none⟩ = some (.int .i64 sx) ∧ w'.cell? ⟨p16, 1, none⟩ = some (.int .i64 sy) ∧ w'.cell? ⟨p16, 2, none⟩ = some (.int .i64 sz)) (by kernel_rfl) ⟨d0, d1, d2⟩ (fun hHeld => ?_)
          refine take_on (i := 0) (v := ?_) rfl (by kernel_rfl) (by kernel_rfl) (by kernel_rfl) (fun _ _ _ h => h) (by rfl) (by assumption) ?_ ?_
          rotate_left
          ·((intro w hSw; (try dsimp only at hSw); go_simp <;> with_reducible rfl); done)
          try simp only [Act.put, List.setIfInBounds_toArray, List.set_cons_zero, List.set_cons_succ]
          refine take_on (i := 1) (v := ?_) rfl (by kernel_rfl) (by kernel_rfl) (by kernel_rfl) (fun _ _ _ h => h) (by rfl) (by assumption) ?_ ?_
          rotate_left
          ·((intro w hSw; (try dsimp only at hSw); go_simp <;> with_reducible rfl); done)
          try simp only [Act.put, List.setIfInBounds_toArray, List.set_cons_zero, List.set_cons_succ]
          refine take_on (i := 2) (v := ?_) rfl (by kernel_rfl) (by kernel_rfl) (by kernel_rfl) (fun _ _ _ h => h) (by rfl) (by assumption) ?_ ?_
          rotate_left
          ·((intro w hSw; (try dsimp only at hSw); go_simp <;> with_reducible rfl); done)
          try simp only [Act.put, List.setIfInBounds_toArray, List.set_cons_zero, List.set_cons_succ]
          refine take_on (i := 3) (v := ?_) rfl (by kernel_rfl) (by kernel_rfl) (by kernel_rfl) (fun _ _ _ h => h) (by rfl) (by assumption) ?_ ?_
          rotate_left
          ·((intro w hSw; (try dsimp only at hSw); go_simp <;> with_reducible rfl); done)
          try simp only [Act.put, List.setIfInBounds_toArray, List.set_cons_zero, List.set_cons_succ]
          refine take_on (i := 5) (v := ?_) rfl (by kernel_rfl) (by kernel_rfl) (by kernel_rfl) (fun _ _ _ h => h) (by rfl) (by assumption) ?_ ?_
          rotate_left
          ·((intro w hSw; (try dsimp only at hSw); go_simp <;> with_reducible rfl); done)
          try simp only [Act.put, List.setIfInBounds_toArray, List.set_cons_zero, List.set_cons_succ]
          refine branch_two (i := 4) (j := 6) rfl rfl (by kernel_rfl) (by rfl) (by rfl) (fun K hK => ?_) (fun K hK => ?_)
          ·go_simp
           refine hK.out _ _ (⟨d0, d1, d2⟩) (fun hHeld => ?_)
           clear hK K
           try simp only [Act.put, List.setIfInBounds_toArray, List.set_cons_zero, List.set_cons_succ]
           refine branch_one (i := 6) rfl (by kernel_rfl) (by rfl) (fun K hK => ?_)
           go_simp
           refine hK.out _ _ (⟨K1.cell d0 (by simp), K1.cell d1 (by simp), K1.cell d2 (by simp)⟩) (fun hHeld => ?_)
           clear hK K
           try simp only [Act.put, List.setIfInBounds_toArray, List.set_cons_zero, List.set_cons_succ]
           refine branch_one (i := 7) rfl (by kernel_rfl) (by rfl) (fun K hK => ?_)
           refine wp_append_sl (.tmp 93) (.tmp 95) 187 rfl 175 iT _ 3 24 Tryz.underlying187 HI0.out HI1.out HI2.out HI3.out rfl (by decide) b.a b.g.sts.length b.c (triF b.g.sts) rfl (HSTS.out.keep K1.drew (by simp)) ⟨w7.heap.size, 0, none⟩ 1 1 (triL (sx, sy, sz)) rfl rfl (news_row w7 (triL (sx, sy, sz)) 175) (by intro u hu; simp [triL] at hu; rcases hu with rfl | rfl | rfl <;> rfl) (by decide) (by have := HBL.out; omega) (by have := HBL.out; omega) ?_
           intro st c' w8 hs8 hk8 hg8
           have K2 : Keeps b.a.toList w7 w8 := (K1.drew.mono (by simp)).trans hk8
           have hq16 : p16 ∉ b.a.toList := fun hm => (HNB.out p16 hm).2 rfl
           have hqg : gn2 ∉ b.a.toList := fun hm => (HNB.out gn2 hm).1 rfl
           refine hK.out _ _ (⟨K2.cell d0 hq16, K2.cell d1 hq16, K2.cell d2 hq16⟩) (fun hHeld => ?_)
           clear hK K
           try simp only [Act.put, List.setIfInBounds_toArray, List.set_cons_zero, List.set_cons_succ]
           have hfz8 : w8.frozen? ⟨gn2, i.length * 3, none⟩ = false := (HBP.out.grp.row.keep K2 (by simpa using hqg)).fz _
           have h08 := K2.cell h0 hqg
           have HS8 := gI hs8
           have HKK := gI K2
           have HG8 := gI (show b.a = some st ∨ w7.heap.size ≤ st from by
            rcases hg8 with e | e
            ·exact .inl e
            ·have h1 := K1.drew.size
             exact .inr (Nat.le_trans h1 e))
           have HE := gI (show ∀ q, q ≠ gn2 → ∀ o v, w8.cell? ⟨q, o, none⟩ = some v → (w8.setCell ⟨gn2, i.length * 3, none⟩ (.slice (some ⟨st, 0, none⟩) (b.g.sts.length + 1) c')).cell? ⟨q, o, none⟩ = some v from fun q hq o v h => ((Keeps.refl [gn2] w8).setCell (by simp) _).cell h (by simpa using hq))
           have e0 := K2.cell d0 hq16
           have e1 := K2.cell d1 hq16
           have e2 := K2.cell d2 hq16
           clear hs8 hk8 hg8 K2
           refine take_on (i := 8) (v := ?_) rfl (by kernel_rfl) (by kernel_rfl) (by kernel_rfl) (fun _ _ _ h => h) (by rfl) (by assumption) ?_ ?_
           rotate_left
           ·((intro w hSw; (try dsimp only at hSw); go_simp <;> with_reducible rfl); done)
           try simp only [Act.put, List.setIfInBounds_toArray, List.set_cons_zero, List.set_cons_succ]
           refine take_on (i := 9) (v := ?_) rfl (by kernel_rfl) (by kernel_rfl) (by kernel_rfl) (fun _ _ _ h => h) (by rfl) (by assumption) ?_ ?_
           rotate_left
           ·((intro w hSw; (try dsimp only at hSw); go_simp <;> with_reducible rfl); done)
           try simp only [Act.put, List.setIfInBounds_toArray, List.set_cons_zero, List.set_cons_succ]
           refine branch_one (i := 10) rfl (by kernel_rfl) (by rfl) (fun K hK => ?_)
           go_simp
           refine hK.out _ _ (⟨HE.out _ HN16.out _ _ e0, HE.out _ HN16.out _ _ e1, HE.out _ HN16.out _ _ e2⟩) (fun hHeld => ?_)
           clear hK K
           try simp only [Act.put, List.setIfInBounds_toArray, List.set_cons_zero, List.set_cons_succ]
           refine wpAnyH_done (by kernel_rfl) ?_ _
           go_wp2
           go_meet
           exact ⟨rfl, st, c', w8, rfl, HS8.out, HKK.out, HG8.out⟩
          ·go_simp
           have h0' := K1.drew.cell h0 (by simp)
           refine hK.out _ _ (⟨K1.cell d0 (by simp), K1.cell d1 (by simp), K1.cell d2 (by simp)⟩) (fun hHeld => ?_)
           clear hK K
           try simp only [Act.put, List.setIfInBounds_toArray, List.set_cons_zero, List.set_cons_succ]
           refine branch_one (i := 4) rfl (by kernel_rfl) (by rfl) (fun K hK => ?_)
           go_simp
           refine hK.out _ _ (⟨K1.cell d0 (by simp), K1.cell d1 (by simp), K1.cell d2 (by simp)⟩) (fun hHeld => ?_)
           clear hK K
           try simp only [Act.put, List.setIfInBounds_toArray, List.set_cons_zero, List.set_cons_succ]
           clear h0'
           refine branch_one (i := 7) rfl (by kernel_rfl) (by rfl) (fun K hK => ?_)
           refine wp_append_sl (.tmp 93) (.tmp 95) 187 rfl 175 iT _ 3 24 Tryz.underlying187 HI0.out HI1.out HI2.out HI3.out rfl (by decide) b.a b.g.sts.length b.c (triF b.g.sts) rfl (HSTS.out.keep K1.drew (by simp)) ⟨w7.heap.size, 0, none⟩ 1 1 (triL (sx, sy, sz)) rfl rfl (news_row w7 (triL (sx, sy, sz)) 175) (by intro u hu; simp [triL] at hu; rcases hu with rfl | rfl | rfl <;> rfl) (by decide) (by have := HBL.out; omega) (by have := HBL.out; omega) ?_
           intro st c' w8 hs8 hk8 hg8
           have K2 : Keeps b.a.toList w7 w8 := (K1.drew.mono (by simp)).trans hk8
           have hq16 : p16 ∉ b.a.toList := fun hm => (HNB.out p16 hm).2 rfl
           have hqg : gn2 ∉ b.a.toList := fun hm => (HNB.out gn2 hm).1 rfl
           refine hK.out _ _ (⟨K2.cell d0 hq16, K2.cell d1 hq16, K2.cell d2 hq16⟩) (fun hHeld => ?_)
           clear hK K
           try simp only [Act.put, List.setIfInBounds_toArray, List.set_cons_zero, List.set_cons_succ]
           have hfz8 : w8.frozen? ⟨gn2, i.length * 3, none⟩ = false := (HBP.out.grp.row.keep K2 (by simpa using hqg)).fz _
           have h08 := K2.cell h0 hqg
           have HS8 := gI hs8
           have HKK := gI K2
           have HG8 := gI (show b.a = some st ∨ w7.heap.size ≤ st from by
            rcases hg8 with e | e
            ·exact .inl e
            ·have h1 := K1.drew.size
             exact .inr (Nat.le_trans h1 e))
           have HE := gI (show ∀ q, q ≠ gn2 → ∀ o v, w8.cell? ⟨q, o, none⟩ = some v → (w8.setCell ⟨gn2, i.length * 3, none⟩ (.slice (some ⟨st, 0, none⟩) (b.g.sts.length + 1) c')).cell? ⟨q, o, none⟩ = some v from fun q hq o v h => ((Keeps.refl [gn2] w8).setCell (by simp) _).cell h (by simpa using hq))
           have e0 := K2.cell d0 hq16
           have e1 := K2.cell d1 hq16
           have e2 := K2.cell d2 hq16
           clear hs8 hk8 hg8 K2
           refine take_on (i := 8) (v := ?_) rfl (by kernel_rfl) (by kernel_rfl) (by kernel_rfl) (fun _ _ _ h => h) (by rfl) (by assumption) ?_ ?_
           rotate_left
           ·((intro w hSw; (try dsimp only at hSw); go_simp <;> with_reducible rfl); done)
           try simp only [Act.put, List.setIfInBounds_toArray, List.set_cons_zero, List.set_cons_succ]
           refine take_on (i := 9) (v := ?_) rfl (by kernel_rfl) (by kernel_rfl) (by kernel_rfl) (fun _ _ _ h => h) (by rfl) (by assumption) ?_ ?_
           rotate_left
           ·((intro w hSw; (try dsimp only at hSw); go_simp <;> with_reducible rfl); done)
           try simp only [Act.put, List.setIfInBounds_toArray, List.set_cons_zero, List.set_cons_succ]
           refine branch_one (i := 10) rfl (by kernel_rfl) (by rfl) (fun K hK => ?_)
           go_simp
           refine hK.out _ _ (⟨HE.out _ HN16.out _ _ e0, HE.out _ HN16.out _ _ e1, HE.out _ HN16.out _ _ e2⟩) (fun hHeld => ?_)
           clear hK K
           try simp only [Act.put, List.setIfInBounds_toArray, List.set_cons_zero, List.set_cons_succ]
           refine wpAnyH_done (by kernel_rfl) ?_ _
           go_wp2
           go_meet
           exact ⟨rfl, st, c', w8, rfl, HS8.out, HKK.out, HG8.out⟩
         case rest =>
          obtain ⟨rfl, st, c', w8, rfl, hs8, hk8, hg8⟩ := hcut
          have HBJ0 := HBP.out.done HYS.out hjy HWS.out.2.1 HWS.out.2.2.1 HKS.out.size (by rw [← HS.out]; exact hs8) hk8 hg8
          obtain ⟨w9, hw9⟩ : ∃ w9 : World, w9 = w8.setCell ⟨gn2, i.length * 3, none⟩ (sv (some st) (b.g.sts.length + 1) c') := ⟨_, rfl⟩
          rw [← hw9] at HBJ0 ⊢
          obtain ⟨l2, hl2⟩ : ∃ l2, l2 = i ++ [⟨{ b.g with sts := b.g.sts ++ [ys.getD j z0] }, some st, c'⟩] := ⟨_, rfl⟩
          rw [← hl2] at HBJ0
          have hll2 : l2.length = i.length + 1 := by rw [hl2]; simp
          have h16 := ((Keeps.refl [gn2] w8).setCell (p := ⟨gn2, i.length * 3, none⟩) (by simp) (sv (some st) (b.g.sts.length + 1) c')).heap (hk8.heap HH16b.out (fun hm => (HNB.out p16 hm).2 rfl)) (by simpa using HN16.out)
          rw [← hw9] at h16
          have d0 : w9.cell? ⟨p16, 0, none⟩ = some (.int .i64 sx) := by simp [World.cell?, h16]
          have d1 : w9.cell? ⟨p16, 1, none⟩ = some (.int .i64 sy) := by simp [World.cell?, h16]
          have d2 : w9.cell? ⟨p16, 2, none⟩ = some (.int .i64 sz) := by simp [World.cell?, h16]
          have hK9 : Keeps [] W0 w9 := HKS.out.after HBJ0.kp (fun q hq => .inr (by
           have h1 := HKS.out.size
           simp only [List.mem_cons] at hq
           rcases hq with rfl | hq
           ·exact HINV.out.ge.2
           ·exact HINV.out.grp.ge q (by simpa using hq)))
          have hwant := PRE.out.want (sx, sy, sz) w9 HOK.out.1 hK9
          have hen := PRE.out.enW
          unfold EntersA at hen
          have HBJ := gI HBJ0
          have HLL2 := gI hll2
          have HK9 := gI hK9
          rw [← hll2]
          have hl2l : l2.length ≤ 1000000 := by rw [hll2]; exact HIL.out
          clear hw9 hl2 hll2 hs8 hk8 hg8 h16 HBJ0 hK9
          by_cases hgl : (sx, sy, sz) = goal
          ·have hd : decide ((sx, sy, sz) = goal) = true := by simp [hgl]
           rw [hd] at hwant
           have HWANT := gI hwant
           have HGL := gI hgl
           clear hwant hd hgl
           go_wp2_with fail
           refine Calls.mono HWANT.out ?_
           rintro e w10 ⟨rfl, hk10⟩
           have HK10 := gI hk10
           clear hk10 d0 d1 d2 hen
           obtain ⟨h0l, hleast⟩ := HBJ.out.found HYS.out HINV.out.bfs hk hjy
           rw [← HS.out, HGL.out] at hleast
           have HLINK := gI (Links.of HBJ.out.mid HINV.out.bfs (by simpa using hk))
           obtain ⟨word, hword⟩ : ∃ word, word = wd (l2.map GB.g) (l2.length - 1) := ⟨_, rfl⟩
           rw [← hword] at hleast
           have hwl : word.length ≤ 1000000 := by
            have := HLINK.out.len (l2.length - 1) (by simp; omega)
            rw [hword]
            omega
           have HG2 := gI (HBJ.out.keep HK10.out).grp
           have HWORD := gI hword
           have HLEAST := gI hleast
           have HWL := gI hwl
           have hw2 : IntKind.i64.wrap ((l2.length : Int) - 1) = ((l2.length - 1 : Nat) : Int) := by rw [IntWalk.i64_in _ (by omega)]; omega
           clear hword hleast hwl
           go_wp2
           go_loopw [18, 19] (fun v18 v19 wC => ∃ (q a9 : Nat) (aa : Option Nat) (cc : Nat) (cs : List Int), v19 = .int .i64 q ∧ v18 = .slice (aa.map fun g => ⟨g, 0, none⟩) cs.length cc ∧ q < l2.length ∧ SliceAt wC 3 1 aa cs.length cc (cs.map (Value.int .i64)) ∧ wd (l2.map GB.g) q ++ cs.reverse = word ∧ Keeps [] w10 wC ∧ (∀ g, aa = some g → w10.heap.size ≤ g) ∧ a9 = 0) (fun _ v19 _ => (intOf v19).toNat)
           case atStart => exact ⟨l2.length - 1, 0, none, 0, [], by first | rfl | go_num, rfl, by omega, SliceAt.nil _ _ _, by rw [HWORD.out]; simp, Keeps.refl _ _, by simp, rfl⟩
           case round =>
            obtain ⟨q, _, aa, cc, cs, rfl, rfl, hq, hsl, hwd, hkC, haa, -⟩ := hrel
            obtain ⟨wC, hwC⟩ : ∃ wC : World, wC = wr := ⟨_, rfl⟩
            subst hwC
            have hgrp := HG2.out.keep hkC (by simp)
            obtain ⟨-, e1, e2⟩ := flatG_get l2 q hq
            have hfl := flatG_length l2
            have r1 := hgrp.row.cell (q * 3 + 1) (by omega)
            have r2 := hgrp.row.cell (q * 3 + 2) (by omega)
            rw [List.getElem?_eq_getElem (by omega)] at e1 e2
            rw [Option.some.inj e1] at r1
            rw [Option.some.inj e2] at r2
            have hgq : (l2.map GB.g).getD q .none = l2[q].g := by simp [List.getD, hq]
            rw [← hgq] at r1 r2
            have HSL9 := gI hsl
            have HKC9 := gI hkC
            have HAA := gI haa
            have HWD := gI hwd
            by_cases hq0 : q = 0
            ·subst hq0
             rw [HLINK.out.1] at r1
             have hcs : cs.reverse = word := by have := HWD.out; rwa [HLINK.out.2.1, List.nil_append] at this
             have hcl : cs.length ≤ 1000000 := by have := HWL.out; rw [← hcs] at this; simpa using this
             have HREV := gI (reverse_any aa cc cs wC hsl hcl)
             have HCS := gI hcs
             clear hgrp e1 e2 hfl hgq hsl hkC haa hwd hcs r2
             go_wp2_with fail
             refine Calls.mono HREV.out ?_
             rintro e w12 ⟨rfl, hs12, hk12⟩
             have HS12 := gI hs12
             have HK12 := gI hk12
             clear hs12 hk12
             go_wp2
             rw [HQ.out]
             have hkF : Keeps [] W0 w12 := ((HK9.out.trans HK10.out).trans HKC9.out).after HK12.out (fun x hx => .inr (by
              have h1 := HAA.out x (by simpa using hx)
              have h2 := (HK9.out.trans HK10.out).size
              omega))
             refine ⟨hkF, .inl ⟨aa, cc, word, ?_, ?_, HLEAST.out, HWL.out, fun g hg => ?_⟩⟩
             ·rw [← HCS.out]; simp [sv]
             ·rw [← HCS.out]; simpa using HS12.out
             ·have h1 := HAA.out g hg
              have h2 := (HK9.out.trans HK10.out).size
              omega
            ·obtain ⟨bq, hb1, hb2, hb3⟩ := HLINK.out.2.2 q (by omega) (by simpa using hq)
             rw [hb1] at r1
             obtain ⟨cl, hcl⟩ : ∃ cl, cl = ((l2.map GB.g).getD q .none).cls := ⟨_, rfl⟩
             rw [← hcl] at r2 hb3
             have HB3 := gI hb3
             have hcsl : cs.length ≤ 1000000 := by
              have h1 := congrArg List.length HWD.out
              have h2 := HWL.out
              simp only [List.length_append, List.length_reverse] at h1
              omega
             have HCSL := gI hcsl
             have HB2 := gI hb2
             have hbq0 : (0 : Int) ≤ (bq : Int) := by omega
             have HAP9 := gI (show ∀ g ∈ aa.toList, g ≠ gn2 from fun g hg e => by
              have h1 := HAA.out g (by simpa using hg)
              have h2 := HG2.out.lt gn2 (by simp)
              omega)
             have R1 := gI r1
             obtain ⟨ii, hii, hiz, his, hib⟩ := infoParts infoInt
             have HII := gI hii
             have HIZ := gI hiz
             have HIS := gI his
             have HIB := gI hib
             clear hgrp e1 e2 hfl hgq hsl hkC haa hwd hb1 hb2 hb3 hcl hcsl hii hiz his hib
             go_wp2_with (at_builtin; refine wpList_append_sl rfl (.tmp 117) (.tmp 123) 22 rfl 3 ii _ 1 8 Tryz.underlying22 HII.out HIZ.out HIS.out HIB.out rfl (by decide) aa cs.length cc (cs.map (Value.int .i64)) rfl (HSL9.out.alloc _) ⟨wC.heap.size, 0, none⟩ 1 1 [.int .i64 cl] rfl rfl (news_row' _ _ _ _ rfl) (int_one _) (by decide) (by have := HCSL.out; omega) (by have := HCSL.out; omega) ?hk)
             case hk =>
              intro g c9 w11 hs11 hk11 hg11
              have k11' : Keeps aa.toList wC w11 := ((Keeps.a1 wC (.cells #[.int .i64 cl] 3)).mono (by simp)).trans hk11
              have r1 := k11'.cell R1.out (fun hm => HAP9.out gn2 hm rfl)
              have HS11 := gI hs11
              have HK11 := gI k11'
              have HG11 := gI hg11
              clear hs11 hk11 hg11 k11' r2
              go_wp2
              go_roundw
              case rel =>
               refine ⟨bq, 0, some g, c9, cs ++ [cl], rfl, by simp, by have := HB2.out; omega, ?_, ?_, HKC9.out.after HK11.out (fun x hx => .inr (HAA.out x (by simpa using hx))), fun g' hg' => ?_, rfl⟩
               ·have h := HS11.out
                simpa using h
               ·have h1 := HWD.out
                rw [HB3.out] at h1
                rw [List.reverse_append, List.reverse_singleton, ← h1, List.append_assoc]
               ·simp only [Option.some.injEq] at hg'
                subst hg'
                rcases HG11.out with e | e
                ·exact HAA.out _ e
                ·have h1 := HKC9.out.size
                 omega
              case measure =>
               have := HB2.out
               simp [intOf]; omega
          ·have hd : decide ((sx, sy, sz) = goal) = false := by simp [hgl]
           rw [hd] at hwant
           have HWANT := gI hwant
           have HGL := gI hgl
           clear hwant hd hgl
           go_wp2_with fail
           refine Calls.mono HWANT.out ?_
           rintro e w10 ⟨rfl, hk10⟩
           have HK10 := gI hk10
           clear hk10 d0 d1 d2 hen
           go_wp2
           go_roundw
           case rel =>
            refine ⟨gn2, gc2, j + 1, l2, rfl, by go_num, by omega, HBJ.out.keep HK10.out, fun hm => ?_⟩
            rw [take_succ_getD hjy] at hm
            rcases List.mem_append.1 hm with e | e
            ·exact HGO.out e
            ·rw [← HS.out] at e
             simp only [List.mem_singleton] at e
             exact HGL.out e.symm
           case measure => simp [intOf]; omega
      ·have HFIN := gI (show SInv W0 OKs dom succ (x, y, z) goal p9 fb gn1 gc1 (k + 1) l1 wB from by
        have e := HYL.out
        obtain rfl : j = ys.length := by omega
        exact HBI.out.finish HYS.out HINV.out hk (by have := HGO.out; rwa [List.take_of_length_le (Nat.le_refl _)] at this) HKS.out HWS.out.1 (HKW.out wS (Keeps.refl _ _)).1)
       have HLN1 := gI (Nat.le_trans (HFIN.out.len (fun t ht => (PRE.out.ok t ht).2)) PRE.out.len)
       have hkb : k + 1 ≤ 1000000 := by have h1 := HFIN.out.le; have h2 := HLN1.out; omega
       have HMEAS := gI (show k < dom.length from by
        have h1 := HFIN.out.le
        have h2 := HFIN.out.len (fun t ht => (PRE.out.ok t ht).2)
        omega)
       go_wp2
       go_roundw
       case rel => exact ⟨gn1, gc1, k + 1, l1, rfl, by go_num, HFIN.out⟩
       case measure =>
        have := HMEAS.out
        simp [intOf]; omega
  ·have HNO := gI (show ∀ w, ¬ Lead succ (x, y, z) w goal from fun w hw => by
    obtain ⟨j, hj, hm⟩ := hinv.bfs.all (by simp; omega) hw
    have hj' : j < l.length := by simpa using hj
    refine hinv.ng (mem_gsts.2 ⟨l[j], List.getElem_mem hj', ?_⟩)
    have e : sts (l.map GB.g) j = l[j].g.sts := by simp [Go.Proofs.YtkekenaamnhbhaaGreat.sts, List.getD, hj']
    rw [e] at hm
    exact hm)
   have HKP := gI hinv.kp
   have hkl : k = l.length := by have := hinv.le; omega
   subst hkl
   clear hinv
   go_wp2
   rw [HQ.out]
   exact ⟨HKP.out, .inr ⟨rfl, HNO.out⟩⟩
end Go.Proofs.YtkekenaamnhbhaaGreat
