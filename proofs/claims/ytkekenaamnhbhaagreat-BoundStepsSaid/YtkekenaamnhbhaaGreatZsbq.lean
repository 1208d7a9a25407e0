/- Part 43 of the proof. No condition: every lemma says its own. -/
import Derived.Test.YtkekenaamnhbhaaGreatZsbm
namespace Go.Proofs.YtkekenaamnhbhaaGreat
open Go.RowKit Go.Sort Go.BigFrame
set_option maxRecDepth 100000
set_option maxHeartbeats 16000000
theorem setGo_ok : ∀ {l : List (Int × Int)} {pv : Option Int}, setGo pv l = true → ∀ s ∈ l, 0 ≤ s.1 ∧ s.1 ≤ s.2 ∧ s.2 ≤ 1114111
 | [], _, _, s, h => by cases h
 | x :: l, pv, h, s, hs => by
  simp only [setGo, rightB, Bool.and_eq_true, decide_eq_true_eq] at h
  rcases List.mem_cons.1 hs with rfl | hs
  ·exact h.1
  ·exact setGo_ok h.2.2 s hs
theorem setE_ok {l : List (Int × Int)} (h : setE l = 0) : l.length ≤ 64 ∧ ∀ s ∈ l, 0 ≤ s.1 ∧ s.1 ≤ s.2 ∧ s.2 ≤ 1114111 := by
 unfold setE at h
 split at h
 ·rename_i h1
  split at h
  ·rename_i h2; exact ⟨h2, setGo_ok h1⟩
  ·cases h
 ·cases h
structure OfPre (p : Pg) (ρ : Nat → Nat) (ix : Nat → Nat) (C : Nat → List Int) (rds : List Cl) (nodes : List Int) : Prop where
 ok : PgOK p
 ends : Ends p ρ
 no5 : ∀ i ∈ p.ins, i.op ≠ 5
 erd : rds = rdS p.ins p.ins.length
 eno : nodes = rdN p.ins p.ins.length ++ [dnN p.ins p.ins.length]
 few : (rdN p.ins p.ins.length).length ≤ 63
 ascii : p.runes = false
 e12 : (endsK 255 rds rds.length).length ≤ 12
 isC : IsC p nodes ix C
 first : ∀ v ∈ C 0, v ≤ 1099511627776
 edges : ∀ cls : List Cl, (∃ j, SplitAt 255 (endsK 255 rds rds.length) j ∧ cls.map Cl.sp = (splitN 255 (endsK 255 rds rds.length) j).out) → cls.length ≤ 100000 ∧ (∀ k ∈ cls, k.sp ≠ [] ∧ k.sp.length ≤ 1000000) ∧ (ofE cls rds nodes C rds.length).length ≤ 65536 ∧ ∀ e ∈ ofE cls rds nodes C rds.length, e.ws ≤ 1099511627776
def OfPost (w : World) (C : Nat → List Int) (rds : List Cl) (nodes : List Int) (e : Ending) (w' : World) : Prop :=
 Keeps [] w w' ∧ ∃ x : Gr, e = .returned (.tuple #[x.val, .int .i64 0]) ∧ GrIn w' x ∧ (∃ j, SplitAt 255 (endsK 255 rds rds.length) j ∧ x.cls.map Cl.sp = (splitN 255 (endsK 255 rds rds.length) j).out) ∧
  x.nodes = nodes ∧ x.first = C 0 ∧ x.edges = ofE x.cls rds nodes C rds.length
theorem Of_any (p : Pg) (ρ ix : Nat → Nat) (C : Nat → List Int) (rds : List Cl) (nodes : List Int) (w : World) (hp : PgIn w p) (H : OfPre p ρ ix C rds nodes) :
  Calls Tryz.prog 38 #[p.val] w (OfPost w C rds nodes) := by
 obtain ⟨Q, hQ⟩ : ∃ Q, Q = OfPost w C rds nodes := ⟨_, rfl⟩
 rw [← hQ]
 have HQ := gI hQ
 have hlen := hp.len
 have HPRE := gI H
 obtain ⟨B, hB⟩ : ∃ B, B = w.heap.size := ⟨_, rfl⟩
 obtain ⟨Y, hY⟩ : ∃ Y, Y = (w.alloc (.cells #[.slice p.ia p.ins.length p.ic, .int .i64 p.caps, .bool p.runes] 83)).alloc (.cells #[.slice none 0 0, .slice none 0 0, .slice none 0 0, .slice none 0 0] 89) := ⟨_, rfl⟩
 have hkY : Keeps [] w Y := by rw [hY]; exact (Keeps.a1 _ _).alloc _
 have hYs : Y.heap.size = B + 2 := by rw [hY, hB]; simp
 have hb : Y.heap[B]? = some (.cells p.row.toArray 83 (0, 0)) := by rw [hY, hB]; exact (Keeps.a1 _ _).heap (heap_alloc_new w _) (by simp)
 have hr : Y.heap[B + 1]? = some (.cells #[.slice none 0 0, .slice none 0 0, .slice none 0 0, .slice none 0 0] 89 (0, 0)) := by rw [hY, hB]; exact heap_alloc2_new w _ _
 have b0 : Y.cell? ⟨B, 0, none⟩ = some (.slice p.ia p.ins.length p.ic) := by simp [World.cell?, hb, Pg.row]
 have b1 : Y.cell? ⟨B, 1, none⟩ = some (.int .i64 p.caps) := by simp [World.cell?, hb, Pg.row]
 have b2 : Y.cell? ⟨B, 2, none⟩ = some (.bool p.runes) := by simp [World.cell?, hb, Pg.row]
 obtain ⟨pb, off, hia, hcells⟩ := hp.ins (List.length_pos_iff.2 H.ok.ne)
 have HV := PValid_any p Y (hp.keep hkY) H.ok
 simp only [Pg.val] at HV
 rw [hia] at HV b0
 have HPW := gI hp
 have HCE := gI hcells
 have HV := gI HV
 have HPY := gI (hp.keep hkY)
 have HY := gI (show Y = (w.alloc (.cells #[.slice (some ⟨pb, off, none⟩) p.ins.length p.ic, .int .i64 p.caps, .bool p.runes] 83)).alloc (.cells #[.slice none 0 0, .slice none 0 0, .slice none 0 0, .slice none 0 0] 89) by rw [hY, hia])
 have HB := gI hB
 have HYS := gI hYs
 have HK := gI hkY
 have HBB := gI hb
 have HR := gI hr
 have HIA := gI hia
 simp only [Pg.val]
 rw [hia]
 clear hQ hp H hia hcells hB hY hkY hYs hb hr
 go_enter Tryz.func38, Tryz.ntmps38
 go_upto_region 1 with fail
 rw [← HY.out, ← HB.out]
 go_wp2_with (go_at_call 52; refine HV.out.mono ?_)
 rintro e w1 ⟨rfl, hk1⟩
 have b0 := hk1.cell b0 (by simp)
 have b1 := hk1.cell b1 (by simp)
 have b2 := hk1.cell b2 (by simp)
 obtain ⟨Z, hZ⟩ : ∃ Z, Z = w1.alloc (.cells #[.slice none 0 0, .slice none 0 0, .slice none 0 0, .slice none 0 0] 89) := ⟨_, rfl⟩
 obtain ⟨BX, hBX⟩ : ∃ BX, BX = w1.heap.size := ⟨_, rfl⟩
 have hkZ : Keeps [] w1 Z := by rw [hZ]; exact Keeps.a1 _ _
 have hbx : Z.heap[BX]? = some (.cells #[.slice none 0 0, .slice none 0 0, .slice none 0 0, .slice none 0 0] 89 (0, 0)) := by rw [hZ, hBX]; exact heap_alloc_new _ _
 have b0 := hkZ.cell b0 (by simp)
 have b1 := hkZ.cell b1 (by simp)
 have b2 := hkZ.cell b2 (by simp)
 have hBXB : B + 1 < BX := by have h1 := hk1.size; have h2 := HYS.out; omega
 have HPZ := gI (HPY.out.keep (hk1.trans hkZ))
 have HKZ := gI ((HK.out.trans hk1).trans hkZ)
 have HBZ := gI ((hk1.trans hkZ).heap HBB.out (by simp))
 have HRZ := gI ((hk1.trans hkZ).heap HR.out (by simp))
 have HO := gI (O1.start hbx)
 have HZ := gI hZ
 have HBX := gI hBX
 clear hk1 hZ hBX hkZ hbx
 go_upto_region 7 with fail
 rw [← HZ.out, ← HBX.out]
 obtain ⟨ii, hii, hiz, his, hib⟩ := infoParts infoInt
 obtain ⟨ib, hib1, hib2, hib3, hib4⟩ := infoParts infoSpl
 have HII := gI hii
 have HIZ := gI hiz
 have HIS := gI his
 have HIB := gI hib
 have HJ1 := gI hib1
 have HJ2 := gI hib2
 have HJ3 := gI hib3
 have HJ4 := gI hib4
 clear hii hiz his hib hib1 hib2 hib3 hib4
 go_wp2
 go_loopw [6, 7, 25] (fun v6 v7 v25 wr => ∃ (q : Nat) (nl : List Int) (rl : List Cl) (dn : Int) (a1 : Option Nat) (c1 : Nat) (a2 : Option Nat) (c2 : Nat), v6 = .slice (a2.map fun g => ⟨g, 0, none⟩) rl.length c2 ∧ v7 = .int .i64 dn ∧ v25 = .int .i64 q ∧ q ≤ p.ins.length ∧ nl = rdN p.ins q ∧ rl = rdS p.ins q ∧ dn = dnN p.ins q ∧ O1 Z wr BX nl rl a1 c1 a2 c2) (fun _ _ v25 _ => p.ins.length - (intOf v25).toNat)
 case atStart => exact ⟨0, [], [], -1, none, 0, none, 0, rfl, rfl, rfl, Nat.zero_le _, rfl, rfl, rfl, HO.out⟩
 case round =>
  obtain ⟨q, nl, rl, dn, a1, c1, a2, c2, rfl, rfl, rfl, hq, hnl, hrl, hdn, ho⟩ := hrel
  obtain ⟨wA, hwA⟩ : ∃ wA : World, wA = wr := ⟨_, rfl⟩
  subst hwA
  have HO1 := gI ho
  have HNL := gI hnl
  have HRL := gI hrl
  have HDN := gI hdn
  have b0 := ho.kp.cell b0 (by simp; omega)
  have b1 := ho.kp.cell b1 (by simp; omega)
  have b2 := ho.kp.cell b2 (by simp; omega)
  have hnll : nl.length ≤ 8192 := by rw [hnl]; have := rdN_le p.ins q; omega
  have hrll : rl.length ≤ 8192 := by rw [hrl, rdS_length]; have := rdN_le p.ins q; omega
  have HKW := gI (show Keeps [] w wA from HKZ.out.after ho.kp (fun x hx => .inr (by simp at hx; subst hx; have h1 := HYS.out; have h2 := HB.out; omega)))
  obtain ⟨x1, xf⟩ := ho.cells
  by_cases hqm : q < p.ins.length
  ·have hi := HCE.out q hqm
   have hin := HPRE.out.ok.ins p.ins[q] (List.getElem_mem hqm)
   have hn5 := HPRE.out.no5 p.ins[q] (List.getElem_mem hqm)
   have HS1 := gI (rdN_succ hqm)
   have HS2 := gI (rdS_succ hqm)
   have HS3 := gI (dnN_succ hqm)
   obtain ⟨op, hop⟩ : ∃ op, op = p.ins[q].op := ⟨_, rfl⟩
   obtain ⟨⟨i0, i1, i2, i3, i4⟩⟩ : Nonempty (InsAt wA pb (off + q * 5) p.ins[q]) := ⟨hi.keep HKW.out (by simp)⟩
   rw [← hop] at HS1 HS2 HS3 i0 hn5
   obtain ⟨sa, hsa⟩ : ∃ v, v = p.ins[q].sa := ⟨_, rfl⟩
   obtain ⟨sn, hsn⟩ : ∃ v, v = p.ins[q].sp.length := ⟨_, rfl⟩
   obtain ⟨sc, hsc⟩ : ∃ v, v = p.ins[q].sc := ⟨_, rfl⟩
   obtain ⟨ix_, hix⟩ : ∃ v, v = p.ins[q].x := ⟨_, rfl⟩
   obtain ⟨iy_, hiy⟩ : ∃ v, v = p.ins[q].y := ⟨_, rfl⟩
   obtain ⟨in_, hin_⟩ : ∃ v, v = p.ins[q].n := ⟨_, rfl⟩
   rw [← hsa, ← hsn, ← hsc] at i4
   rw [← hix] at i1
   rw [← hiy] at i2
   rw [← hin_] at i3
   have HSC := gI (show (⟨p.ins[q].sa, p.ins[q].sc, p.ins[q].sp⟩ : Cl) = ⟨sa, sc, p.ins[q].sp⟩ ∧ clV ⟨sa, sc, p.ins[q].sp⟩ = .slice sa sn sc from ⟨by rw [hsa, hsc], by rw [clV, hsn]⟩)
   clear hi hin ho hnl hrl hdn hsa hsn hsc hix hiy hin_ hop
   go_upto_region 10 with fail
   obtain ⟨V, hV⟩ : ∃ V, V = wA.alloc (.cells #[.int .i64 op, .int .i64 ix_, .int .i64 iy_, .int .i64 in_, .slice sa sn sc] 112) := ⟨_, rfl⟩
   obtain ⟨S, hS⟩ : ∃ S, S = wA.heap.size := ⟨_, rfl⟩
   have hkV : Keeps [] wA V := by rw [hV]; exact Keeps.a1 _ _
   have hsv : V.heap[S]? = some (.cells #[.int .i64 op, .int .i64 ix_, .int .i64 iy_, .int .i64 in_, .slice sa sn sc] 112 (0, 0)) := by rw [hV, hS]; exact heap_alloc_new _ _
   have s0 : V.cell? ⟨S, 0, none⟩ = some (.int .i64 op) := by simp [World.cell?, hsv]
   have s4 : V.cell? ⟨S, 4, none⟩ = some (.slice sa sn sc) := by simp [World.cell?, hsv]
   have hoV := HO1.out.keep hkV
   obtain ⟨x1, xf⟩ := hoV.cells
   have xf1 := xf 1
   have HOV := gI hoV
   have HV2 := gI hV
   have HS := gI hS
   rw [← HV2.out, ← HS.out]
   clear hV hS hkV hsv hoV xf i0 i1 i2 i3 i4 b0 b1 b2
   by_cases h1 : op = 1
   ·subst h1
    have HE1 := gI (show nl ++ [(q : Int)] = rdN p.ins (q + 1) by rw [HS1.out, if_pos rfl, HNL.out])
    have HE2 := gI (show rl ++ [⟨sa, sc, p.ins[q].sp⟩] = rdS p.ins (q + 1) by rw [HS2.out, if_pos rfl, HRL.out, HSC.out.1])
    have HE3 := gI (show dn = dnN p.ins (q + 1) by rw [HS3.out, if_neg (by simp), HDN.out])
    go_wp2_with (at_builtin; refine wpList_append_sl rfl (.tmp 38) (.tmp 40) 22 rfl 3 ii _ 1 8 Tryz.underlying22 HII.out HIZ.out HIS.out HIB.out rfl (by decide) a1 nl.length c1 (nl.map (Value.int .i64)) rfl (HOV.out.nod.alloc _) ⟨V.heap.size, 0, none⟩ 1 1 [.int .i64 q] rfl rfl (news_row' _ _ _ _ rfl) (int_one _) (by decide) (by omega) (by omega) ?hk1)
    case hk1 =>
     intro g6 c6 w6 hs6 hk6 hg6
     have HOA := gI (HOV.out.keep (Keeps.a1 V (.cells #[.int .i64 q] 3)))
     have hnB : BX ∉ a1.toList := fun hm => by have h1 := HOA.out.n1 BX (by simpa using hm); have h2 := HOA.out.lt; omega
     have hnS : S ∉ a1.toList := fun hm => by
      have h1 := HO1.out.nod
      rw [show a1 = some S by simpa using hm] at h1
      have h2 := h1.lt
      have h3 := HS.out
      omega
     have y0 := hk6.heap HOA.out.box hnB
     have y1 : w6.cell? ⟨BX, 1, none⟩ = some (.slice (a1.map fun g => ⟨g, 0, none⟩) nl.length c1) := by simp [World.cell?, y0]
     have yf : w6.frozen? ⟨BX, 1, none⟩ = false := by simp [World.frozen?, y0]
     have s4 := hk6.cell ((Keeps.a1 V (.cells #[.int .i64 q] 3)).cell s4 (by simp)) hnS
     have ho7 := HOA.out.node hs6 hk6 (by simpa using hg6)
     obtain ⟨w7, hw7⟩ : ∃ w7, w7 = w6.setCell ⟨BX, 1, none⟩ (.slice (some ⟨g6, 0, none⟩) (nl.length + 1) c6) := ⟨_, rfl⟩
     have hk7 : Keeps [BX] w6 w7 := by rw [hw7]; exact (Keeps.refl [BX] w6).setCell (by simp) _
     have hSB : S ≠ BX := by have h1 := HO1.out.lt; have h2 := HO1.out.kp.size; have h3 := HS.out; omega
     have s4 := hk7.cell s4 (by simpa using hSB)
     rw [← hw7] at ho7
     have HO7 := gI ho7
     have HW7 := gI hw7
     clear hs6 hk6 hg6 y0 ho7 hw7 hk7 hnB hnS
     go_upto_region 15 with fail
     rw [← HW7.out]
     clear y1 yf x1 xf1
     have HSC2 := HSC.out.2
     go_wp2_with (at_builtin; refine wpList_append_sl rfl (.tmp 43) (.tmp 46) 86 rfl 52 ib _ 1 24 Tryz.underlying86 HJ1.out HJ2.out HJ3.out HJ4.out rfl (by decide) a2 rl.length c2 (rl.map clV) rfl (HO7.out.rd.alloc _) ⟨w7.heap.size, 0, none⟩ 1 1 [.slice sa sn sc] rfl rfl (news_row' _ _ _ _ rfl) (by intro u hu; simp at hu; subst hu; rfl) (by decide) (by omega) (by omega) ?hk2)
     case hk2 =>
      intro g8 c8 w8 hs8 hk8 hg8
      have HO8 := gI ((HO7.out.keep (Keeps.a1 w7 (.cells #[.slice sa sn sc] 52))).read (v := ⟨sa, sc, p.ins[q].sp⟩) (by rw [HSC.out.2]; exact hs8) hk8 (by simpa using hg8))
      clear hs8 hk8 hg8 HSC2 s0 s4
      go_wp2
      go_roundw
      case rel => exact ⟨q + 1, _, _, dn, some g6, c6, some g8, c8, by simp, rfl, by go_num, hqm, HE1.out, HE2.out, HE3.out, HO8.out⟩
      case measure => simp [intOf]; omega
   ·have HE1 := gI (show nl = rdN p.ins (q + 1) by rw [HS1.out, if_neg h1, HNL.out])
    have HE2 := gI (show rl = rdS p.ins (q + 1) by rw [HS2.out, if_neg h1, HRL.out])
    have h1b : (op == 1) = false := by simpa using h1
    have h5b : (op == 5) = false := by simpa using hn5
    by_cases h0 : op = 0
    ·subst h0
     by_cases hd : dn = -1
     ·subst hd
      have HE3 := gI (show (q : Int) = dnN p.ins (q + 1) by rw [HS3.out, if_pos ⟨rfl, HDN.out.symm⟩])
      go_wp2
      go_roundw
      case rel => exact ⟨q + 1, nl, rl, q, a1, c1, a2, c2, rfl, rfl, by go_num, hqm, HE1.out, HE2.out, HE3.out, HOV.out⟩
      case measure => simp [intOf]; omega
     ·have HE3 := gI (show dn = dnN p.ins (q + 1) by rw [HS3.out, if_neg (by rw [← HDN.out]; exact fun h => hd h.2), HDN.out])
      have hdb : (dn == -1) = false := by simpa using hd
      go_wp2
      go_roundw
      case rel => exact ⟨q + 1, nl, rl, dn, a1, c1, a2, c2, rfl, rfl, by go_num, hqm, HE1.out, HE2.out, HE3.out, HOV.out⟩
      case measure => simp [intOf]; omega
    ·have HE3 := gI (show dn = dnN p.ins (q + 1) by rw [HS3.out, if_neg (fun h => h0 h.1), HDN.out])
     have h0b : (op == 0) = false := by simpa using h0
     go_wp2
     go_roundw
     case rel => exact ⟨q + 1, nl, rl, dn, a1, c1, a2, c2, rfl, rfl, by go_num, hqm, HE1.out, HE2.out, HE3.out, HOV.out⟩
     case measure => simp [intOf]; omega
  ·obtain rfl : q = p.ins.length := by omega
   have herd : rl = rds := by rw [HRL.out, HPRE.out.erd]
   have heno : nl ++ [dn] = nodes := by rw [HNL.out, HDN.out, HPRE.out.eno]
   have hfew : nl.length ≤ 63 := by rw [HNL.out]; exact HPRE.out.few
   subst herd
   have HENO := gI heno
   have HCI := gI (circles_any p ρ wA (HPW.out.keep HKW.out) HPRE.out.ends)
   simp only [Pg.val, HIA.out] at HCI
   have hrun := HPRE.out.ascii
   rw [hrun] at b2
   have HRUN := gI hrun
   rw [hrun] at HCI
   have HCI := gI HCI
   have hsets : ∀ W, Keeps [] w W → SetsOK W (a2.map fun g => ⟨g, 0, none⟩) rl ∨ True := fun _ _ => .inr trivial
   have HSD := gI (show ∀ k ∈ rl, setE k.sp = 0 ∧ SpIn w k.a k.sp from fun k hk => by
    rw [HRL.out] at hk
    obtain ⟨i, h1, h2, rfl⟩ := rdS_mem hk
    have h3 := HPRE.out.ok.ins i h1
    have h4 : setE i.sp = 0 := by
     rcases h3 with h | h | h | h | h | h
     ·omega
     ·exact h.2.2.2.2.1
     ·omega
     ·omega
     ·omega
     ·omega
    exact ⟨h4, (HPW.out.sp i h1).1⟩)
   have HRLL := gI (show rl.length = nl.length by rw [HRL.out, HNL.out, rdS_length])
   have hfewI : ¬ (63 : Int) < nl.length := by omega
   clear ho hnl hrl hdn heno hsets hnll hrll
   go_wp2_with (go_at_call 53; refine HCI.out.mono ?_)
   rintro e w2 rfl hk2
   have b0 := hk2.cell b0 (by simp)
   have b1 := hk2.cell b1 (by simp)
   have b2 := hk2.cell b2 (by simp)
   have ho2 := HO1.out.keep hk2
   obtain ⟨x1, xf⟩ := ho2.cells
   have x0 : w2.cell? ⟨BX, 0, none⟩ = some (.slice none 0 0) := by simp [World.cell?, ho2.box]
   have xf0 := xf 0
   have HO2 := gI ho2
   have HK2 := gI (HKW.out.trans hk2)
   have hset2 : SetsOK w2 (a2.map fun g => ⟨g, 0, none⟩) rl := ⟨clsIn_sl ho2.rd rfl, fun k hk => ⟨(HSD.out k hk).2.keep HK2.out, by have := (setE_ok (HSD.out k hk).1).1; omega, (setE_ok (HSD.out k hk).1).2⟩, by have := HRLL.out; omega⟩
   have HSPL := gI (split_any (cc := c2) (top := 255) hset2 (fun k hk => (HSD.out k hk).1) (by have := HRLL.out; omega) (by omega) (by omega) HPRE.out.e12)
   clear hk2 ho2 xf hset2
   go_wp2_with (go_at_call 54; refine HSPL.out.mono ?_)
   rintro e w3 ⟨j, a3, c3, R, rfl, hj1, hj2, hR, hk3⟩
   have hk30 := hk3
   have b0 := hk3.cell b0 (by simp)
   have b1 := hk3.cell b1 (by simp)
   have b2 := hk3.cell b2 (by simp)
   have ho3 := HO2.out.keep hk3
   have hltw2 := HO2.out.kp.size
   have hltx := HO2.out.lt
   obtain ⟨w4, hw4⟩ : ∃ w4, w4 = w3.setCell ⟨BX, 0, none⟩ (.slice (a3.map fun g => ⟨g, 0, none⟩) R.length c3) := ⟨_, rfl⟩
   have hk4 : Keeps [BX] w3 w4 := by rw [hw4]; exact (Keeps.refl [BX] w3).setCell (by simp) _
   have hx4 : w4.heap[BX]? = some (.cells #[.slice (a3.map fun g => ⟨g, 0, none⟩) R.length c3, .slice (a1.map fun g => ⟨g, 0, none⟩) nl.length c1, .slice none 0 0, .slice none 0 0] 89 (0, 0)) := by
    rw [hw4, heap_setCell_same _ BX 0 _ _ _ ho3.box]
    simp
   obtain ⟨x1, xf⟩ := ho3.cells
   have x0 : w3.cell? ⟨BX, 0, none⟩ = some (.slice none 0 0) := by simp [World.cell?, ho3.box]
   have xf0 := xf 0
   have HNOD4 := gI (ho3.nod.keep hk4 (fun g hg hm => by simp at hm; have := ho3.n1 g hg; omega))
   have HRD4 := gI (ho3.rd.keep hk4 (fun g hg hm => by simp at hm; have := ho3.n2 g hg; omega))
   have HR4 := gI (hR.keep hk4 (by simp; omega))
   have HK4 := gI (show Keeps [BX] w w4 from ((HK2.out.trans hk3).mono (by simp)).trans hk4)
   have HKZ4 := gI (show Keeps [BX] Z w4 from (HO2.out.kp.trans (hk3.mono (by simp))).trans hk4)
   have HN1 := gI (show ∀ g, a1 = some g → BX < g ∧ g < w2.heap.size from fun g hg => ⟨by have := ho3.n1 g hg; have := HO1.out.lt; omega, by have h1 := HO2.out.nod; rw [hg] at h1; exact h1.lt⟩)
   have HN2 := gI (show ∀ g, a2 = some g → g ≠ BX ∧ a1 ≠ some g from fun g hg => ⟨by have := ho3.n2 g hg; omega, fun h => ho3.ne g h hg⟩)
   have HSZ4 := gI (show BX < w2.heap.size ∧ w2.heap.size ≤ w4.heap.size ∧ w.heap.size ≤ B ∧ B + 1 < BX from ⟨by omega, by have h1 := hk3.size; have h2 := hk4.size; omega, by have := HB.out; omega, hBXB⟩)
   have b0 := hk4.cell b0 (by simp; omega)
   have b1 := hk4.cell b1 (by simp; omega)
   have b2 := hk4.cell b2 (by simp; omega)
   have HW4 := gI hw4
   have HX4 := gI hx4
   have HJ := gI (And.intro hj1 hj2)
   have HBX2 := gI (show BX ≠ B ∧ BX ≠ B + 1 by omega)
   clear hk3 hk30 ho3 hltw2 hltx hw4 hk4 hx4 xf hj1 hj2 hR hBXB
   go_upto_region 31 with fail
   rw [← HW4.out]
   clear x0 xf0
   have hx4 := HX4.out
   have x1 : w4.cell? ⟨BX, 1, none⟩ = some (.slice (a1.map fun g => ⟨g, 0, none⟩) nl.length c1) := by simp [World.cell?, hx4]
   clear hx4
   have hfewN : nl.length ≤ 63 := hfew
   go_wp2_with (at_builtin; refine wpList_append_sl rfl (.tmp 75) (.tmp 77) 22 rfl 3 ii _ 1 8 Tryz.underlying22 HII.out HIZ.out HIS.out HIB.out rfl (by decide) a1 nl.length c1 (nl.map (Value.int .i64)) rfl (HNOD4.out.alloc _) ⟨w4.heap.size, 0, none⟩ 1 1 [.int .i64 dn] rfl rfl (news_row' _ _ _ _ rfl) (int_one _) (by decide) (by omega) (by omega) ?hk5)
   case hk5 =>
    intro g5 c5 w5 hs5 hk5 hg5
    have hnl : nodes.length = nl.length + 1 := by rw [← HENO.out]; simp
    have HS5 := gI (show SliceAt w5 3 1 (some g5) nodes.length c5 (nodes.map (Value.int .i64)) from by
     rw [hnl, ← HENO.out, List.map_append]
     exact hs5)
    have hsz4 := HSZ4.out
    have hn1 := HN1.out
    have hbx2 := HBX2.out
    have hnB : ∀ x, x ≤ BX → x ∉ a1.toList := fun x hx hm => by have := (hn1 x (by simpa using hm)).1; omega
    have hx5 := hk5.heap ((Keeps.a1 w4 (.cells #[.int .i64 dn] 3)).heap HX4.out (by simp)) (hnB BX (Nat.le_refl _))
    have y1 : w5.cell? ⟨BX, 1, none⟩ = some (.slice (a1.map fun g => ⟨g, 0, none⟩) nl.length c1) := by simp [World.cell?, hx5]
    have yf : w5.frozen? ⟨BX, 1, none⟩ = false := by simp [World.frozen?, hx5]
    obtain ⟨w6, hw6⟩ : ∃ w6, w6 = w5.setCell ⟨BX, 1, none⟩ (.slice (some ⟨g5, 0, none⟩) (nl.length + 1) c5) := ⟨_, rfl⟩
    have hk6 : Keeps [BX] w5 w6 := by rw [hw6]; exact (Keeps.refl [BX] w5).setCell (by simp) _
    have hx6 : w6.heap[BX]? = some (.cells #[.slice (a3.map fun g => ⟨g, 0, none⟩) R.length c3, .slice (some ⟨g5, 0, none⟩) nodes.length c5, .slice none 0 0, .slice none 0 0] 89 (0, 0)) := by
     rw [hw6, heap_setCell_same _ BX 1 _ _ _ hx5, hnl]
     simp
    have hg5b : BX < g5 ∧ w2.heap.size ≤ w5.heap.size := by
     have h1 := hk5.size
     simp only [World.size_alloc] at h1 hg5
     rcases hg5 with e | e
     ·exact ⟨(hn1 g5 e).1, by omega⟩
     ·exact ⟨by omega, by omega⟩
    have hka : Keeps a1.toList w4 w5 := ((Keeps.a1 w4 (.cells #[.int .i64 dn] 3)).mono (by simp)).trans hk5
    have HS6 := gI (HS5.out.keep hk6 (fun g hg hm => by cases hg; simp at hm; omega))
    have HR6 := gI ((HR4.out.keep hka (fun x hx => (hn1 x (by simpa using hx)).2)).keep hk6 (by simp; omega))
    have HRD6 := gI ((HRD4.out.keep hka (fun g hg hm => (HN2.out g hg).2 (by simpa using hm))).keep hk6 (fun g hg hm => (HN2.out g hg).1 (by simpa using hm)))
    have c0 := hk6.cell (hka.cell b0 (hnB B (by omega))) (by simp; omega)
    have c1_ := hk6.cell (hka.cell b1 (hnB B (by omega))) (by simp; omega)
    have c2_ := hk6.cell (hka.cell b2 (hnB B (by omega))) (by simp; omega)
    have HK6 := gI (show Keeps [BX] w w6 from (HK4.out.after hka (fun x hx => .inr (by have := (hn1 x (by simpa using hx)).1; omega))).trans hk6)
    have HKZ6 := gI (show Keeps [BX] Z w6 from (HKZ4.out.after hka (fun x hx => .inr (HO2.out.n1 x (by simpa using hx)))).trans hk6)
    have HW6 := gI hw6
    have HX6 := gI hx6
    have HNL2 := gI hnl
    have HSZ6 := gI (show BX < w6.heap.size ∧ g5 < w6.heap.size from ⟨lt_of_block hx6, HS6.out.lt⟩)
    have HG5 := gI hg5b
    have HCN := counter_any p nodes (some ⟨g5, 0, none⟩) c5 C w6 hlen
    simp only [Pg.val, HIA.out, HRUN.out] at HCN
    have HCN := gI HCN
    clear hs5 hk5 hg5 hsz4 hn1 hbx2 hnB hx5 hw6 hk6 hx6 hka hnl hg5b b0 b1 b2 x1
    go_upto_region 32 with fail
    rw [← HW6.out]
    clear y1 yf
    have hx6 := HX6.out
    have y1 : w6.cell? ⟨BX, 1, none⟩ = some (.slice (some ⟨g5, 0, none⟩) nodes.length c5) := by simp [World.cell?, hx6]
    clear hx6
    go_wp2_with (go_at_call 55; refine HCN.out.mono ?_)
    rintro e w7 ⟨p5, p3, p2, p6, kb, W00, rfl, hk00, hrow, hcel, hns, hps⟩
    have hpos : 0 < p.ins.length := List.length_pos_iff.2 HPRE.out.ok.ne
    have hk67 := hk00.trans hns.kp
    have HP0 := gI (HPW.out.keep (show Keeps [] w W00 from (show Keeps [] w w6 from HK6.out.after (Keeps.refl [] w6) (by simp) |>.mono (fun x hx => .inr (by simp at hx; subst hx; have h1 := HSZ4.out; omega))).trans hk00))
    have HNI := gI ((HS6.out.keep hk00 (by simp)).to_in)
    have HC0 := count_any HP0.out hrow HPRE.out.ends hcel HNI.out HPRE.out.isC (ρ 0 + 1) 0 w7 _ hpos (Nat.lt_succ_self _) hns
    unfold cntC at HC0
    have HC0 := gI HC0
    have HNS7 := gI hns
    have HROW := gI hrow
    have HCEL := gI hcel
    have HK00 := gI hk00
    have HPS := gI hps
    have HK67 := gI hk67
    unfold cntC
    clear hk00 hrow hcel hns hps hk67 c0 c1_ c2_ y1
    have hlC : (C 0).length = nodes.length := HPRE.out.isC.len 0 hpos
    have hlS : nodes.length ≤ 1000000 := HPRE.out.isC.small
    have hlP : 0 < nodes.length := HPRE.out.isC.pos
    go_wp2_with fail
    refine Calls.mono HC0.out ?_
    rintro e w8 ⟨g8, c8, sl8, rfl, hs8, hgk8, hk8, hns8, hsg8, hfr8⟩
    have HCL := cloneI_any (some ⟨g8, 0, none⟩) c8 (C 0) w8 (by have h := hs8; rw [← hlC] at h; exact h.to_in) (by simp) (by omega)
    rw [hlC] at HCL
    have HCL := gI HCL
    have HX8 := gI (hk8.heap (HK67.out.heap HX6.out (by simp)) (by simp; have h1 := HNS7.out.nm.2.2; have h2 := HK00.out.size; have h3 := HSZ6.out; omega))
    have HK8 := gI hk8
    have HNS8 := gI hns8
    have HFR8 := gI hfr8
    have HLC := gI hlC
    clear hs8 hgk8 hk8 hns8 hsg8 hfr8 hlC
    go_wp2_with fail
    refine Calls.mono HCL.out ?_
    rintro e w9 ⟨af0, cf, rfl, hs9, hk9, hg9⟩
    obtain ⟨af, rfl⟩ : ∃ af, af0 = some af := by
     cases af0 with
     | none => have := hs9.2.1; omega
     | some g => exact ⟨g, rfl⟩
    simp only [sv, Option.map_some]
    have hx9 := hk9.heap HX8.out (by simp)
    have y2 : w9.cell? ⟨BX, 2, none⟩ = some (.slice none 0 0) := by simp [World.cell?, hx9]
    have yf2 : w9.frozen? ⟨BX, 2, none⟩ = false := by simp [World.frozen?, hx9]
    obtain ⟨w10, hw10⟩ : ∃ w10, w10 = w9.setCell ⟨BX, 2, none⟩ (.slice (some ⟨af, 0, none⟩) nodes.length cf) := ⟨_, rfl⟩
    have hk10 : Keeps [BX] w9 w10 := by rw [hw10]; exact (Keeps.refl [BX] w9).setCell (by simp) _
    have hx10 : w10.heap[BX]? = some (.cells #[.slice (a3.map fun g => ⟨g, 0, none⟩) R.length c3, .slice (some ⟨g5, 0, none⟩) nodes.length c5, .slice (some ⟨af, 0, none⟩) nodes.length cf, .slice none 0 0] 89 (0, 0)) := by
     rw [hw10, heap_setCell_same _ BX 2 _ _ _ hx9]
     simp
    have hbs := HSZ6.out
    have hps := HPS.out
    have hs00 := HK00.out.size
    have hs07 := HNS7.out.kp.size
    have hs78 := HK8.out.size
    have hs89 := hk9.size
    have hs90 := hk10.size
    have hkbw := HNS7.out.nm.2.2
    have hg9' := hg9 af rfl
    have hp5lt : p5 < w7.heap.size := World.block_lt_of_cell? _ _ HNS7.out.c5
    have hp6lt : p6 < w7.heap.size := World.block_lt_of_cell? _ _ HNS7.out.c6
    have hkblt : kb < w7.heap.size := lt_of_block HNS7.out.row
    have hE : O3E w6 W00 w10 BX p5 p3 p2 p6 kb af := ⟨hbs.1, hs00, by omega, hps, hkbw, ⟨by omega, by omega, by omega, by have := hs9.lt; omega⟩, by omega, by omega⟩
    have hsl8 : ∀ i, i < p.ins.length → ∀ g, (sl8 i).1 = some g → w7.heap.size ≤ g ∧ g < w8.heap.size := fun i hi g hg => ⟨by
     rcases HFR8.out i hi g hg with e | e
     ·cases e
     ·exact e, (HNS8.out.sls i hi g hg).1.lt⟩
    have hns10 := (HNS8.out.keep hk9).now hk10 ((HK00.out.heap HX6.out (by simp))) hx10 (by omega) (by omega) (fun i hi h => by have := hsl8 i hi _ h; omega)
    have HO3 : O3 w6 W00 w10 BX p.ins.length nodes.length C p5 p3 p2 p6 kb (.slice (a3.map fun g => ⟨g, 0, none⟩) R.length c3) (.slice (some ⟨g5, 0, none⟩) nodes.length c5) (.slice (some ⟨af, 0, none⟩) nodes.length cf) af cf [] none 0 w10 := by
     refine ⟨(((HK67.out.mono (by simp)).after HK8.out (fun x hx => .inr (by simp at hx; subst hx; omega))).trans (hk9.mono (by simp))).trans hk10, Nat.le_refl _, hx10, ⟨_, sl8, (Keeps.refl [BX] W00).setRow (by simp) _, by simp [World.setRow], hns10, fun i hi g hg => ⟨(fun h => by cases h), by have := hsl8 i hi g hg; omega, by have := hsl8 i hi g hg; omega⟩⟩, SliceAt.nil _ _ _, (fun g h => by cases h), ?_⟩
     have h := hs9.keep hk10 (fun g hg hm => by cases hg; simp at hm; omega)
     rw [HLC.out]
     exact h
    have HO3 := gI HO3
    have HE3 := gI hE
    have HW10 := gI hw10
    clear hs9 hk9 hg9 hx9 hw10 hk10 hx10 hbs hps hs00 hs07 hs78 hs89 hs90 hkbw hg9' hp5lt hp6lt hkblt hE hsl8 hns10
    go_upto_region 34 with fail
    rw [← HW10.out]
    clear y2 yf2
    obtain ⟨cls, hcls⟩ : ∃ cls, cls = clR R := ⟨_, rfl⟩
    have HCLS := gI hcls
    have HRL2 := gI (show cls.length = R.length by rw [hcls]; simp [clR])
    have HSPL2 := gI (show ∃ j, SplitAt 255 (endsK 255 rl rl.length) j ∧ cls.map Cl.sp = (splitN 255 (endsK 255 rl rl.length) j).out from ⟨j, HJ.out.1, by rw [hcls, ← HJ.out.2]; simp [clR, Function.comp_def]⟩)
    have HED := gI (HPRE.out.edges cls HSPL2.out)
    have hrlI : rl.length ≤ 63 := by have := HRLL.out; omega
    clear hcls
    go_wp2
    go_loopw [90] (fun v90 wr => ∃ (k : Nat) (r : List E4) (ae : Option Nat) (ce : Nat), v90 = .int .i64 k ∧ k ≤ rl.length ∧ r = ofE cls rl nodes C k ∧ O3 w6 W00 w10 BX p.ins.length nodes.length C p5 p3 p2 p6 kb (.slice (a3.map fun g => ⟨g, 0, none⟩) R.length c3) (.slice (some ⟨g5, 0, none⟩) nodes.length c5) (.slice (some ⟨af, 0, none⟩) nodes.length cf) af cf r ae ce wr) (fun v90 _ => rl.length - (intOf v90).toNat)
    case atStart => exact ⟨0, [], none, 0, rfl, Nat.zero_le _, rfl, HO3.out⟩
    case round =>
     obtain ⟨k, r, ae, ce, rfl, hk, hr, ho4⟩ := hrel
     obtain ⟨wB, hwB⟩ : ∃ wB : World, wB = wr := ⟨_, rfl⟩
     subst hwB
     have HO4 := gI ho4
     have HRR := gI hr
     by_cases hkl : k < rl.length
     ·obtain ⟨g2, rfl⟩ : ∃ g, a2 = some g := by
       cases a2 with
       | none => have := HRD6.out.2.1; omega
       | some g => exact ⟨g, rfl⟩
      simp only [Option.map_some]
      have s0 := (HRD6.out.keep ho4.kp (fun g hg hm => by cases hg; exact (HN2.out g2 rfl).1 (by simpa using hm))).cell k (by simpa using hkl)
      rw [List.getElem_map] at s0
      obtain ⟨W01, sl, hW, hWs, hns, hap⟩ := ho4.ns
      have hknl : k < nl.length := by have := HRLL.out; omega
      obtain ⟨n, hn1, hn2, hn3, hn4⟩ := rdN_mem (ins := p.ins) (k := p.ins.length) (v := nl[k]) ((show ∀ L : List Int, nl = L → nl[k] ∈ L by rintro L rfl; exact List.getElem_mem hknl) _ HNL.out)
      have hnk : nodes[k]'(by have := HNL2.out; omega) = (n : Int) := by
       rw [← hn1]
       simp only [← HENO.out]
       rw [List.getElem_append_left hknl]
      have hn1m : n + 1 < p.ins.length := by
       rcases Nat.lt_or_ge (n + 1) p.ins.length with h | h
       ·exact h
       ·have h1 := HPRE.out.ok.last hpos
        have e1 : n = p.ins.length - 1 := by omega
        subst e1
        omega
      have HEX := gI (show BX < w6.heap.size ∧ g5 < w6.heap.size ∧ w6.heap.size ≤ W00.heap.size ∧ W00.heap.size ≤ kb ∧ W00.heap.size ≤ w10.heap.size from ⟨HSZ6.out.1, HSZ6.out.2, HE3.out.w0, HE3.out.kb0, HE3.out.wc⟩)
      have hWk : Keeps [] w W01 := by
       have h1 : Keeps [BX] w W01 := (HK6.out.trans (HK00.out.mono (by simp))).trans hW
       exact h1.mono (fun x hx => .inr (by simp at hx; subst hx; have := HSZ4.out; omega))
      have hCn : (C (n + 1)).length = nodes.length := HPRE.out.isC.len (n + 1) hn1m
      have hcnt := count_any (HPW.out.keep hWk) (hW.heap HROW.out (by simp; have h1 := HPS.out; have h2 := HEX.out; omega)) HPRE.out.ends (hW.cell HCEL.out (by simp; have h1 := HPS.out; have h2 := HEX.out; omega)) (((HS6.out.keep HK00.out (by simp)).keep hW (fun g hg hm => by cases hg; simp at hm; have := HG5.out; omega)).to_in) HPRE.out.isC (ρ (n + 1) + 1) (n + 1) wB.drew sl hn1m (Nat.lt_succ_self _) (hns.keep ((Keeps.refl [] wB).drew))
      unfold cntC at hcnt
      have HCNT := gI (show Calls Tryz.prog 90 #[.int .i64 ((n + 1 : Nat) : Int), .pointer (some ⟨p5, 0, none⟩), .pointer (some ⟨p3, 0, none⟩), .pointer (some ⟨p2, 0, none⟩), .pointer (some ⟨p6, 0, none⟩)] wB.drew _ from hcnt)
      obtain ⟨k6a, k6b, k6c⟩ := ho4.kp.now HX6.out ho4.box
      obtain ⟨W6, hW6⟩ : ∃ W6, W6 = w6.setRow BX #[.slice (a3.map fun g => ⟨g, 0, none⟩) R.length c3, .slice (some ⟨g5, 0, none⟩) nodes.length c5, .slice (some ⟨af, 0, none⟩) nodes.length cf, .slice (ae.map fun g => ⟨g, 0, none⟩) r.length ce] := ⟨_, rfl⟩
      rw [← hW6] at k6a k6b k6c
      have hcl6 := clR_cls (HR6.out.keep k6b (by simp; have := HSZ4.out; omega))
      rw [← HCLS.out] at hcl6
      have hk6w : Keeps [] w W6 := by
       have h1 : Keeps [BX] w W6 := HK6.out.trans k6b
       exact h1.mono (fun x hx => .inr (by simp at hx; subst hx; have := HSZ4.out; omega))
      obtain ⟨re, hre⟩ : ∃ re, re = edgesQ cls rl[k].sp k (C (n + 1)) r nodes.length := ⟨_, rfl⟩
      have HRE := gI (show re = ofE cls rl nodes C (k + 1) by
       rw [hre]
       show _ = edgesQ cls (rl.getD k ⟨none, 0, []⟩).sp (k : Int) (C ((nodes.getD k 0).toNat + 1)) (ofE cls rl nodes C k) nodes.length
       rw [← HRR.out, show rl.getD k ⟨none, 0, []⟩ = rl[k] by simp [List.getD_eq_getElem?_getD, hkl], show (nodes.getD k 0).toNat = n by
        rw [List.getD_eq_getElem?_getD, List.getElem?_eq_getElem (by have := HNL2.out; omega), Option.getD_some, hnk]
        exact Int.toNat_natCast n])
      have hset := HSD.out rl[k] (List.getElem_mem hkl)
      obtain ⟨ks, hks⟩ : ∃ ks, ks = rl[k] := ⟨_, rfl⟩
      rw [← hks] at s0 hset hre
      obtain ⟨sa, sc, sp⟩ := ks
      simp only [clV] at s0
      simp only at hset hre
      have HEDG := gI (show ∀ w11, Keeps [kb] wB.drew w11 → ∀ g11 c11, SliceAt w11 3 1 (some g11) nodes.length c11 ((C (n + 1)).map (Value.int .i64)) → ae ≠ some g11 → Calls Tryz.prog 57 #[.slice (ae.map fun g => ⟨g, 0, none⟩) r.length ce, .slice (a3.map fun g => ⟨g, 0, none⟩) R.length c3, .slice sa sp.length sc, .int .i64 k, .slice (some ⟨g11, 0, none⟩) nodes.length c11] w11 fun e w' =>
        ∃ a' c', e = .returned (.slice (a'.map fun g => ⟨g, 0, none⟩) re.length c') ∧ SliceAt w' 125 4 a' re.length c' (flatE re) ∧ Keeps ae.toList w11 w' ∧ ∀ q, a' = some q → ae = some q ∨ w11.heap.size ≤ q from fun w11 hk11 g11 c11 hs11 hne => by
       have h := edges_any (cc := c3) (sc := sc) (fr := k) hcl6.1 (fun k hk => ⟨hcl6.2 k hk, (HED.out.2.1 k hk).1, by have := (HED.out.2.1 k hk).2; omega⟩) ⟨hset.2.keep hk6w, by have := (setE_ok hset.1).1; omega⟩ HED.out.1
        (show Keeps [] W6 w11 from (k6a.drew).after hk11 (fun x hx => .inr (by simp at hx; subst hx; have := HEX.out; omega)))
        (HO4.out.el.drewN 1 |>.keep hk11 (fun g hg hm => by simp at hm; subst hm; have h1 := HO4.out.en _ hg; have h2 := HE3.out.pc; omega)) (by rw [HRR.out]; exact ofE_le cls rl nodes C k) (fun q hq => by have h1 := HO4.out.en q hq; have h2 := HEX.out; omega)
        (by rw [hCn]; exact hs11) (by rw [hCn]; exact HPRE.out.isC.small) hne
       rw [hCn, HRL2.out, ← hre] at h
       exact h)
      have n0 := (HS6.out.keep ho4.kp (fun g hg hm => by cases hg; simp at hm; have := HG5.out; omega)).cell k (by have := HNL2.out; simp; omega)
      rw [List.getElem_map, hnk] at n0
      obtain ⟨d0, d1, d2, d3, df⟩ := ho4.cells
      have HBOX := gI ho4.box
      have HWW := gI (And.intro hW hWs)
      have HAP := gI hap
      have HEL := gI ho4.el
      have HEN := gI ho4.en
      have HO4D := gI ho4.drew
      have HNA := gI (show BX ∉ ae.toList ∧ g5 ∉ ae.toList from ⟨fun hm => by have h1 := ho4.en BX (by simpa using hm); have := HEX.out; omega, fun hm => by have h1 := ho4.en g5 (by simpa using hm); have := HEX.out; omega⟩)
      obtain ⟨n1, hn1e⟩ : ∃ n1, n1 = n + 1 := ⟨_, rfl⟩
      rw [← hn1e] at HCNT HEDG
      have hwr : IntKind.i64.wrap ((n : Int) + 1) = (n1 : Int) := by rw [IntWalk.i64_in _ (by omega), hn1e]; simp
      have HN1E := gI (show n1 = n + 1 ∧ n1 < p.ins.length by omega)
      have HNN := HNL2.out
      have hkn : k < nodes.length := by omega
      clear ho4 hr hW hWs hns hap hWk hcnt k6a k6b k6c hW6 hcl6 hk6w hre hset hks hn1 hn2 hn3 hn4 hnk hCn HNN d2 hn1e hn1m
      go_upto_region 37 with fail
      refine wp_region_held_drew (S := fun w' => (w'.cell? ⟨BX, 0, none⟩ = some (.slice (a3.map fun g => ⟨g, 0, none⟩) R.length c3) ∧ w'.cell? ⟨BX, 1, none⟩ = some (.slice (some ⟨g5, 0, none⟩) nodes.length c5)) ∧ w'.cell? ⟨g5, k, none⟩ = some (.int .i64 n)) (by kernel_rfl) ⟨⟨d0, d1⟩, n0⟩ (fun hHeld => ?_)
      have nk : wB.drew.cell? ⟨g5, k, none⟩ = some (.int .i64 n) := n0
      have d0 : wB.drew.cell? ⟨BX, 0, none⟩ = some (.slice (a3.map fun g => ⟨g, 0, none⟩) R.length c3) := d0
      have d1 : wB.drew.cell? ⟨BX, 1, none⟩ = some (.slice (some ⟨g5, 0, none⟩) nodes.length c5) := d1
      have d3 : wB.drew.cell? ⟨BX, 3, none⟩ = some (.slice (ae.map fun g => ⟨g, 0, none⟩) r.length ce) := d3
      clear df n0
      refine take_on (i := 0) (v := ?_) rfl (by kernel_rfl) (by kernel_rfl) (by kernel_rfl) (fun _ _ _ h => h) (by rfl) (by assumption) ?_ ?_
      rotate_left
      ·((intro w hSw; (try dsimp only at hSw); go_simp <;> with_reducible rfl); done)
      try simp only [Act.put, List.setIfInBounds_toArray, List.set_cons_zero, List.set_cons_succ]
      refine take_on (i := 2) (v := ?_) rfl (by kernel_rfl) (by kernel_rfl) (by kernel_rfl) (fun _ _ _ h => h) (by rfl) (by assumption) ?_ ?_
      rotate_left
      ·((intro w hSw; (try dsimp only at hSw); go_simp <;> with_reducible rfl); done)
      try simp only [Act.put, List.setIfInBounds_toArray, List.set_cons_zero, List.set_cons_succ]
      refine take_on (i := 3) (v := ?_) rfl (by kernel_rfl) (by kernel_rfl) (by kernel_rfl) (fun _ _ _ h => h) (by rfl) (by assumption) ?_ ?_
      rotate_left
      ·((intro w hSw; (try dsimp only at hSw); go_simp <;> with_reducible rfl); done)
      try simp only [Act.put, List.setIfInBounds_toArray, List.set_cons_zero, List.set_cons_succ]
      refine take_on (i := 4) (v := ?_) rfl (by kernel_rfl) (by kernel_rfl) (by kernel_rfl) (fun _ _ _ h => h) (by rfl) (by assumption) ?_ ?_
      rotate_left
      ·((intro w hSw; (try dsimp only at hSw); go_simp <;> with_reducible rfl); done)
      try simp only [Act.put, List.setIfInBounds_toArray, List.set_cons_zero, List.set_cons_succ]
      refine take_on (i := 5) (v := ?_) rfl (by kernel_rfl) (by kernel_rfl) (by kernel_rfl) (fun _ _ _ h => h) (by rfl) (by assumption) ?_ ?_
      rotate_left
      ·((intro w hSw; (try dsimp only at hSw); go_simp <;> with_reducible rfl); done)
      try simp only [Act.put, List.setIfInBounds_toArray, List.set_cons_zero, List.set_cons_succ]
      refine take_on (i := 6) (v := ?_) rfl (by kernel_rfl) (by kernel_rfl) (by kernel_rfl) (fun _ _ _ h => h) (by rfl) (by assumption) ?_ ?_
      rotate_left
      ·((intro w hSw; (try dsimp only at hSw); go_simp <;> with_reducible rfl); done)
      try simp only [Act.put, List.setIfInBounds_toArray, List.set_cons_zero, List.set_cons_succ]
      refine take_on (i := 7) (v := ?_) rfl (by kernel_rfl) (by kernel_rfl) (by kernel_rfl) (fun _ _ _ h => h) (by rfl) (by assumption) ?_ ?_
      rotate_left
      ·((intro w hSw; (try dsimp only at hSw); go_simp <;> with_reducible rfl); done)
      try simp only [Act.put, List.setIfInBounds_toArray, List.set_cons_zero, List.set_cons_succ]
      refine take_on (i := 8) (v := ?_) rfl (by kernel_rfl) (by kernel_rfl) (by kernel_rfl) (fun _ _ _ h => h) (by rfl) (by assumption) ?_ ?_
      rotate_left
      ·((intro w hSw; (try dsimp only at hSw); go_simp <;> with_reducible rfl); done)
      try simp only [Act.put, List.setIfInBounds_toArray, List.set_cons_zero, List.set_cons_succ]
      refine take_on (i := 9) (v := ?_) rfl (by kernel_rfl) (by kernel_rfl) (by kernel_rfl) (fun _ _ _ h => h) (by rfl) (by assumption) ?_ ?_
      rotate_left
      ·((intro w hSw; (try dsimp only at hSw); go_simp <;> with_reducible rfl); done)
      try simp only [Act.put, List.setIfInBounds_toArray, List.set_cons_zero, List.set_cons_succ]
      refine take_on (i := 10) (v := ?_) rfl (by kernel_rfl) (by kernel_rfl) (by kernel_rfl) (fun _ _ _ h => h) (by rfl) (by assumption) ?_ ?_
      rotate_left
      ·((intro w hSw; (try dsimp only at hSw); go_simp <;> with_reducible rfl); done)
      try simp only [Act.put, List.setIfInBounds_toArray, List.set_cons_zero, List.set_cons_succ]
      refine take_on (i := 11) (v := ?_) rfl (by kernel_rfl) (by kernel_rfl) (by kernel_rfl) (fun _ _ _ h => h) (by rfl) (by assumption) ?_ ?_
      rotate_left
      ·((intro w hSw; (try dsimp only at hSw); go_simp <;> with_reducible rfl); done)
      try simp only [Act.put, List.setIfInBounds_toArray, List.set_cons_zero, List.set_cons_succ]
      refine take_on (i := 12) (v := ?_) rfl (by kernel_rfl) (by kernel_rfl) (by kernel_rfl) (fun _ _ _ h => h) (by rfl) (by assumption) ?_ ?_
      rotate_left
      ·((intro w hSw; (try dsimp only at hSw); go_simp <;> with_reducible rfl); done)
      try simp only [Act.put, List.setIfInBounds_toArray, List.set_cons_zero, List.set_cons_succ]
      refine branch_two (i := 1) (j := 13) rfl rfl (by kernel_rfl) (by rfl) (by rfl) (fun K hK => ?_) (fun K hK => ?_)
      ·go_simp
       refine hK.out _ _ (⟨⟨d0, d1⟩, nk⟩) (fun hHeld => ?_)
       clear hK K
       try simp only [Act.put, List.setIfInBounds_toArray, List.set_cons_zero, List.set_cons_succ]
       refine branch_one (i := 13) rfl (by kernel_rfl) (by rfl) (fun K hK => ?_)
       go_simp
       with_reducible refine Calls.mono HCNT.out ?_
       rintro e w11 ⟨g11, c11, sl11, rfl, hs11, hgk11, hk11, hns11, hsg11, hfr11⟩
       have hB11 : BX ∉ [kb] := by simp; have := HEX.out; omega
       have hG11 : g5 ∉ [kb] := by simp; have := HEX.out; omega
       have d0 := hk11.cell d0 hB11
       have d1 := hk11.cell d1 hB11
       have d3 := hk11.cell d3 hB11
       have nk := hk11.cell nk hG11
       refine hK.out _ _ (⟨⟨d0, d1⟩, nk⟩) (fun hHeld => ?_)
       clear hK K
       try simp only [Act.put, List.setIfInBounds_toArray, List.set_cons_zero, List.set_cons_succ]
       have HEDG2 := gI (HEDG.out w11 hk11 g11 c11 hs11 (by
        rcases hfr11 n1 (by have := HN1E.out; omega) g11 hsg11 with e | e
        ·exact (HAP.out n1 (by have := HN1E.out; omega) g11 e).1
        ·intro h; have h1 := HEL.out; rw [h] at h1; have h2 := h1.lt; have h3 : wB.drew.heap.size = wB.heap.size := rfl; omega))
       have HK11 := gI hk11
       have HNS11 := gI hns11
       have HFR11 := gI hfr11
       have HB11 := gI (hk11.heap (show wB.drew.heap[BX]? = _ from HBOX.out) hB11)
       clear hs11 hgk11 hk11 hns11 hsg11 hfr11 d3
       refine branch_one (i := 14) rfl (by kernel_rfl) (by rfl) (fun K hK => ?_)
       go_simp
       with_reducible refine Calls.mono HEDG2.out ?_
       rintro e w12 ⟨a12, c12, rfl, hs12, hk12, hf12⟩
       have d0 := hk12.cell d0 HNA.out.1
       have d1 := hk12.cell d1 HNA.out.1
       have nk := hk12.cell nk HNA.out.2
       refine hK.out _ _ (⟨⟨d0, d1⟩, nk⟩) (fun hHeld => ?_)
       clear hK K
       try simp only [Act.put, List.setIfInBounds_toArray, List.set_cons_zero, List.set_cons_succ]
       have hb12 := hk12.heap HB11.out HNA.out.1
       have d3 : w12.cell? ⟨BX, 3, none⟩ = some (.slice (ae.map fun g => ⟨g, 0, none⟩) r.length ce) := by simp [World.cell?, hb12]
       have df : w12.frozen? ⟨BX, 3, none⟩ = false := by simp [World.frozen?, hb12]
       have HO5 := gI (O3.next HE3.out HO4D.out HWW.out.1 HWW.out.2 HAP.out HK11.out HNS11.out HFR11.out hk12 hs12 hf12)
       have nk' := ((Keeps.refl [BX] w12).setCell (p := ⟨BX, 3, none⟩) (by simp) (.slice (a12.map fun g => ⟨g, 0, none⟩) re.length c12)).cell nk (by simp; have := HG5.out; omega)
       obtain ⟨e0, e1, _, _, _⟩ := HO5.out.cells
       clear hs12 hk12 hf12 hb12
       refine take_on (i := 15) (v := ?_) rfl (by kernel_rfl) (by kernel_rfl) (by kernel_rfl) (fun _ _ _ h => h) (by rfl) (by assumption) ?_ ?_
       rotate_left
       ·((intro w hSw; (try dsimp only at hSw); go_simp <;> with_reducible rfl); done)
       try simp only [Act.put, List.setIfInBounds_toArray, List.set_cons_zero, List.set_cons_succ]
       refine branch_one (i := 16) rfl (by kernel_rfl) (by rfl) (fun K hK => ?_)
       go_simp
       refine hK.out _ _ (⟨⟨e0, e1⟩, nk'⟩) (fun hHeld => ?_)
       clear hK K
       try simp only [Act.put, List.setIfInBounds_toArray, List.set_cons_zero, List.set_cons_succ]
       refine wpAnyH_done (by kernel_rfl) ?_ _
       clear e0 e1 d0 d1 nk d3 df
       go_wp2
       go_roundw
       case rel => exact ⟨k + 1, re, a12, c12, by go_num, hkl, HRE.out, HO5.out⟩
       case measure => simp [intOf]; omega
      ·go_simp
       with_reducible refine Calls.mono HCNT.out ?_
       rintro e w11 ⟨g11, c11, sl11, rfl, hs11, hgk11, hk11, hns11, hsg11, hfr11⟩
       have hB11 : BX ∉ [kb] := by simp; have := HEX.out; omega
       have hG11 : g5 ∉ [kb] := by simp; have := HEX.out; omega
       have d0 := hk11.cell d0 hB11
       have d1 := hk11.cell d1 hB11
       have d3 := hk11.cell d3 hB11
       have nk := hk11.cell nk hG11
       refine hK.out _ _ (⟨⟨d0, d1⟩, nk⟩) (fun hHeld => ?_)
       clear hK K
       try simp only [Act.put, List.setIfInBounds_toArray, List.set_cons_zero, List.set_cons_succ]
       refine branch_one (i := 1) rfl (by kernel_rfl) (by rfl) (fun K hK => ?_)
       go_simp
       refine hK.out _ _ (⟨⟨d0, d1⟩, nk⟩) (fun hHeld => ?_)
       clear hK K
       try simp only [Act.put, List.setIfInBounds_toArray, List.set_cons_zero, List.set_cons_succ]
       have HEDG2 := gI (HEDG.out w11 hk11 g11 c11 hs11 (by
        rcases hfr11 n1 (by have := HN1E.out; omega) g11 hsg11 with e | e
        ·exact (HAP.out n1 (by have := HN1E.out; omega) g11 e).1
        ·intro h; have h1 := HEL.out; rw [h] at h1; have h2 := h1.lt; have h3 : wB.drew.heap.size = wB.heap.size := rfl; omega))
       have HK11 := gI hk11
       have HNS11 := gI hns11
       have HFR11 := gI hfr11
       have HB11 := gI (hk11.heap (show wB.drew.heap[BX]? = _ from HBOX.out) hB11)
       clear hs11 hgk11 hk11 hns11 hsg11 hfr11 d3
       refine branch_one (i := 14) rfl (by kernel_rfl) (by rfl) (fun K hK => ?_)
       go_simp
       with_reducible refine Calls.mono HEDG2.out ?_
       rintro e w12 ⟨a12, c12, rfl, hs12, hk12, hf12⟩
       have d0 := hk12.cell d0 HNA.out.1
       have d1 := hk12.cell d1 HNA.out.1
       have nk := hk12.cell nk HNA.out.2
       refine hK.out _ _ (⟨⟨d0, d1⟩, nk⟩) (fun hHeld => ?_)
       clear hK K
       try simp only [Act.put, List.setIfInBounds_toArray, List.set_cons_zero, List.set_cons_succ]
       have hb12 := hk12.heap HB11.out HNA.out.1
       have d3 : w12.cell? ⟨BX, 3, none⟩ = some (.slice (ae.map fun g => ⟨g, 0, none⟩) r.length ce) := by simp [World.cell?, hb12]
       have df : w12.frozen? ⟨BX, 3, none⟩ = false := by simp [World.frozen?, hb12]
       have HO5 := gI (O3.next HE3.out HO4D.out HWW.out.1 HWW.out.2 HAP.out HK11.out HNS11.out HFR11.out hk12 hs12 hf12)
       have nk' := ((Keeps.refl [BX] w12).setCell (p := ⟨BX, 3, none⟩) (by simp) (.slice (a12.map fun g => ⟨g, 0, none⟩) re.length c12)).cell nk (by simp; have := HG5.out; omega)
       obtain ⟨e0, e1, _, _, _⟩ := HO5.out.cells
       clear hs12 hk12 hf12 hb12
       refine take_on (i := 15) (v := ?_) rfl (by kernel_rfl) (by kernel_rfl) (by kernel_rfl) (fun _ _ _ h => h) (by rfl) (by assumption) ?_ ?_
       rotate_left
       ·((intro w hSw; (try dsimp only at hSw); go_simp <;> with_reducible rfl); done)
       try simp only [Act.put, List.setIfInBounds_toArray, List.set_cons_zero, List.set_cons_succ]
       refine branch_one (i := 16) rfl (by kernel_rfl) (by rfl) (fun K hK => ?_)
       go_simp
       refine hK.out _ _ (⟨⟨e0, e1⟩, nk'⟩) (fun hHeld => ?_)
       clear hK K
       try simp only [Act.put, List.setIfInBounds_toArray, List.set_cons_zero, List.set_cons_succ]
       refine wpAnyH_done (by kernel_rfl) ?_ _
       clear e0 e1 d0 d1 nk d3 df
       go_wp2
       go_roundw
       case rel => exact ⟨k + 1, re, a12, c12, by go_num, hkl, HRE.out, HO5.out⟩
       case measure => simp [intOf]; omega
     ·obtain rfl : k = rl.length := by omega
      have hEw := HED.out.2.2
      rw [← HRR.out] at hEw
      obtain ⟨d0, d1, d2, d3, df⟩ := ho4.cells
      have HBOX := gI ho4.box
      have HB1 := gI (show wB.heap[B + 1]? = some (.cells #[.slice none 0 0, .slice none 0 0, .slice none 0 0, .slice none 0 0] 89 (0, 0)) from (HKZ6.out.trans ho4.kp).heap HRZ.out (by simp; have := HBX2.out; omega))
      have HFST := gI ho4.fst
      have HEL := gI ho4.el
      have HKB := gI ho4.kp
      have HEW := gI hEw.2
      have HFW := gI HPRE.out.first
      have hEw := hEw.1
      have hEwI : ¬ (65536 : Int) < r.length := by omega
      clear hr ho4
      obtain ⟨F, hF⟩ : ∃ F, F = wB.heap.size := ⟨_, rfl⟩
      obtain ⟨w13, hw13⟩ : ∃ w13, w13 = wB.alloc (.cells #[.func (.func 58) #[] #[]] 121) := ⟨_, rfl⟩
      go_upto_region 40 with fail
      have hk13 : Keeps [] wB w13 := by rw [hw13]; exact Keeps.a1 _ _
      have hf13 : w13.cell? ⟨F, 0, none⟩ = some (.func (.func 58) #[] #[]) := by
       have h : w13.heap[F]? = some (.cells #[.func (.func 58) #[] #[]] 121 (0, 0)) := by rw [hw13, hF]; exact heap_alloc_new _ _
       simp [World.cell?, h]
      rw [← hw13, ← hF]
      have d2 := hk13.cell d2 (by simp)
      have d3 := hk13.cell d3 (by simp)
      have HCI1 := containsI_any 58 #[] (C 0) (some af) cf (fun _ W => Keeps [] w13 W) w13 (entersA_of Tryz.func58 (by kernel_rfl) rfl) (by rw [HLC.out]; exact HPRE.out.isC.small) (Keeps.refl [] w13) (fun k W hj => (HFST.out.keep hk13 (by simp)).keep hj (by simp)) (fun k hk W hj => by
       refine (tooMany_any _ W (HFW.out _ (List.getElem_mem hk))).mono ?_
       rintro e W' ⟨rfl, rfl⟩
       exact ⟨rfl, hj⟩)
      simp only [Option.map_some, HLC.out] at HCI1
      have HCI1 := gI HCI1
      have HK13 := gI hk13
      have HF13 := gI hf13
      clear d0 d1 df hF hw13 hk13
      go_wp2_with fail
      refine Calls.mono HCI1.out ?_
      rintro e w14 ⟨rfl, hk14⟩
      have d2 := hk14.cell d2 (by simp)
      have d3 := hk14.cell d3 (by simp)
      have hf13 := hk14.cell hf13 (by simp)
      have HK14 := gI (HK13.out.trans hk14)
      have HCE1 := containsE_any 61 #[.pointer (some ⟨F, 0, none⟩)] r (ae.map fun g => ⟨g, 0, none⟩) ce (fun _ W => Keeps [] w14 W) w14 (entersA_of Tryz.func61 (by kernel_rfl) rfl) (by omega) (Keeps.refl [] w14) (fun k W hj => (((HEL.out.keep HK14.out (by simp)).keep hj (by simp))).edIn rfl) (fun k hk W hj => by
       refine (tooManyE_any _ F W (hj.cell hf13 (by simp)) (HEW.out _ (List.getElem_mem hk))).mono ?_
       rintro e W' ⟨rfl, hkW⟩
       exact ⟨rfl, hj.trans hkW⟩)
      have HCE1 := gI HCE1
      clear hk14
      go_wp2_with fail
      refine Calls.mono HCE1.out ?_
      rintro e w15 ⟨rfl, hk15⟩
      have HK15 := gI (HK14.out.trans hk15)
      have hbox := HK15.out.heap HBOX.out (by simp)
      have hb1 := HK15.out.heap HB1.out (by simp)
      have d0 : w15.cell? ⟨BX, 0, none⟩ = some (.slice (a3.map fun g => ⟨g, 0, none⟩) R.length c3) := by simp [World.cell?, hbox]
      have d1 : w15.cell? ⟨BX, 1, none⟩ = some (.slice (some ⟨g5, 0, none⟩) nodes.length c5) := by simp [World.cell?, hbox]
      have d2 : w15.cell? ⟨BX, 2, none⟩ = some (.slice (some ⟨af, 0, none⟩) nodes.length cf) := by simp [World.cell?, hbox]
      have d3 : w15.cell? ⟨BX, 3, none⟩ = some (.slice (ae.map fun g => ⟨g, 0, none⟩) r.length ce) := by simp [World.cell?, hbox]
      have r0 : w15.cell? ⟨B + 1, 0, none⟩ = some (.slice none 0 0) := by simp [World.cell?, hb1]
      have r1 : w15.cell? ⟨B + 1, 1, none⟩ = some (.slice none 0 0) := by simp [World.cell?, hb1]
      have r2 : w15.cell? ⟨B + 1, 2, none⟩ = some (.slice none 0 0) := by simp [World.cell?, hb1]
      have r3 : w15.cell? ⟨B + 1, 3, none⟩ = some (.slice none 0 0) := by simp [World.cell?, hb1]
      have rf0 : w15.frozen? ⟨B + 1, 0, none⟩ = false := by simp [World.frozen?, hb1]
      have rf1 : w15.frozen? ⟨B + 1, 1, none⟩ = false := by simp [World.frozen?, hb1]
      have rf2 : w15.frozen? ⟨B + 1, 2, none⟩ = false := by simp [World.frozen?, hb1]
      have rf3 : w15.frozen? ⟨B + 1, 3, none⟩ = false := by simp [World.frozen?, hb1]
      have HB15 := gI hb1
      clear hk15 hbox hb1 hf13
      go_wp2
      obtain ⟨w16, hw16⟩ : ∃ w16, w16 = (((w15.setCell ⟨B + 1, 0, none⟩ (.slice (a3.map fun g => ⟨g, 0, none⟩) R.length c3)).setCell ⟨B + 1, 1, none⟩ (.slice (some ⟨g5, 0, none⟩) nodes.length c5)).setCell ⟨B + 1, 2, none⟩ (.slice (some ⟨af, 0, none⟩) nodes.length cf)).setCell ⟨B + 1, 3, none⟩ (.slice (ae.map fun g => ⟨g, 0, none⟩) r.length ce) := ⟨_, rfl⟩
      have hk16 : Keeps [B + 1] w15 w16 := by
       rw [hw16]
       exact ((((Keeps.refl [B + 1] w15).setCell (by simp) _).setCell (by simp) _).setCell (by simp) _).setCell (by simp) _
      have hr16 : w16.heap[B + 1]? = some (.cells #[.slice (a3.map fun g => ⟨g, 0, none⟩) R.length c3, .slice (some ⟨g5, 0, none⟩) nodes.length c5, .slice (some ⟨af, 0, none⟩) nodes.length cf, .slice (ae.map fun g => ⟨g, 0, none⟩) r.length ce] 89 (0, 0)) := by
       have q0 := heap_setCell_same w15 (B + 1) 0 _ _ (.slice (a3.map fun g => ⟨g, 0, none⟩) R.length c3) HB15.out
       have q1 := heap_setCell_same _ (B + 1) 1 _ _ (.slice (some ⟨g5, 0, none⟩) nodes.length c5) q0
       have q2 := heap_setCell_same _ (B + 1) 2 _ _ (.slice (some ⟨af, 0, none⟩) nodes.length cf) q1
       have q3 := heap_setCell_same _ (B + 1) 3 _ _ (.slice (ae.map fun g => ⟨g, 0, none⟩) r.length ce) q2
       rw [hw16]
       refine Eq.trans q3 ?_
       simp
      have HR16 := gI hr16
      rw [← hw16]
      have hsz := HSZ4.out
      have hbx2 := HBX2.out
      have hs6 := HSZ6.out
      have hg5 := HG5.out
      have hE3 := HE3.out
      have hE3w := HE3.out.w0
      have hE3c := HE3.out.wc
      have kB16 : Keeps [B + 1] wB w16 := (HK15.out.mono (by simp)).trans hk16
      have k616 : Keeps [BX, B + 1] w6 w16 := (HKB.out.mono (by simp)).trans (kB16.mono (by simp))
      have kw : Keeps [] w w16 := by
       have h1 : Keeps [BX, B + 1] w w16 := (HK6.out.mono (by simp)).trans k616
       exact h1.mono (fun x hx => .inr (by simp at hx; omega))
      have hcls16 := clR_cls (HR6.out.keep k616 (fun x hx => by simp at hx; omega))
      rw [← HCLS.out] at hcls16
      have hx : ∃ x : Gr, (Value.agg #[.slice (a3.map fun g => ⟨g, 0, none⟩) R.length c3, .slice (some ⟨g5, 0, none⟩) nodes.length c5, .slice (some ⟨af, 0, none⟩) nodes.length cf, .slice (ae.map fun g => ⟨g, 0, none⟩) r.length ce]) = x.val ∧ GrIn w16 x ∧ x.cls = cls ∧ x.nodes = nodes ∧ x.first = C 0 ∧ x.edges = r := by
       refine ⟨⟨a3.map fun g => ⟨g, 0, none⟩, c3, cls, some ⟨g5, 0, none⟩, c5, nodes, some ⟨af, 0, none⟩, cf, C 0, ae.map fun g => ⟨g, 0, none⟩, ce, r⟩, by simp only [Gr.val, HRL2.out, HLC.out], ⟨hcls16.1, hcls16.2, ?_, ?_, ?_, ?_, ?_, ?_, ?_, ?_⟩, rfl, rfl, rfl, rfl⟩
       ·exact (HS6.out.keep k616 (fun g hg hm => by cases hg; simp at hm; omega)).to_in
       ·exact (HFST.out.keep kB16 (fun g hg hm => by cases hg; simp at hm; have := hE3.af0; omega)).to_in
       ·exact (HEL.out.keep kB16 (fun g hg hm => by simp at hm; subst hm; have := HO4.out.en _ hg; omega)).edIn rfl
       ·have := HED.out.1; simp only; omega
       ·simp only; omega
       ·simp only; rw [HLC.out]; omega
       ·simp only; omega
       ·intro k hk; have := (HED.out.2.1 k hk).2; omega
      have HX := gI hx
      have HKW2 := gI kw
      clear hw16 hk16 hr16 kB16 k616 kw hcls16 hx hsz hbx2 hs6 hg5 hE3 hE3w hE3c d0 d1 d2 d3 r0 r1 r2 r3 rf0 rf1 rf2 rf3
      refine bodyPost_ret (res_row_tmp rfl _ _ (B + 1) 89 #[.slice (a3.map fun g => ⟨g, 0, none⟩) R.length c3, .slice (some ⟨g5, 0, none⟩) nodes.length c5, .slice (some ⟨af, 0, none⟩) nodes.length cf, .slice (ae.map fun g => ⟨g, 0, none⟩) r.length ce] (0, 0) _ rfl HR16.out Tryz.underlying89 rfl sizeGr) rfl ?_
      rw [HQ.out]
      obtain ⟨x, h1, h2, h3, h4, h5, h6⟩ := HX.out
      refine ⟨HKW2.out, x, by rw [← h1]; rfl, h2, ?_, h4, h5, ?_⟩
      ·rw [h3]; exact HSPL2.out
      ·rw [h3, h6, HRR.out]
end Go.Proofs.YtkekenaamnhbhaaGreat
