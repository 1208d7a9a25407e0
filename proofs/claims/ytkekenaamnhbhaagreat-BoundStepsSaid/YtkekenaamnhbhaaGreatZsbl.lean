/- Part 38 of the proof. No condition: every lemma says its own. -/
import Derived.Test.YtkekenaamnhbhaaGreatZsbk
namespace Go.Proofs.YtkekenaamnhbhaaGreat
open Go.RowKit Go.Sort Go.BigFrame
set_option maxRecDepth 100000
set_option maxHeartbeats 16000000
theorem spIn_tail {w : World} {ys : List Tri} {b off n c : Nat} (h : SpIn w (some ⟨b, off, none⟩) (es2 (ys.drop n))) (hc : ys.length - n ≤ c) : SpIn w (if c = 1 then some ⟨b, off, none⟩ else some ⟨b, off + 2, none⟩) (es2 (ys.drop (n + 1))) := by
 intro h0
 have h1 : n + 1 < ys.length := by simp [es2] at h0; omega
 rw [if_neg (by omega)]
 obtain ⟨b', off', e, hcc⟩ := h (by simp [es2]; omega)
 cases e
 refine ⟨b, off + 2, rfl, fun i hi => ?_⟩
 have hi2 : i < (ys.drop (n + 1)).length := by simpa [es2] using hi
 rw [List.length_drop] at hi2
 have h2 := hcc (i + 1) (by simp [es2]; omega)
 have e1 : (es2 (ys.drop n))[i + 1]'(by simp [es2]; omega) = (es2 (ys.drop (n + 1)))[i] := by
  simp only [es2, List.getElem_map, List.getElem_drop]
  have e2 : n + (i + 1) = n + 1 + i := by omega
  simp only [e2]
 rw [e1] at h2
 rw [show off + 2 + i * 2 = off + (i + 1) * 2 by omega]
 exact h2
theorem infoSpl : (Tryz.prog.info? 52).map (fun i => (i.zero, i.size, i.bytes)) = some (some (.slice none 0 0), 1, 24) := by kernel_rfl
theorem mask16 {m : List Nat} (h : MaskOK m) : ∃ y0 y1 y2 y3 y4 y5 y6 y7 y8 y9 y10 y11 y12 y13 y14 y15, m = [y0, y1, y2, y3, y4, y5, y6, y7, y8, y9, y10, y11, y12, y13, y14, y15] := by
 obtain ⟨hl, _⟩ := h
 match m, hl with
 | [y0, y1, y2, y3, y4, y5, y6, y7, y8, y9, y10, y11, y12, y13, y14, y15], _ => exact ⟨_, _, _, _, _, _, _, _, _, _, _, _, _, _, _, _, rfl⟩
theorem split_any {W0 : World} {ca : Option Addr} {cc : Nat} {cls : List Cl} {top : Int} (hset : SetsOK W0 ca cls) (hv : ∀ k ∈ cls, setE k.sp = 0) (hcn : cls.length ≤ 1024) (ht0 : 0 ≤ top) (ht : top ≤ 1114111) (h12 : (endsK top cls cls.length).length ≤ 12) :
  Calls Tryz.prog 54 #[.slice ca cls.length cc, .int .i64 top] W0 fun e w' =>
   ∃ (j : Nat) (a : Option Nat) (c : Nat) (R : List Row), e = .returned (.tuple #[.slice (a.map fun g => ⟨g, 0, none⟩) R.length c, .int .i64 0]) ∧ SplitAt top (endsK top cls cls.length) j ∧ R.map Row.sp = (splitN top (endsK top cls cls.length) j).out ∧ RowsAt W0 w' a c R ∧ Keeps [] W0 w' := by
 obtain ⟨ib, hib, hiz, his, hiy⟩ := infoParts infoSpl
 have HIB := gI hib
 have HIZ := gI hiz
 have HIS := gI his
 have HIY := gI hiy
 clear hib hiz his hiy
 have HSET := gI hset
 have HV := gI hv
 have H12 := gI h12
 have HES := gI (endsK_sets hset top)
 have HMM : ∀ W : World, (Instr.makeMap 153 none).run Tryz.prog W = .ok (.map (some W.heap.size)) (W.alloc (.map #[] 0)) := fun W => run_makeMap _ W
 clear hset hv h12
 go_enter Tryz.func54, Tryz.ntmps54
 go_wp2
 go_loopw [19] (fun v19 wr => ∃ k : Nat, v19 = .int .i64 k ∧ k ≤ cls.length ∧ Keeps [] W0 wr) (fun v19 _ => cls.length - (intOf v19).toNat)
 case atStart => exact ⟨0, rfl, Nat.zero_le _, Keeps.refl _ _⟩
 case round =>
  obtain ⟨k, rfl, hkl, hk⟩ := hrel
  obtain ⟨wA, hwA⟩ : ∃ wA : World, wA = wr := ⟨_, rfl⟩
  subst hwA
  have HK := gI hk
  by_cases hlt : k < cls.length
  ·obtain ⟨cb, coff, rfl, hcc⟩ := (HSET.out.at_.keep hk) (by omega)
   have e0 := hcc k hlt
   obtain ⟨hs1, hs2, hs3⟩ := HSET.out.sp cls[k] (List.getElem_mem hlt)
   have HVA := gI (setE_any (cls[k]).a (cls[k]).c (cls[k]).sp wA (hs1.keep hk) (by omega))
   rw [HV.out _ (List.getElem_mem hlt)] at HVA
   obtain ⟨sp, hsp⟩ : ∃ s, s = (cls[k]).sp := ⟨_, rfl⟩
   obtain ⟨spa, hspa⟩ : ∃ s, s = (cls[k]).a := ⟨_, rfl⟩
   obtain ⟨spc, hspc⟩ : ∃ s, s = (cls[k]).c := ⟨_, rfl⟩
   rw [← hsp, ← hspa, ← hspc] at e0 HVA
   clear hk hcc hs1 hs2 hs3 hsp hspa hspc
   go_wp2_with (go_at_call 87; refine HVA.out.mono ?_)
   rintro e w2 ⟨rfl, hk2⟩
   have HK2 := gI (HK.out.trans hk2)
   clear hk2 e0
   go_wp2
   go_roundw
   case rel => exact ⟨k + 1, by go_num, hlt, HK2.out⟩
   case measure => simp [intOf]; omega
  ·obtain rfl : cls.length = k := by omega
   clear hk
   go_wp2_with (go_at_call 88; refine (endsOf_any (HSET.out.keep HK.out) ht H12.out).mono ?_)
   rintro e w1 ⟨ys, ga, ce, rfl, he1, he2, he3⟩
   have HE1 := gI he1
   have HP := gI he2
   have HD := gI he3
   have HYL := gI (show ys.length ≤ 12 by rw [he2.length_eq]; exact H12.out)
   have HYS := gI (show ∀ e ∈ ys, 0 ≤ e.2.1 ∧ e.2.1 < cls.length ∧ e.1 ≤ top from fun e he => HES.out e (he2.mem_iff.1 he))
   have HK1 := gI (HK.out.trans he1.2.1)
   have HYT := gI (show ∀ e ∈ ys, e.1 ≤ top from fun e he => (HES.out e (he2.mem_iff.1 he)).2.2)
   have HS0 := gI (show ∀ e ∈ ys, 0 ≤ e.1 from fun e he => (endsK_small HSET.out ht e (he2.mem_iff.1 he)).1)
   have hyl := HYL.out
   unfold sv
   have HSP := gI he1.spIn
   have HCE := gI (show ys.length - 0 ≤ ce by
    have h := he1.1
    cases ga with
    | none => have := h.2.1; omega
    | some g => obtain ⟨_, cur, _, h3, _⟩ := h; omega)
   have HGB := gI (show ∀ g, ga = some g → g < w1.heap.size from fun g hg => by subst hg; exact he1.1.lt)
   have hgt : ¬ top < 0 := by omega
   have hgu : ¬ 1114111 < top := by omega
   clear he1 he2 he3 HE1
   go_wp2
   obtain ⟨W1, hW1⟩ : ∃ W1, W1 = (w1.alloc (.cells #[.int .u64 0, .int .u64 0, .int .u64 0, .int .u64 0, .int .u64 0, .int .u64 0, .int .u64 0, .int .u64 0, .int .u64 0, .int .u64 0, .int .u64 0, .int .u64 0, .int .u64 0, .int .u64 0, .int .u64 0, .int .u64 0] 152)).alloc (.map #[] 0) := ⟨_, rfl⟩
   obtain ⟨B, hB⟩ : ∃ B, B = w1.heap.size := ⟨_, rfl⟩
   obtain ⟨mb, hmb⟩ : ∃ mb, mb = B + 1 := ⟨_, rfl⟩
   have HMK := gI (show MaskAt W1 B zeroM by rw [hW1, hB]; exact ((Keeps.refl [] _).alloc _).heap (heap_alloc_new w1 _) (by simp))
   have HMP := gI (show MapAt W1 Tryz.prog 152 mb 0 (fun _ => none) by
    have h := MapAt.made (w1.alloc (.cells #[.int .u64 0, .int .u64 0, .int .u64 0, .int .u64 0, .int .u64 0, .int .u64 0, .int .u64 0, .int .u64 0, .int .u64 0, .int .u64 0, .int .u64 0, .int .u64 0, .int .u64 0, .int .u64 0, .int .u64 0, .int .u64 0] 152)) Tryz.prog 152
    rw [hW1, hmb, hB]
    simpa using h)
   have HK2 := gI (show Keeps [] w1 W1 by rw [hW1]; exact ((Keeps.refl [] w1).alloc _).alloc _)
   have HSP1 := gI (HSP.out.keep HK2.out)
   have HPB := gI (show ∀ q, (ga.map fun g => (⟨g, 0, none⟩ : Addr)) = some q → q.block ∉ [B, mb] ∧ q.block < W1.heap.size from fun q hq => by
    cases ga with
    | none => cases hq
    | some g => cases hq; have := HGB.out g rfl; exact ⟨by simp; omega, by have := HK2.out.size; show g < _; omega⟩)
   have HBM := gI (show B < W1.heap.size ∧ mb < W1.heap.size ∧ B ≠ mb by rw [hW1, hmb, hB]; simp; omega)
   have HB0 := gI (show ∀ x ∈ [B, mb], W0.heap.size ≤ x from fun x hx => by
    have h := HK1.out.size
    rw [hmb, hB] at hx
    simp at hx
    omega)
   have HR0 := gI (show ∀ (w : World) a c R, RowsAt W1 w a c R → RowsAt W0 w a c R from fun w a c R h => by
    have h1 := (HK1.out.trans HK2.out).size
    exact ⟨h.out, h.row, fun g hg => by have := h.new g hg; omega, fun i hi g hg => ⟨by have := (h.own i hi g hg).1; omega, (h.own i hi g hg).2⟩, h.dis⟩)
   rw [← hW1, ← hB, ← hmb]
   clear hW1 hB hmb HGB
   go_loopw [9, 12, 13] (fun v9 v12 v13 wr => ∃ (j n : Nat) (s : SS) (R : List Row) (a : Option Nat) (c : Nat) (gm : Value → Option Value) (p : Option Addr) (cE : Nat), v9 = .slice p (ys.length - n) cE ∧ ys.length - n ≤ cE ∧ v12 = .slice (a.map fun g => ⟨g, 0, none⟩) R.length c ∧ v13 = .int .i64 s.at_ ∧ SplI ys top W1 wr B mb j n s R a c gm ∧ SpIn wr p (es2 (ys.drop n)) ∧ (∀ q, p = some q → q.block ∉ [B, mb] ∧ q.block < W1.heap.size)) (fun _ _ v13 _ => (top + 1 - intOf v13).toNat)
   case atStart =>
    refine ⟨0, 0, splitN top ys 0, [], none, 0, fun _ => none, ga.map fun g => ⟨g, 0, none⟩, ce, rfl, HCE.out, rfl, rfl, ⟨rfl, rfl, rfl, fun m hm => by simp [splitN] at hm, Int.le_refl _, by show (0 : Int) ≤ _; omega, Nat.zero_le _, by omega, fun e he => by simp at he, fun e he => ?_, .inl rfl, fun h => absurd h (by omega), HMK.out, HMP.out, fun m hm => rfl, RowsAt.start _, Keeps.refl _ _, Nat.zero_le _, (fun r hr => by simp at hr), fun i hi => absurd hi (Nat.not_lt_zero _)⟩, HSP1.out, HPB.out⟩
    exact HS0.out e (by simpa using he)
   case round =>
    obtain ⟨j, n, s, R, a, c, gm, p, cE, rfl, hce, rfl, rfl, hS, hsp, hpb⟩ := hrel
    obtain ⟨wB, hwB⟩ : ∃ wB : World, wB = wr := ⟨_, rfl⟩
    subst hwB
    have HS := gI hS
    have HP2 := gI hsp
    have HPB2 := gI hpb
    clear hS hsp hpb
    by_cases hat : s.at_ ≤ top
    ·obtain ⟨sa, hsa⟩ : ∃ sa, sa = s.at_ := ⟨_, rfl⟩
     rw [← hsa] at hat
     rw [← hsa]
     have HSA := gI hsa
     have HSA2 := gI hsa.symm
     have hsb : 0 ≤ sa := by rw [hsa]; exact HS.out.at0
     have hnl := HS.out.n1
     clear hsa
     go_wp2
     go_loopw [9] (fun v9 wr => ∃ (n' : Nat) (p' : Option Addr) (cE' : Nat), v9 = .slice p' (ys.length - n') cE' ∧ ys.length - n' ≤ cE' ∧ n ≤ n' ∧ n' ≤ ys.length ∧ (∀ e ∈ ys.take n', e.1 ≤ sa) ∧ SpIn wr p' (es2 (ys.drop n')) ∧ (∀ q, p' = some q → q.block ∉ [B, mb] ∧ q.block < W1.heap.size) ∧ MaskAt wr B (maskF (ys.take n') zeroM) ∧ Keeps [B] wB wr) (fun v9 _ => match v9 with | .slice _ m _ => m | _ => 0)
     case atStart => exact ⟨n, p, cE, rfl, hce, Nat.le_refl _, hnl, fun e he => by have := HS.out.low e he; have := HSA.out; omega, HP2.out, HPB2.out, HS.out.mask, Keeps.refl _ _⟩
     case round =>
      obtain ⟨n', p', cE', rfl, hcc, hn1, hn2, hlo, hsp, hpb, hmk, hkp⟩ := hrel
      obtain ⟨wC, hwC⟩ : ∃ wC : World, wC = wr := ⟨_, rfl⟩
      subst hwC
      have HLO := gI hlo
      have HSP3 := gI hsp
      have HPB3 := gI hpb
      have HMK3 := gI hmk
      have HKP3 := gI hkp
      by_cases hlt : n' < ys.length
      ·obtain ⟨b, off, rfl, hc⟩ := hsp (by simp [es2]; omega)
       obtain ⟨c0, c1⟩ := hc 0 (by simp [es2]; omega)
       have hbB : b ≠ B := fun h => (hpb _ rfl).1 (by simp [h])
       simp only [es2, List.getElem_map, List.getElem_drop, Nat.zero_mul, Nat.add_zero] at c0 c1
       have HYE := gI (HYS.out ys[n'] (List.getElem_mem hlt))
       have HTK := gI (List.take_succ_eq_append_getElem hlt)
       obtain ⟨ev, hev⟩ : ∃ e, e = (ys[n']).1 := ⟨_, rfl⟩
       obtain ⟨sv', hsv⟩ : ∃ e : Nat, (e : Int) = (ys[n']).2.1 := ⟨((ys[n']).2.1).toNat, by have := HYE.out.1; omega⟩
       have hs1 : sv' < 1024 := by have := HYE.out.2.1; omega
       rw [← hev] at c0
       rw [← hsv] at c1
       obtain ⟨len, hlen⟩ : ∃ len, ys.length - n' = len + 1 := ⟨ys.length - n' - 1, by omega⟩
       have hlen12 : len ≤ 12 := by omega
       have HLEN := gI hlen
       rw [hlen] at hcc ⊢
       have hmo : MaskOK (maskF (ys.take n') zeroM) := maskF_ok _ zeroM_ok
       obtain ⟨qs, hqs⟩ : ∃ q, q = sv' / 64 := ⟨_, rfl⟩
       obtain ⟨rs, hrs⟩ : ∃ r, r = sv' % 64 := ⟨_, rfl⟩
       have hq16 : qs < 16 := by omega
       have hr64 : rs < 64 := by omega
       have m0 := hmk.cell qs (by rw [hmo.1]; exact hq16)
       have f0 := hmk.fz qs
       have hxb : (maskF (ys.take n') zeroM).getD qs 0 < 2 ^ 64 := hmo.2 _ (by rw [List.getD_eq_getElem?_getD, List.getElem?_eq_getElem (by rw [hmo.1]; exact hq16)]; simp)
       obtain ⟨x, hx⟩ : ∃ x, x = (maskF (ys.take n') zeroM).getD qs 0 := ⟨_, rfl⟩
       rw [← hx] at m0 hxb
       have hdq : Int.tdiv (sv' : Int) 64 = (qs : Int) := by rw [Int.tdiv_eq_ediv_of_nonneg (by omega)]; omega
       have hmr : Int.tmod (sv' : Int) 64 = (rs : Int) := by rw [Int.tmod_eq_emod_of_nonneg (by omega)]; omega
       have hsh : IntKind.u64.wrap ((2 : Int) ^ rs) = ((2 ^ rs : Nat) : Int) := by
        have := u64_nat (2 ^ rs) (two_pow_lt hr64)
        rw [← this]; norm_cast
       have hxo := xor_u64 x (2 ^ rs) hxb (two_pow_lt hr64)
       have HTG := gI (show MaskAt (wC.setCell ⟨B, qs, none⟩ (.int .u64 (bits BinOp.xor IntKind.u64 (x : Int) (2 ^ rs)))) B (maskF (ys.take (n' + 1)) zeroM) by
        have h := hmk.set qs (x ^^^ 2 ^ rs)
        rw [HTK.out, maskF, List.foldl_append, List.foldl_cons, List.foldl_nil]
        show MaskAt _ _ (tog (maskF (ys.take n') zeroM) (ys[n']).2.1.toNat)
        rw [← hsv, Int.toNat_natCast, tog, ← hqs, ← hrs, ← hx]
        rw [← hxo, show ((2 ^ rs : Nat) : Int) = (2 : Int) ^ rs by norm_cast] at h
        exact h)
       have hdq2 : (sv' : Int) / 64 = (qs : Int) := by omega
       have hmr2 : (sv' : Int) % 64 = (rs : Int) := by omega
       clear hlo hsp hpb hmk hkp hc hlen hmo hqs hrs hx hsv
       have HEV := gI hev
       clear hev
       by_cases hes : ev = sa
       ·have HES2 := gI hes
        clear hes
        obtain rfl := HES2.out
        go_upto_region 19 with fail
        go_region
        have HW := gI (show Keeps [B] wC (wC.setCell ⟨B, qs, none⟩ (.int .u64 (bits BinOp.xor IntKind.u64 (x : Int) (2 ^ rs)))).drew from (((Keeps.refl [B] wC).setCell (p := ⟨B, qs, none⟩) (by simp) _)).drew)
        have HTG2 := gI (HTG.out.keep ((Keeps.refl [] _).drew) (by simp))
        clear HTG m0 f0 hxo hsh
        generalize (wC.setCell ⟨B, qs, none⟩ (.int .u64 (bits BinOp.xor IntKind.u64 (x : Int) (2 ^ rs)))).drew = wD at *
        go_wp2
        go_roundw
        case rel =>
         have hl := HLEN.out
         refine ⟨n' + 1, (if cE' = 1 then some ⟨b, off, none⟩ else some ⟨b, off + 2, none⟩), cE' - 1, by rw [show ys.length - (n' + 1) = len by omega], by omega, by omega, by omega, ?_, spIn_tail (HSP3.out.keepS HW.out (fun q hq hm => (HPB3.out q hq).1 (by simp at hm; simp [hm]))) (by omega), ?_, HTG2.out, HKP3.out.trans HW.out⟩
         ·intro e he
          rw [HTK.out, List.mem_append] at he
          rcases he with he | he
          ·exact HLO.out e he
          ·simp at he; subst he; exact Int.le_of_eq HEV.out.symm
         ·intro q hq
          have hb := HPB3.out _ rfl
          split at hq <;> cases hq <;> exact hb
        case measure => simp only []; have := HLEN.out; omega
       ·have hev0 : sa ≤ ev := by
         rw [HEV.out, ← HSA2.out]
         exact HS.out.high _ (by rw [List.mem_drop_iff_getElem]; exact ⟨n' - n, by omega, by congr 1; omega⟩)
        have hev1 : ev ≤ top := by rw [HEV.out]; exact HYE.out.2.2
        have HCUT := gI (show CutAt ys s.at_ n' from ⟨by omega, fun e he => by rw [HSA2.out]; exact HLO.out e he, fun e he => by
          obtain ⟨i, hi, rfl⟩ := List.getElem_of_mem he
          rw [List.getElem_drop, HSA2.out]
          have h1 := ends_le HD.out (p := n') (q := n' + i) (by omega) (by simp at hi; omega)
          rw [← HEV.out] at h1
          omega⟩)
        have HNX := gI (show nextE top ys s.at_ = (ev - 1) + 1 by
          rw [HCUT.out.next HD.out HYT.out, dif_pos hlt, ← HEV.out]; omega)
        have HN1 := gI hn1
        have HAT := gI (show s.at_ ≤ top by rw [HSA2.out]; exact hat)
        have HCC := gI (show ys.length - n' ≤ cE' by rw [HLEN.out]; exact hcc)
        obtain ⟨y0, y1, y2, y3, y4, y5, y6, y7, y8, y9, y10, y11, y12, y13, y14, y15, hy⟩ := mask16 (maskF_ok (ys.take n') zeroM_ok)
        have k0 : wC.cell? ⟨B, 0, none⟩ = some (.int .u64 y0) := by have h := HMK3.out.cell 0 (by rw [hy]; simp); rw [hy] at h; exact h
        have k1 : wC.cell? ⟨B, 1, none⟩ = some (.int .u64 y1) := by have h := HMK3.out.cell 1 (by rw [hy]; simp); rw [hy] at h; exact h
        have k2 : wC.cell? ⟨B, 2, none⟩ = some (.int .u64 y2) := by have h := HMK3.out.cell 2 (by rw [hy]; simp); rw [hy] at h; exact h
        have k3 : wC.cell? ⟨B, 3, none⟩ = some (.int .u64 y3) := by have h := HMK3.out.cell 3 (by rw [hy]; simp); rw [hy] at h; exact h
        have k4 : wC.cell? ⟨B, 4, none⟩ = some (.int .u64 y4) := by have h := HMK3.out.cell 4 (by rw [hy]; simp); rw [hy] at h; exact h
        have k5 : wC.cell? ⟨B, 5, none⟩ = some (.int .u64 y5) := by have h := HMK3.out.cell 5 (by rw [hy]; simp); rw [hy] at h; exact h
        have k6 : wC.cell? ⟨B, 6, none⟩ = some (.int .u64 y6) := by have h := HMK3.out.cell 6 (by rw [hy]; simp); rw [hy] at h; exact h
        have k7 : wC.cell? ⟨B, 7, none⟩ = some (.int .u64 y7) := by have h := HMK3.out.cell 7 (by rw [hy]; simp); rw [hy] at h; exact h
        have k8 : wC.cell? ⟨B, 8, none⟩ = some (.int .u64 y8) := by have h := HMK3.out.cell 8 (by rw [hy]; simp); rw [hy] at h; exact h
        have k9 : wC.cell? ⟨B, 9, none⟩ = some (.int .u64 y9) := by have h := HMK3.out.cell 9 (by rw [hy]; simp); rw [hy] at h; exact h
        have k10 : wC.cell? ⟨B, 10, none⟩ = some (.int .u64 y10) := by have h := HMK3.out.cell 10 (by rw [hy]; simp); rw [hy] at h; exact h
        have k11 : wC.cell? ⟨B, 11, none⟩ = some (.int .u64 y11) := by have h := HMK3.out.cell 11 (by rw [hy]; simp); rw [hy] at h; exact h
        have k12 : wC.cell? ⟨B, 12, none⟩ = some (.int .u64 y12) := by have h := HMK3.out.cell 12 (by rw [hy]; simp); rw [hy] at h; exact h
        have k13 : wC.cell? ⟨B, 13, none⟩ = some (.int .u64 y13) := by have h := HMK3.out.cell 13 (by rw [hy]; simp); rw [hy] at h; exact h
        have k14 : wC.cell? ⟨B, 14, none⟩ = some (.int .u64 y14) := by have h := HMK3.out.cell 14 (by rw [hy]; simp); rw [hy] at h; exact h
        have k15 : wC.cell? ⟨B, 15, none⟩ = some (.int .u64 y15) := by have h := HMK3.out.cell 15 (by rw [hy]; simp); rw [hy] at h; exact h
        have HMO := gI (maskF_ok (ys.take n') zeroM_ok)
        have HMP3 := gI (HS.out.map.keep HKP3.out (by have := HBM.out.2.2; simp; omega))
        have HRW3 := gI (HS.out.rows.keep HKP3.out (fun x hx => by simp at hx; subst hx; exact HBM.out.1))
        have HKW3 := gI (HS.out.keep.trans (HKP3.out.mono (S' := [B, mb]) (by intro x hx; simp at hx; simp [hx])))
        obtain ⟨mk, hmk2⟩ : ∃ mk, mk = maskF (ys.take n') zeroM := ⟨_, rfl⟩
        rw [← hmk2] at hy HMO
        have hmv : mv mk = .agg #[.int .u64 y0, .int .u64 y1, .int .u64 y2, .int .u64 y3, .int .u64 y4, .int .u64 y5, .int .u64 y6, .int .u64 y7, .int .u64 y8, .int .u64 y9, .int .u64 y10, .int .u64 y11, .int .u64 y12, .int .u64 y13, .int .u64 y14, .int .u64 y15] := by rw [hy]; rfl
        have HMK2 := gI hmk2
        have HMV := gI hmv
        have hj13 : j ≤ 13 := by have h1 := HS.out.jn; have h2 := HS.out.n1; omega
        have hR13 : R.length ≤ 13 := by have := HS.out.many; omega
        clear hmk2
        by_cases hms : mk ∈ s.seen
        ·have HLK : (Instr.lookup 153 (.map (some mb)) (.agg #[.int .u64 y0, .int .u64 y1, .int .u64 y2, .int .u64 y3, .int .u64 y4, .int .u64 y5, .int .u64 y6, .int .u64 y7, .int .u64 y8, .int .u64 y9, .int .u64 y10, .int .u64 y11, .int .u64 y12, .int .u64 y13, .int .u64 y14, .int .u64 y15]) true).run Tryz.prog wC = .ok (.tuple #[.int .i64 (s.seen.idxOf mk : Nat), .bool true]) wC := by
          have h := HMP3.out.look true m16Keyed Tryz.underlying153 (z := .int .i64 0) (by kernel_rfl) (key16 HMO.out)
          rw [HS.out.get mk HMO.out, if_pos hms, hmv] at h
          exact h
         obtain ⟨ix, hix⟩ : ∃ ix, ix = s.seen.idxOf mk := ⟨_, rfl⟩
         rw [← hix] at HLK
         have hixl : ix < R.length := by
          have h1 := List.idxOf_lt_length_of_mem hms
          have h2 := HS.out.seen
          have h3 := congrArg List.length HS.out.row
          simp at h3
          omega
         have HIX := gI hix
         have HMS := gI hms
         obtain ⟨qa, rfl⟩ := SliceAt.some_of HRW3.out.out (by omega)
         have o0 : wC.cell? ⟨qa, ix, none⟩ = some (.slice ((R[ix]).b.map fun g => ⟨g, 0, none⟩) (R[ix]).sp.length (R[ix]).c) := by
          have h := HRW3.out.out.cell ix (by rw [List.length_map]; exact hixl)
          rw [h, List.getElem_map]; rfl
         have HADD := gI (add_any (w := wC) (lo := sa) (hi := (ev - 1)) (HRW3.out.row ix hixl) (by have := (HS.out.long _ (List.getElem_mem hixl)).1; omega) (fun x hx => by have := (HS.out.long _ (List.getElem_mem hixl)).2 x hx; omega))
         have HQ := gI (show ∀ w2 S, Keeps S wC w2 → S = (R[ix]).b.toList → SliceAt w2 52 1 (some qa) R.length c (R.map rowV) from fun w2 S hk hS => HRW3.out.out.keep hk (fun g hg hm => by
          cases hg
          subst hS
          exact (HRW3.out.own ix hixl _ (by simpa using hm)).2 rfl))
         have HLN := gI (show (addS (R[ix]).sp (sa, (ev - 1))).length ≤ 14 by
          have h := addS_long (s := (sa, (ev - 1))) (HS.out.long _ (List.getElem_mem hixl)) ⟨by show 0 ≤ (ev - 1); omega, by show (ev - 1) ≤ top; omega⟩
          omega)
         obtain ⟨r0, hr0⟩ : ∃ r, r = R[ix] := ⟨_, rfl⟩
         rw [← hr0] at o0 HADD HQ HLN
         obtain ⟨rb, hrb⟩ : ∃ r, r = r0.b := ⟨_, rfl⟩
         obtain ⟨rl, hrl⟩ : ∃ r, r = r0.sp.length := ⟨_, rfl⟩
         obtain ⟨rc, hrc⟩ : ∃ r, r = r0.c := ⟨_, rfl⟩
         rw [← hrb, ← hrl, ← hrc] at o0 HADD
         have HR0X := gI hr0
         have HRB := gI hrb
         clear hix hms hmv hr0 hrb hrl hrc
         go_wp2_with (go_at_call 89; refine HADD.out.mono ?_)
         rintro e w2 ⟨b', cb, rfl, hr2, hk2, hf2⟩
         have hq2 := HQ.out _ _ hk2 (by rw [HRB.out])
         have fz2 := hq2.fz ix
         have hl14 := HLN.out
         obtain ⟨rn, hrn⟩ : ∃ r, r = (addS r0.sp (sa, (ev - 1))).length := ⟨_, rfl⟩
         have HRN := gI hrn
         rw [← hrn] at hl14 ⊢
         have HR2 := gI hr2
         have HK2 := gI hk2
         have HF2 := gI hf2
         have c2 : w2.cell? ⟨qa, ix, none⟩ = some ((R.map rowV)[ix]'(by rw [List.length_map]; exact hixl)) := hq2.cell ix (by rw [List.length_map]; exact hixl)
         have hsz := HKW3.out.size
         have hS2 : ∀ x ∈ (qa :: rb.toList), W1.heap.size ≤ x := fun x hx => by
          rw [List.mem_cons] at hx
          rcases hx with rfl | hx
          ·exact HRW3.out.new _ rfl
          ·exact (HRW3.out.own ix hixl x (by rw [← HR0X.out, ← HRB.out]; simpa using hx)).1
         obtain ⟨wE, hwE⟩ : ∃ wE, wE = w2.setCell ⟨qa, ix, none⟩ (.slice (b'.map fun g => ⟨g, 0, none⟩) rn cb) := ⟨_, rfl⟩
         have hkE : Keeps (qa :: rb.toList) wC wE := by
          rw [hwE]
          exact (hk2.mono (by intro x hx; simp at hx ⊢; exact .inl (.inr hx))).setCell (p := ⟨qa, ix, none⟩) (by simp) _
         have HKE := gI hkE
         have HMSE := gI (show MaskAt wE B (maskF (ys.take n') zeroM) from HMK3.out.keep hkE (fun hm => by have := hS2 _ hm; have := HBM.out.1; omega))
         have HMPE := gI (HMP3.out.keep hkE (fun hm => by have := hS2 _ hm; have := HBM.out.2.1; omega))
         have HKWE := gI (HKW3.out.after hkE (fun x hx => .inr (hS2 x hx)))
         have HSPE := gI (show SpIn wE (some ⟨b, off, none⟩) (es2 (ys.drop n')) from HSP3.out.keepS hkE (fun q hq hm => by have := hS2 _ hm; have := (HPB3.out q hq).2; omega))
         have HRWE := gI (show RowsAt W1 wE (some qa) c (R.set ix ⟨b', cb, addS (R[ix]).sp (s.at_, (ev - 1))⟩) by
          have h := HRW3.out.upd (w' := w2) hsz hixl (r := ⟨b', cb, addS (R[ix]).sp (s.at_, (ev - 1))⟩) (by
           rw [← HR0X.out, ← HSA.out]
           exact HR2.out) (by rw [← HR0X.out, ← HRB.out]; exact HK2.out) (by rw [← HR0X.out, ← HRB.out]; exact HF2.out)
          rw [hwE]
          unfold rowV at h
          rw [← HR0X.out, ← HSA.out, ← HRN.out] at h
          rw [← HR0X.out, ← HSA.out]
          exact h)
         have cE2 : wE.cell? ⟨qa, ix, none⟩ = some (.slice (b'.map fun g => ⟨g, 0, none⟩) rn cb) := by
          have h := HRWE.out.out.cell ix (by rw [List.length_map, List.length_set]; exact hixl)
          rw [h, List.getElem_map, List.getElem_set_self]
          unfold rowV
          simp only
          rw [← HSA.out, ← HR0X.out, ← HRN.out]
         clear hr2 hk2 hf2 hq2 hrn o0 hS2 hkE
         go_upto_region 30 with fail
         rw [← hwE]
         clear hwE fz2 c2
         have hRi : ¬ (1024 : Int) < R.length := by omega
         have hrni : ¬ (64 : Int) < rn := by omega
         have hRn : ¬ 1024 < R.length := by omega
         have hrnn : ¬ 64 < rn := by omega
         have HN := gI (HS.out.known HCUT.out HN1.out HD.out HYT.out HAT.out HNX.out HMK2.out HMS.out HIX.out hixl HMSE.out HMPE.out HKWE.out HRWE.out)
         go_wp2
         go_roundw
         case rel => exact ⟨j + 1, n', _, _, some qa, c, gm, some ⟨b, off, none⟩, cE', (by rw [HLEN.out]), (by have := HCC.out; omega), (by rw [List.length_set]; rfl), (by show Value.int .i64 ev = Value.int .i64 (ev - 1 + 1); congr 1; omega), HN.out, HSPE.out, HPB3.out⟩
         case measure => simp [intOf]; omega
        ·have HLK : (Instr.lookup 153 (.map (some mb)) (.agg #[.int .u64 y0, .int .u64 y1, .int .u64 y2, .int .u64 y3, .int .u64 y4, .int .u64 y5, .int .u64 y6, .int .u64 y7, .int .u64 y8, .int .u64 y9, .int .u64 y10, .int .u64 y11, .int .u64 y12, .int .u64 y13, .int .u64 y14, .int .u64 y15]) true).run Tryz.prog wC = .ok (.tuple #[.int .i64 0, .bool false]) wC := by
          have h := HMP3.out.look true m16Keyed Tryz.underlying153 (z := .int .i64 0) (by kernel_rfl) (key16 HMO.out)
          rw [HS.out.get mk HMO.out, if_neg hms, hmv] at h
          exact h
         have HMS := gI hms
         have hsl : s.seen.length = R.length := by
          have h2 := HS.out.seen
          have h3 := congrArg List.length HS.out.row
          simp at h3
          omega
         have HSL := gI hsl
         clear hms hmv hsl
         go_wp2_with (at_mapUpdate; refine wpList_mapPut rfl _ _ _ 153 rfl 152 3 m16Keyed Tryz.underlying153 mb s.seen.length gm rfl HMP3.out (by have := HSL.out; unfold maxLen; omega) (by have h := key16 HMO.out; rw [HMV.out] at h; exact h) ?_)
         intro w2 hm2 hk2
         have HM2 := gI (show MapAt w2 Tryz.prog 152 mb (s.seen.length + 1) (fun u => @ite _ (u = mv mk) (Classical.propDecidable _) (some (.int .i64 R.length)) (gm u)) from by rw [HMV.out]; exact hm2)
         have HRW2 := gI (HRW3.out.keep hk2 (fun x hx => by simp at hx; subst hx; exact HBM.out.2.1))
         have HK2 := gI hk2
         clear hm2 hk2
         go_wp2_with (at_builtin; refine wpList_append_sl rfl (.tmp 95) (.tmp 96) 86 rfl 52 ib _ 1 24 Tryz.underlying86 HIB.out HIZ.out HIS.out HIY.out rfl (by decide) a R.length c (R.map rowV) rfl (HRW2.out.out.alloc _) ⟨w2.heap.size, 0, none⟩ 1 1 [.slice none 0 0] rfl rfl (news_row' _ _ _ _ rfl) (by intro u hu; simp at hu; subst hu; rfl) (by decide) (by omega) (by omega) ?hkf)
         case hkf =>
          intro g6 c6 w6 hs6 hk6 hg6
          have hsz2 : W1.heap.size ≤ w2.heap.size := by have h1 := HKW3.out.size; have h2 := HK2.out.size; omega
          have HAL := gI (Keeps.a1 w2 (.cells #[.slice none 0 0] 52))
          have HRW6 := gI ((HRW2.out.keep HAL.out (by simp)).push (by simp; omega) hs6 hk6 (by simpa using hg6))
          have hnew := HRW2.out.new
          have hkC : Keeps (mb :: a.toList) wC w6 := ((HK2.out.mono (S' := mb :: a.toList) (by intro x hx; simp at hx; simp [hx])).trans (HAL.out.mono (by simp))).trans (hk6.mono (by intro x hx; simp at hx; simp [hx]))
          have HKC := gI hkC
          have HM6 := gI ((HM2.out.keep HAL.out (by simp)).keep hk6 (fun hm => by have := hnew mb (by simpa using hm); have := HBM.out.2.1; omega))
          clear hs6 hk6 hg6 hkC
          have o0 : w6.cell? ⟨g6, R.length, none⟩ = some (.slice none 0 0) := by
           have h := HRW6.out.out.cell R.length (by simp)
           rw [h]
           simp [rowV]
          have HADD := gI (add_any (w := w6) (a := none) (c := 0) (l := []) (lo := sa) (hi := (ev - 1)) (SliceAt.nil _ _ _) (by simp) (fun x hx => by simp at hx))
          rw [addS_nil] at HADD
          simp only [List.length_nil, Option.map_none] at HADD
          have hRi : ¬ (1024 : Int) < (R.length : Int) + 1 := by omega
          have hRn : ¬ 1024 < R.length + 1 := by omega
          go_wp2_with (go_at_call 89; refine HADD.out.mono ?_)
          rintro e w8 ⟨b', cb, rfl, hr2, hk2, hf2⟩
          have hq2 := HRW6.out.out.keep hk2 (by simp)
          have fz2 := hq2.fz R.length
          have c2 := hq2.cell R.length (by simp)
          have HR2 := gI hr2
          have HK8 := gI hk2
          obtain ⟨wE, hwE⟩ : ∃ wE, wE = w8.setCell ⟨g6, R.length, none⟩ (.slice (b'.map fun g => ⟨g, 0, none⟩) 1 cb) := ⟨_, rfl⟩
          have hkE : Keeps (mb :: g6 :: a.toList) wC wE := by
           rw [hwE]
           exact (((HKC.out.mono (S' := mb :: g6 :: a.toList) (by intro x hx; simp at hx ⊢; rcases hx with hx | hx <;> simp [hx])).trans (hk2.mono (by simp))).setCell (p := ⟨g6, R.length, none⟩) (by simp) _)
          have hS2 : ∀ x ∈ (mb :: g6 :: a.toList), x = mb ∨ W1.heap.size ≤ x := fun x hx => by
           simp only [List.mem_cons] at hx
           rcases hx with rfl | rfl | hx
           ·exact .inl rfl
           ·exact .inr (HRW6.out.new _ rfl)
           ·exact .inr (HRW3.out.new x (by simpa using hx))
          have hbm := HBM.out
          have HMSE := gI (show MaskAt wE B (maskF (ys.take n') zeroM) from HMK3.out.keep hkE (fun hm => by rcases hS2 _ hm with h | h <;> omega))
          have HMPE := gI (show MapAt wE Tryz.prog 152 mb (s.seen.length + 1) _ from by
           rw [hwE]
           exact (HM6.out.keep hk2 (by simp)).keep ((Keeps.refl [g6] _).setCell (p := ⟨g6, R.length, none⟩) (by simp) _) (fun hm => by simp at hm; have := HRW6.out.new g6 rfl; omega))
          have HKWE := gI (HKW3.out.after hkE (fun x hx => by rcases hS2 x hx with h | h; exact .inl (by simp [h]); exact .inr h))
          have HSPE := gI (show SpIn wE (some ⟨b, off, none⟩) (es2 (ys.drop n')) from HSP3.out.keepS hkE (fun q hq hm => by
           have h1 := HPB3.out q hq
           rcases hS2 _ hm with h | h
           ·exact h1.1 (by simp [h])
           ·omega))
          have HRWE := gI (show RowsAt W1 wE (some g6) c6 (R ++ [⟨b', cb, addS [] (s.at_, (ev - 1))⟩]) by
           have h := HRW6.out.upd (w' := w8) (by have := HKW3.out.size; have := HKC.out.size; omega) (n := R.length) (by simp) (r := ⟨b', cb, [(sa, (ev - 1))]⟩) HR2.out (by simpa using HK8.out) (fun q hq => (hf2 q hq).elim (fun h => by cases h) .inr)
           rw [List.set_append_right _ _ (Nat.le_refl _), Nat.sub_self] at h
           rw [hwE, HSA2.out]
           exact h)
          have cE2 : wE.cell? ⟨g6, R.length, none⟩ = some (.slice (b'.map fun g => ⟨g, 0, none⟩) 1 cb) := by
           have h := HRWE.out.out.cell R.length (by simp)
           rw [h]
           simp [rowV, addS_nil]
          clear hr2 hk2 hf2 hq2 o0 hkE hS2 hbm
          go_upto_region 30 with fail
          rw [← hwE]
          clear hwE fz2 c2
          have HN := gI (HS.out.fresh HCUT.out HN1.out HD.out HYT.out HAT.out HNX.out HMK2.out HMS.out HMSE.out (fun _ => rfl) HMPE.out HKWE.out HRWE.out)
          go_wp2
          go_roundw
          case rel => exact ⟨j + 1, n', _, _, some g6, c6, _, some ⟨b, off, none⟩, cE', (by rw [HLEN.out]), (by have := HCC.out; omega), (by rw [List.length_append, List.length_singleton]; rfl), (by show Value.int .i64 ev = Value.int .i64 (ev - 1 + 1); congr 1; omega), HN.out, HSPE.out, HPB3.out⟩
          case measure => simp [intOf]; omega
      ·have HCUT := gI (show CutAt ys s.at_ n' from ⟨hn2, fun e he => by rw [HSA2.out]; exact HLO.out e he, fun e he => by rw [List.drop_eq_nil_of_le (by omega)] at he; simp at he⟩)
       have HNX := gI (show nextE top ys s.at_ = top + 1 by rw [HCUT.out.next HD.out HYT.out, dif_neg hlt])
       have HN1 := gI hn1
       have HAT := gI (show s.at_ ≤ top by rw [HSA2.out]; exact hat)
       have HCC := gI (show ys.length - n' ≤ cE' by omega)
       have HLEN := gI (show ys.length - n' = 0 by omega)
       rw [HLEN.out] at hcc ⊢
       clear hlo hsp hpb hmk hkp
       obtain ⟨y0, y1, y2, y3, y4, y5, y6, y7, y8, y9, y10, y11, y12, y13, y14, y15, hy⟩ := mask16 (maskF_ok (ys.take n') zeroM_ok)
       have k0 : wC.cell? ⟨B, 0, none⟩ = some (.int .u64 y0) := by have h := HMK3.out.cell 0 (by rw [hy]; simp); rw [hy] at h; exact h
       have k1 : wC.cell? ⟨B, 1, none⟩ = some (.int .u64 y1) := by have h := HMK3.out.cell 1 (by rw [hy]; simp); rw [hy] at h; exact h
       have k2 : wC.cell? ⟨B, 2, none⟩ = some (.int .u64 y2) := by have h := HMK3.out.cell 2 (by rw [hy]; simp); rw [hy] at h; exact h
       have k3 : wC.cell? ⟨B, 3, none⟩ = some (.int .u64 y3) := by have h := HMK3.out.cell 3 (by rw [hy]; simp); rw [hy] at h; exact h
       have k4 : wC.cell? ⟨B, 4, none⟩ = some (.int .u64 y4) := by have h := HMK3.out.cell 4 (by rw [hy]; simp); rw [hy] at h; exact h
       have k5 : wC.cell? ⟨B, 5, none⟩ = some (.int .u64 y5) := by have h := HMK3.out.cell 5 (by rw [hy]; simp); rw [hy] at h; exact h
       have k6 : wC.cell? ⟨B, 6, none⟩ = some (.int .u64 y6) := by have h := HMK3.out.cell 6 (by rw [hy]; simp); rw [hy] at h; exact h
       have k7 : wC.cell? ⟨B, 7, none⟩ = some (.int .u64 y7) := by have h := HMK3.out.cell 7 (by rw [hy]; simp); rw [hy] at h; exact h
       have k8 : wC.cell? ⟨B, 8, none⟩ = some (.int .u64 y8) := by have h := HMK3.out.cell 8 (by rw [hy]; simp); rw [hy] at h; exact h
       have k9 : wC.cell? ⟨B, 9, none⟩ = some (.int .u64 y9) := by have h := HMK3.out.cell 9 (by rw [hy]; simp); rw [hy] at h; exact h
       have k10 : wC.cell? ⟨B, 10, none⟩ = some (.int .u64 y10) := by have h := HMK3.out.cell 10 (by rw [hy]; simp); rw [hy] at h; exact h
       have k11 : wC.cell? ⟨B, 11, none⟩ = some (.int .u64 y11) := by have h := HMK3.out.cell 11 (by rw [hy]; simp); rw [hy] at h; exact h
       have k12 : wC.cell? ⟨B, 12, none⟩ = some (.int .u64 y12) := by have h := HMK3.out.cell 12 (by rw [hy]; simp); rw [hy] at h; exact h
       have k13 : wC.cell? ⟨B, 13, none⟩ = some (.int .u64 y13) := by have h := HMK3.out.cell 13 (by rw [hy]; simp); rw [hy] at h; exact h
       have k14 : wC.cell? ⟨B, 14, none⟩ = some (.int .u64 y14) := by have h := HMK3.out.cell 14 (by rw [hy]; simp); rw [hy] at h; exact h
       have k15 : wC.cell? ⟨B, 15, none⟩ = some (.int .u64 y15) := by have h := HMK3.out.cell 15 (by rw [hy]; simp); rw [hy] at h; exact h
       have HMO := gI (maskF_ok (ys.take n') zeroM_ok)
       have HMP3 := gI (HS.out.map.keep HKP3.out (by have := HBM.out.2.2; simp; omega))
       have HRW3 := gI (HS.out.rows.keep HKP3.out (fun x hx => by simp at hx; subst hx; exact HBM.out.1))
       have HKW3 := gI (HS.out.keep.trans (HKP3.out.mono (S' := [B, mb]) (by intro x hx; simp at hx; simp [hx])))
       obtain ⟨mk, hmk2⟩ : ∃ mk, mk = maskF (ys.take n') zeroM := ⟨_, rfl⟩
       rw [← hmk2] at hy HMO
       have hmv : mv mk = .agg #[.int .u64 y0, .int .u64 y1, .int .u64 y2, .int .u64 y3, .int .u64 y4, .int .u64 y5, .int .u64 y6, .int .u64 y7, .int .u64 y8, .int .u64 y9, .int .u64 y10, .int .u64 y11, .int .u64 y12, .int .u64 y13, .int .u64 y14, .int .u64 y15] := by rw [hy]; rfl
       have HMK2 := gI hmk2
       have HMV := gI hmv
       have hj13 : j ≤ 13 := by have h1 := HS.out.jn; have h2 := HS.out.n1; omega
       have hR13 : R.length ≤ 13 := by have := HS.out.many; omega
       clear hmk2
       by_cases hms : mk ∈ s.seen
       ·have HLK : (Instr.lookup 153 (.map (some mb)) (.agg #[.int .u64 y0, .int .u64 y1, .int .u64 y2, .int .u64 y3, .int .u64 y4, .int .u64 y5, .int .u64 y6, .int .u64 y7, .int .u64 y8, .int .u64 y9, .int .u64 y10, .int .u64 y11, .int .u64 y12, .int .u64 y13, .int .u64 y14, .int .u64 y15]) true).run Tryz.prog wC = .ok (.tuple #[.int .i64 (s.seen.idxOf mk : Nat), .bool true]) wC := by
         have h := HMP3.out.look true m16Keyed Tryz.underlying153 (z := .int .i64 0) (by kernel_rfl) (key16 HMO.out)
         rw [HS.out.get mk HMO.out, if_pos hms, hmv] at h
         exact h
        obtain ⟨ix, hix⟩ : ∃ ix, ix = s.seen.idxOf mk := ⟨_, rfl⟩
        rw [← hix] at HLK
        have hixl : ix < R.length := by
         have h1 := List.idxOf_lt_length_of_mem hms
         have h2 := HS.out.seen
         have h3 := congrArg List.length HS.out.row
         simp at h3
         omega
        have HIX := gI hix
        have HMS := gI hms
        obtain ⟨qa, rfl⟩ := SliceAt.some_of HRW3.out.out (by omega)
        have o0 : wC.cell? ⟨qa, ix, none⟩ = some (.slice ((R[ix]).b.map fun g => ⟨g, 0, none⟩) (R[ix]).sp.length (R[ix]).c) := by
         have h := HRW3.out.out.cell ix (by rw [List.length_map]; exact hixl)
         rw [h, List.getElem_map]; rfl
        have HADD := gI (add_any (w := wC) (lo := sa) (hi := top) (HRW3.out.row ix hixl) (by have := (HS.out.long _ (List.getElem_mem hixl)).1; omega) (fun x hx => by have := (HS.out.long _ (List.getElem_mem hixl)).2 x hx; omega))
        have HQ := gI (show ∀ w2 S, Keeps S wC w2 → S = (R[ix]).b.toList → SliceAt w2 52 1 (some qa) R.length c (R.map rowV) from fun w2 S hk hS => HRW3.out.out.keep hk (fun g hg hm => by
         cases hg
         subst hS
         exact (HRW3.out.own ix hixl _ (by simpa using hm)).2 rfl))
        have HLN := gI (show (addS (R[ix]).sp (sa, top)).length ≤ 14 by
         have h := addS_long (s := (sa, top)) (HS.out.long _ (List.getElem_mem hixl)) ⟨by show 0 ≤ top; omega, by show top ≤ top; omega⟩
         omega)
        obtain ⟨r0, hr0⟩ : ∃ r, r = R[ix] := ⟨_, rfl⟩
        rw [← hr0] at o0 HADD HQ HLN
        obtain ⟨rb, hrb⟩ : ∃ r, r = r0.b := ⟨_, rfl⟩
        obtain ⟨rl, hrl⟩ : ∃ r, r = r0.sp.length := ⟨_, rfl⟩
        obtain ⟨rc, hrc⟩ : ∃ r, r = r0.c := ⟨_, rfl⟩
        rw [← hrb, ← hrl, ← hrc] at o0 HADD
        have HR0X := gI hr0
        have HRB := gI hrb
        clear hix hms hmv hr0 hrb hrl hrc
        go_wp2_with (go_at_call 89; refine HADD.out.mono ?_)
        rintro e w2 ⟨b', cb, rfl, hr2, hk2, hf2⟩
        have hq2 := HQ.out _ _ hk2 (by rw [HRB.out])
        have fz2 := hq2.fz ix
        have hl14 := HLN.out
        obtain ⟨rn, hrn⟩ : ∃ r, r = (addS r0.sp (sa, top)).length := ⟨_, rfl⟩
        have HRN := gI hrn
        rw [← hrn] at hl14 ⊢
        have HR2 := gI hr2
        have HK2 := gI hk2
        have HF2 := gI hf2
        have c2 : w2.cell? ⟨qa, ix, none⟩ = some ((R.map rowV)[ix]'(by rw [List.length_map]; exact hixl)) := hq2.cell ix (by rw [List.length_map]; exact hixl)
        have hsz := HKW3.out.size
        have hS2 : ∀ x ∈ (qa :: rb.toList), W1.heap.size ≤ x := fun x hx => by
         rw [List.mem_cons] at hx
         rcases hx with rfl | hx
         ·exact HRW3.out.new _ rfl
         ·exact (HRW3.out.own ix hixl x (by rw [← HR0X.out, ← HRB.out]; simpa using hx)).1
        obtain ⟨wE, hwE⟩ : ∃ wE, wE = w2.setCell ⟨qa, ix, none⟩ (.slice (b'.map fun g => ⟨g, 0, none⟩) rn cb) := ⟨_, rfl⟩
        have hkE : Keeps (qa :: rb.toList) wC wE := by
         rw [hwE]
         exact (hk2.mono (by intro x hx; simp at hx ⊢; exact .inl (.inr hx))).setCell (p := ⟨qa, ix, none⟩) (by simp) _
        have HKE := gI hkE
        have HMSE := gI (show MaskAt wE B (maskF (ys.take n') zeroM) from HMK3.out.keep hkE (fun hm => by have := hS2 _ hm; have := HBM.out.1; omega))
        have HMPE := gI (HMP3.out.keep hkE (fun hm => by have := hS2 _ hm; have := HBM.out.2.1; omega))
        have HKWE := gI (HKW3.out.after hkE (fun x hx => .inr (hS2 x hx)))
        have HSPE := gI (show SpIn wE (p') (es2 (ys.drop n')) from HSP3.out.keepS hkE (fun q hq hm => by have := hS2 _ hm; have := (HPB3.out q hq).2; omega))
        have HRWE := gI (show RowsAt W1 wE (some qa) c (R.set ix ⟨b', cb, addS (R[ix]).sp (s.at_, top)⟩) by
         have h := HRW3.out.upd (w' := w2) hsz hixl (r := ⟨b', cb, addS (R[ix]).sp (s.at_, top)⟩) (by
          rw [← HR0X.out, ← HSA.out]
          exact HR2.out) (by rw [← HR0X.out, ← HRB.out]; exact HK2.out) (by rw [← HR0X.out, ← HRB.out]; exact HF2.out)
         rw [hwE]
         unfold rowV at h
         rw [← HR0X.out, ← HSA.out, ← HRN.out] at h
         rw [← HR0X.out, ← HSA.out]
         exact h)
        have cE2 : wE.cell? ⟨qa, ix, none⟩ = some (.slice (b'.map fun g => ⟨g, 0, none⟩) rn cb) := by
         have h := HRWE.out.out.cell ix (by rw [List.length_map, List.length_set]; exact hixl)
         rw [h, List.getElem_map, List.getElem_set_self]
         unfold rowV
         simp only
         rw [← HSA.out, ← HR0X.out, ← HRN.out]
        clear hr2 hk2 hf2 hq2 hrn o0 hS2 hkE
        go_upto_region 30 with fail
        rw [← hwE]
        clear hwE fz2 c2
        have hRi : ¬ (1024 : Int) < R.length := by omega
        have hrni : ¬ (64 : Int) < rn := by omega
        have hRn : ¬ 1024 < R.length := by omega
        have hrnn : ¬ 64 < rn := by omega
        have HN := gI (HS.out.known HCUT.out HN1.out HD.out HYT.out HAT.out HNX.out HMK2.out HMS.out HIX.out hixl HMSE.out HMPE.out HKWE.out HRWE.out)
        go_wp2
        go_roundw
        case rel => exact ⟨j + 1, n', _, _, some qa, c, gm, p', cE', (by rw [HLEN.out]), (by have := HCC.out; omega), (by rw [List.length_set]; rfl), (by rfl), HN.out, HSPE.out, HPB3.out⟩
        case measure => simp [intOf]; omega
       ·have HLK : (Instr.lookup 153 (.map (some mb)) (.agg #[.int .u64 y0, .int .u64 y1, .int .u64 y2, .int .u64 y3, .int .u64 y4, .int .u64 y5, .int .u64 y6, .int .u64 y7, .int .u64 y8, .int .u64 y9, .int .u64 y10, .int .u64 y11, .int .u64 y12, .int .u64 y13, .int .u64 y14, .int .u64 y15]) true).run Tryz.prog wC = .ok (.tuple #[.int .i64 0, .bool false]) wC := by
         have h := HMP3.out.look true m16Keyed Tryz.underlying153 (z := .int .i64 0) (by kernel_rfl) (key16 HMO.out)
         rw [HS.out.get mk HMO.out, if_neg hms, hmv] at h
         exact h
        have HMS := gI hms
        have hsl : s.seen.length = R.length := by
         have h2 := HS.out.seen
         have h3 := congrArg List.length HS.out.row
         simp at h3
         omega
        have HSL := gI hsl
        clear hms hmv hsl
        go_wp2_with (at_mapUpdate; refine wpList_mapPut rfl _ _ _ 153 rfl 152 3 m16Keyed Tryz.underlying153 mb s.seen.length gm rfl HMP3.out (by have := HSL.out; unfold maxLen; omega) (by have h := key16 HMO.out; rw [HMV.out] at h; exact h) ?_)
        intro w2 hm2 hk2
        have HM2 := gI (show MapAt w2 Tryz.prog 152 mb (s.seen.length + 1) (fun u => @ite _ (u = mv mk) (Classical.propDecidable _) (some (.int .i64 R.length)) (gm u)) from by rw [HMV.out]; exact hm2)
        have HRW2 := gI (HRW3.out.keep hk2 (fun x hx => by simp at hx; subst hx; exact HBM.out.2.1))
        have HK2 := gI hk2
        clear hm2 hk2
        go_wp2_with (at_builtin; refine wpList_append_sl rfl (.tmp 95) (.tmp 96) 86 rfl 52 ib _ 1 24 Tryz.underlying86 HIB.out HIZ.out HIS.out HIY.out rfl (by decide) a R.length c (R.map rowV) rfl (HRW2.out.out.alloc _) ⟨w2.heap.size, 0, none⟩ 1 1 [.slice none 0 0] rfl rfl (news_row' _ _ _ _ rfl) (by intro u hu; simp at hu; subst hu; rfl) (by decide) (by omega) (by omega) ?hkf)
        case hkf =>
         intro g6 c6 w6 hs6 hk6 hg6
         have hsz2 : W1.heap.size ≤ w2.heap.size := by have h1 := HKW3.out.size; have h2 := HK2.out.size; omega
         have HAL := gI (Keeps.a1 w2 (.cells #[.slice none 0 0] 52))
         have HRW6 := gI ((HRW2.out.keep HAL.out (by simp)).push (by simp; omega) hs6 hk6 (by simpa using hg6))
         have hnew := HRW2.out.new
         have hkC : Keeps (mb :: a.toList) wC w6 := ((HK2.out.mono (S' := mb :: a.toList) (by intro x hx; simp at hx; simp [hx])).trans (HAL.out.mono (by simp))).trans (hk6.mono (by intro x hx; simp at hx; simp [hx]))
         have HKC := gI hkC
         have HM6 := gI ((HM2.out.keep HAL.out (by simp)).keep hk6 (fun hm => by have := hnew mb (by simpa using hm); have := HBM.out.2.1; omega))
         clear hs6 hk6 hg6 hkC
         have o0 : w6.cell? ⟨g6, R.length, none⟩ = some (.slice none 0 0) := by
          have h := HRW6.out.out.cell R.length (by simp)
          rw [h]
          simp [rowV]
         have HADD := gI (add_any (w := w6) (a := none) (c := 0) (l := []) (lo := sa) (hi := top) (SliceAt.nil _ _ _) (by simp) (fun x hx => by simp at hx))
         rw [addS_nil] at HADD
         simp only [List.length_nil, Option.map_none] at HADD
         have hRi : ¬ (1024 : Int) < (R.length : Int) + 1 := by omega
         have hRn : ¬ 1024 < R.length + 1 := by omega
         go_wp2_with (go_at_call 89; refine HADD.out.mono ?_)
         rintro e w8 ⟨b', cb, rfl, hr2, hk2, hf2⟩
         have hq2 := HRW6.out.out.keep hk2 (by simp)
         have fz2 := hq2.fz R.length
         have c2 := hq2.cell R.length (by simp)
         have HR2 := gI hr2
         have HK8 := gI hk2
         obtain ⟨wE, hwE⟩ : ∃ wE, wE = w8.setCell ⟨g6, R.length, none⟩ (.slice (b'.map fun g => ⟨g, 0, none⟩) 1 cb) := ⟨_, rfl⟩
         have hkE : Keeps (mb :: g6 :: a.toList) wC wE := by
          rw [hwE]
          exact (((HKC.out.mono (S' := mb :: g6 :: a.toList) (by intro x hx; simp at hx ⊢; rcases hx with hx | hx <;> simp [hx])).trans (hk2.mono (by simp))).setCell (p := ⟨g6, R.length, none⟩) (by simp) _)
         have hS2 : ∀ x ∈ (mb :: g6 :: a.toList), x = mb ∨ W1.heap.size ≤ x := fun x hx => by
          simp only [List.mem_cons] at hx
          rcases hx with rfl | rfl | hx
          ·exact .inl rfl
          ·exact .inr (HRW6.out.new _ rfl)
          ·exact .inr (HRW3.out.new x (by simpa using hx))
         have hbm := HBM.out
         have HMSE := gI (show MaskAt wE B (maskF (ys.take n') zeroM) from HMK3.out.keep hkE (fun hm => by rcases hS2 _ hm with h | h <;> omega))
         have HMPE := gI (show MapAt wE Tryz.prog 152 mb (s.seen.length + 1) _ from by
          rw [hwE]
          exact (HM6.out.keep hk2 (by simp)).keep ((Keeps.refl [g6] _).setCell (p := ⟨g6, R.length, none⟩) (by simp) _) (fun hm => by simp at hm; have := HRW6.out.new g6 rfl; omega))
         have HKWE := gI (HKW3.out.after hkE (fun x hx => by rcases hS2 x hx with h | h; exact .inl (by simp [h]); exact .inr h))
         have HSPE := gI (show SpIn wE (p') (es2 (ys.drop n')) from HSP3.out.keepS hkE (fun q hq hm => by
          have h1 := HPB3.out q hq
          rcases hS2 _ hm with h | h
          ·exact h1.1 (by simp [h])
          ·omega))
         have HRWE := gI (show RowsAt W1 wE (some g6) c6 (R ++ [⟨b', cb, addS [] (s.at_, top)⟩]) by
          have h := HRW6.out.upd (w' := w8) (by have := HKW3.out.size; have := HKC.out.size; omega) (n := R.length) (by simp) (r := ⟨b', cb, [(sa, top)]⟩) HR2.out (by simpa using HK8.out) (fun q hq => (hf2 q hq).elim (fun h => by cases h) .inr)
          rw [List.set_append_right _ _ (Nat.le_refl _), Nat.sub_self] at h
          rw [hwE, HSA2.out]
          exact h)
         have cE2 : wE.cell? ⟨g6, R.length, none⟩ = some (.slice (b'.map fun g => ⟨g, 0, none⟩) 1 cb) := by
          have h := HRWE.out.out.cell R.length (by simp)
          rw [h]
          simp [rowV, addS_nil]
         clear hr2 hk2 hf2 hq2 o0 hkE hS2 hbm
         go_upto_region 30 with fail
         rw [← hwE]
         clear hwE fz2 c2
         have HN := gI (HS.out.fresh HCUT.out HN1.out HD.out HYT.out HAT.out HNX.out HMK2.out HMS.out HMSE.out (fun _ => rfl) HMPE.out HKWE.out HRWE.out)
         go_wp2
         go_roundw
         case rel => exact ⟨j + 1, n', _, _, some g6, c6, _, p', cE', (by rw [HLEN.out]), (by have := HCC.out; omega), (by rw [List.length_append, List.length_singleton]; rfl), (by rfl), HN.out, HSPE.out, HPB3.out⟩
         case measure => simp [intOf]; omega
    ·obtain ⟨sa, hsa⟩ : ∃ sa, sa = s.at_ := ⟨_, rfl⟩
     rw [← hsa] at hat
     rw [← hsa]
     have HSA := gI hsa
     clear hsa
     go_wp2
     go_ret2
     have h := HS.out
     refine ⟨j, a, c, R, rfl, ?_, ?_, ?_, ?_⟩
     ·refine ⟨?_, fun i hi => ?_⟩
      ·rw [← splitN_perm HP.out, ← h.st, ← HSA.out]; have := h.at1; have := HSA.out; omega
      ·rw [← splitN_perm HP.out]; exact h.prev i hi
     ·rw [← splitN_perm HP.out, ← h.st]; exact h.row
     ·exact HR0.out wB a c R h.rows
     ·exact (HK1.out.trans HK2.out).after h.keep (fun x hx => .inr (HB0.out x hx))
end Go.Proofs.YtkekenaamnhbhaaGreat
