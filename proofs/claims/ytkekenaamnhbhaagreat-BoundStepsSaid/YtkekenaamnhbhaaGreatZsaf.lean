/- Part 6 of the proof. No condition: every lemma says its own. -/
import Derived.Test.YtkekenaamnhbhaaGreatZsae
namespace Go.Proofs.YtkekenaamnhbhaaGreat
open Go.RowKit Go.Sort Go.BigFrame
set_option maxRecDepth 100000
set_option maxHeartbeats 16000000
def firstB (l : List Int) : Bool := l.all fun n => decide (0 ≤ n) && decide (n ≤ 1099511627776)
def clsB (l : List Cl) : Bool := l.all fun k => !decide (k.sp.length = 0) && decide (setE k.sp = 0)
def ordB (pv : Option E4) (e : E4) : Bool := match pv with | none => true | some p => decide (cmpE p e < 0)
def edgesB (n k : Int) : Option E4 → List E4 → Bool
 | _, [] => true
 | pv, e :: r => (inB e.fr n && (inB e.tt n && inB e.cl k)) && ((decide (1 ≤ e.ws) && (decide (e.ws ≤ 1099511627776) && ordB pv e)) && edgesB n k (some e) r)
def gvalE (x : Gr) : Int :=
 if 64 < x.nodes.length ∨ 65536 < x.edges.length then 4
 else if x.first.length ≠ x.nodes.length then 1
 else if firstB x.first && (clsB x.cls && edgesB x.nodes.length x.cls.length none x.edges) then 0 else 1
def lastE (l : List E4) : Nat → Option E4
 | 0 => none
 | k + 1 => l[k]?
theorem lastE_succ {l : List E4} {k : Nat} (h : k < l.length) : lastE l (k + 1) = some l[k] := by
 show l[k]? = _
 rw [List.getElem?_eq_getElem h]
theorem gvalid_any (x : Gr) (w : World) (hx : GrIn w x) :
  Calls Tryz.prog 66 #[x.val] w fun e w' => e = .returned (.int .i64 (gvalE x)) ∧ Keeps [] w w' := by
 obtain ⟨R, hR⟩ : ∃ R, R = gvalE x := ⟨_, rfl⟩
 rw [← hR]
 unfold gvalE at hR
 obtain ⟨B, hB⟩ : ∃ B, B = w.heap.size := ⟨_, rfl⟩
 obtain ⟨Y, hY⟩ : ∃ Y, Y = w.alloc (.cells x.row.toArray 89) := ⟨_, rfl⟩
 have hkY : Keeps [] w Y := by rw [hY]; exact Keeps.a1 _ _
 have hb : Y.heap[B]? = some (.cells x.row.toArray 89 (0, 0)) := by rw [hY, hB]; exact heap_alloc_new w _
 obtain ⟨b0, b1, b2, b3⟩ := row_cells4 hb
 have HX := gI (hx.keep hkY)
 have HY := gI (show w.alloc (.cells #[.slice x.ca x.cls.length x.cc, .slice x.na x.nodes.length x.nc, .slice x.fa x.first.length x.fc, .slice x.ea x.edges.length x.ec] 89) = Y by rw [hY]; rfl)
 have HB := gI hB
 have HKY := gI hkY
 have ln := hx.ln
 have le := hx.le
 have lf := hx.lf
 have lc := hx.lc
 simp only [Gr.val]
 obtain ⟨ca, cc, cls, na, nc, nodes, fa, fc, first, ea, ec, edges⟩ := x
 simp only at *
 clear hx hY hB hkY hb
 by_cases h1 : nodes.length ≤ 64
 ·by_cases h2 : edges.length ≤ 65536
  ·rw [if_neg (by omega)] at hR
   by_cases h3 : first.length = nodes.length
   ·rw [if_neg (by simp [h3])] at hR
    have HR := gI hR
    have h1i : ¬ (64 : Int) < (nodes.length : Int) := by omega
    have h2i : ¬ (65536 : Int) < (edges.length : Int) := by omega
    rw [← h3] at HY b1 h1 HR h1i ⊢
    have H3 := gI h3
    clear h3
    have hfirst : ∀ W, Keeps [] Y W → IntsIn W fa first := fun W k => HX.out.first.keep k
    have hclsi : ∀ W, Keeps [] Y W → ClsIn W ca cls := fun W k => HX.out.cls.keep k
    have hedi : ∀ W, Keeps [] Y W → EdIn W ea edges := fun W k => HX.out.edges.keep k
    have hspi : ∀ W, Keeps [] Y W → ∀ c ∈ cls, SpIn W c.a c.sp ∧ c.sp.length ≤ 1000000000000 := fun W k c hc => ⟨(HX.out.sp c hc).keep k, HX.out.ls c hc⟩
    have hbox : ∀ W, Keeps [] Y W → W.cell? ⟨B, 0, none⟩ = some (.slice ca cls.length cc) ∧ W.cell? ⟨B, 1, none⟩ = some (.slice na first.length nc) ∧ W.cell? ⟨B, 2, none⟩ = some (.slice fa first.length fc) ∧ W.cell? ⟨B, 3, none⟩ = some (.slice ea edges.length ec) :=
     fun W k => ⟨k.cell b0 (by simp), k.cell b1 (by simp), k.cell b2 (by simp), k.cell b3 (by simp)⟩
    have HFI := gI hfirst
    have HCI := gI hclsi
    have HEI := gI hedi
    have HSI := gI hspi
    have HBX := gI hbox
    clear hR hfirst hclsi hedi hspi hbox
    go_enter Tryz.func66, Tryz.ntmps66
    go_upto_region 1 with fail
    rw [HY.out, ← HB.out]
    go_wp2
    go_loopw [30] (fun i wr => ∃ k : Nat, k ≤ first.length ∧ i = .int .i64 k ∧ firstB first = firstB (first.drop k) ∧ Keeps [] Y wr) (fun i _ => first.length - (intOf i).toNat)
    case atStart => exact ⟨0, Nat.zero_le _, rfl, rfl, Keeps.refl _ _⟩
    case round =>
     obtain ⟨k, hk, rfl, hgo, hkp⟩ := hrel
     have HK := gI hkp
     by_cases hlt : k < first.length
     ·obtain ⟨b, off, rfl, hc⟩ := HFI.out _ hkp (by omega)
      have x0 := hc k hlt
      have hd : first.drop k = first[k] :: first.drop (k + 1) := List.drop_eq_getElem_cons hlt
      rw [hd] at hgo
      have hgd : first.getD k 0 = first[k] := by simp [List.getD, hlt]
      rw [hgd] at x0
      obtain ⟨n, hn⟩ : ∃ n, n = first[k] := ⟨_, rfl⟩
      rw [← hn] at x0 hgo
      have HGO := gI (show firstB first = ((decide (0 ≤ n) && decide (n ≤ 1099511627776)) && firstB (first.drop (k + 1))) from hgo)
      clear hc hkp hn hd hgo hgd
      by_cases g1 : 0 ≤ n
      ·by_cases g2 : n ≤ 1099511627776
       ·have HF := gI (show firstB first = firstB (first.drop (k + 1)) by rw [HGO.out]; simp [g1, g2])
        have g1' : ¬ n < 0 := by omega
        have g2' : ¬ 1099511627776 < n := by omega
        go_wp2
        go_roundw
        case rel => exact ⟨k + 1, by omega, by go_num, HF.out, HK.out⟩
        case measure => simp [intOf]; omega
       ·have HF := gI (show R = 1 by rw [HR.out, HGO.out]; simp [g2])
        have g1' : ¬ n < 0 := by omega
        have g2' : 1099511627776 < n := by omega
        go_wp2
        go_ret
        exact ⟨by rw [HF.out]; rfl, HKY.out.trans HK.out⟩
      ·have HF := gI (show R = 1 by rw [HR.out, HGO.out, decide_eq_false g1]; simp)
       have g1' : n < 0 := by omega
       go_wp2
       go_ret
       exact ⟨by rw [HF.out]; rfl, HKY.out.trans HK.out⟩
     ·obtain rfl : k = first.length := by omega
      have HR2 := gI (show R = if clsB cls && edgesB first.length cls.length none edges then 0 else 1 by rw [HR.out, hgo, List.drop_length]; rfl)
      obtain ⟨b0, b1, b2, b3⟩ := HBX.out _ hkp
      obtain ⟨wf, hwf⟩ : ∃ wf, wf = wr := ⟨_, rfl⟩
      clear hkp hgo HR HFI
      go_wp2
      go_loopw [44] (fun i wr => ∃ k : Nat, k ≤ cls.length ∧ i = .int .i64 k ∧ clsB cls = clsB (cls.drop k) ∧ Keeps [] Y wr) (fun i _ => cls.length - (intOf i).toNat)
      case atStart => exact ⟨0, Nat.zero_le _, rfl, rfl, HK.out⟩
      case round =>
       obtain ⟨k, hk, rfl, hgo, hkp⟩ := hrel
       have HK := gI hkp
       by_cases hlt : k < cls.length
       ·obtain ⟨b, off, rfl, hc⟩ := HCI.out _ hkp (by omega)
        have x0 := hc k hlt
        have hd : cls.drop k = cls[k] :: cls.drop (k + 1) := List.drop_eq_getElem_cons hlt
        rw [hd] at hgo
        obtain ⟨hs, hsl⟩ := HSI.out _ hkp cls[k] (List.getElem_mem hlt)
        obtain ⟨q, hq⟩ : ∃ q, q = cls[k] := ⟨_, rfl⟩
        rw [← hq] at x0 hgo hs hsl
        obtain ⟨qa, qc, qs⟩ := q
        simp only at x0 hs hsl
        have HGO := gI (show clsB cls = ((!decide (qs.length = 0) && decide (setE qs = 0)) && clsB (cls.drop (k + 1))) from hgo)
        have HV := gI (setE_any qa qc qs wr hs hsl)
        clear hc hkp hq hd hgo hs
        by_cases g1 : qs.length = 0
        ·have HF := gI (show R = 1 by rw [HR2.out, HGO.out]; simp [g1])
         have g1' : ((qs.length : Int) == 0) = true := by simp [g1]
         go_wp2
         go_ret
         exact ⟨by rw [HF.out]; rfl, HKY.out.trans HK.out⟩
        ·have g1' : ((qs.length : Int) == 0) = false := by simp [g1]
         obtain ⟨v, hv⟩ : ∃ v, v = setE qs := ⟨_, rfl⟩
         rw [← hv] at HV HGO
         clear hv
         by_cases g2 : v = 0
         ·subst g2
          have HF := gI (show clsB cls = clsB (cls.drop (k + 1)) by rw [HGO.out]; simp [g1])
          go_wp2_with fail
          refine HV.out.mono ?_
          rintro e w2 ⟨rfl, hk2⟩
          have HK2 := gI (HK.out.trans hk2)
          clear hk2
          go_wp2
          go_roundw
          case rel => exact ⟨k + 1, by omega, by go_num, HF.out, HK2.out⟩
          case measure => simp [intOf]; omega
         ·have HF := gI (show R = 1 by rw [HR2.out, HGO.out]; simp [g2])
          have g2' : (v != 0) = true := by simp [g2]
          go_wp2_with fail
          refine HV.out.mono ?_
          rintro e w2 ⟨rfl, hk2⟩
          have HK2 := gI (HK.out.trans hk2)
          clear hk2
          go_wp2
          go_ret
          exact ⟨by rw [HF.out]; rfl, HKY.out.trans HK2.out⟩
       ·obtain rfl : k = cls.length := by omega
        have HR3 := gI (show R = if edgesB first.length cls.length none edges then 0 else 1 by rw [HR2.out, hgo, List.drop_length]; rfl)
        obtain ⟨b0, b1, b2, b3⟩ := HBX.out _ hkp
        obtain ⟨wg, hwg⟩ : ∃ wg, wg = wr := ⟨_, rfl⟩
        clear hkp hgo HR2 HCI HSI
        go_wp2
        go_loopw [60] (fun i wr => ∃ k : Nat, k ≤ edges.length ∧ i = .int .i64 k ∧ edgesB first.length cls.length none edges = edgesB first.length cls.length (lastE edges k) (edges.drop k) ∧ Keeps [] Y wr) (fun i _ => edges.length - (intOf i).toNat)
        case atStart => exact ⟨0, Nat.zero_le _, rfl, rfl, HK.out⟩
        case round =>
         obtain ⟨k, hk, rfl, hgo, hkp⟩ := hrel
         have HK := gI hkp
         by_cases hlt : k < edges.length
         ·obtain ⟨b, off, rfl, hc⟩ := HEI.out _ hkp (by omega)
          obtain ⟨x0, x1, x2, x3⟩ := hc k hlt
          have hd : edges.drop k = edges[k] :: edges.drop (k + 1) := List.drop_eq_getElem_cons hlt
          rw [hd] at hgo
          have hls := lastE_succ hlt
          have hprev : ∀ (h : 0 < k), (wr.cell? ⟨b, off + (k - 1) * 4, none⟩ = some (.int .i64 edges[k - 1].fr) ∧ wr.cell? ⟨b, off + (k - 1) * 4 + 1, none⟩ = some (.int .i64 edges[k - 1].tt) ∧ wr.cell? ⟨b, off + (k - 1) * 4 + 2, none⟩ = some (.int .i64 edges[k - 1].cl) ∧ wr.cell? ⟨b, off + (k - 1) * 4 + 3, none⟩ = some (.int .i64 edges[k - 1].ws)) ∧ lastE edges k = some edges[k - 1] := fun h => by
           refine ⟨hc (k - 1) (by omega), ?_⟩
           obtain ⟨j, rfl⟩ : ∃ j, k = j + 1 := ⟨k - 1, by omega⟩
           exact lastE_succ (by omega)
          obtain ⟨b0, b1, b2, b3⟩ := HBX.out _ hkp
          obtain ⟨e, he⟩ : ∃ e, e = edges[k] := ⟨_, rfl⟩
          rw [← he] at x0 x1 x2 x3 hgo hls
          obtain ⟨ef, et, ek, ew⟩ := e
          simp only at x0 x1 x2 x3
          have HGO := gI (show edgesB first.length cls.length none edges = ((inB ef first.length && (inB et first.length && inB ek cls.length)) && ((decide (1 ≤ ew) && (decide (ew ≤ 1099511627776) && ordB (lastE edges k) ⟨ef, et, ek, ew⟩)) && edgesB first.length cls.length (some ⟨ef, et, ek, ew⟩) (edges.drop (k + 1)))) from hgo)
          have HLS := gI hls
          have W1 := gI (fun W => within_any ef first.length W)
          have W2 := gI (fun W => within_any et first.length W)
          have W3 := gI (fun W => within_any ek cls.length W)
          obtain ⟨i1, hi1⟩ : ∃ i, i = inB ef first.length := ⟨_, rfl⟩
          obtain ⟨i2, hi2⟩ : ∃ i, i = inB et first.length := ⟨_, rfl⟩
          obtain ⟨i3, hi3⟩ : ∃ i, i = inB ek cls.length := ⟨_, rfl⟩
          simp only [← hi1, ← hi2, ← hi3] at W1 W2 W3 HGO
          obtain ⟨C, hC⟩ : ∃ C, C = wr.heap.size := ⟨_, rfl⟩
          obtain ⟨Z, hZ⟩ : ∃ Z, Z = wr.alloc (.cells #[.int .i64 ef, .int .i64 et, .int .i64 ek, .int .i64 ew] 125) := ⟨_, rfl⟩
          have hkZ : Keeps [] wr Z := by rw [hZ]; exact Keeps.a1 _ _
          have hZH : Z.heap[C]? = some (.cells #[.int .i64 ef, .int .i64 et, .int .i64 ek, .int .i64 ew] 125 (0, 0)) := by rw [hZ, hC]; exact heap_alloc_new wr _
          have z0 : Z.cell? ⟨C, 0, none⟩ = some (.int .i64 ef) := by simp [World.cell?, hZH]
          have z1 : Z.cell? ⟨C, 1, none⟩ = some (.int .i64 et) := by simp [World.cell?, hZH]
          have z2 : Z.cell? ⟨C, 2, none⟩ = some (.int .i64 ek) := by simp [World.cell?, hZH]
          have z3 : Z.cell? ⟨C, 3, none⟩ = some (.int .i64 ew) := by simp [World.cell?, hZH]
          have y0 := hkZ.cell b0 (by simp)
          have y1 := hkZ.cell b1 (by simp)
          have y3 := hkZ.cell b3 (by simp)
          have HZ := gI hZ
          have HC := gI hC
          have KZ := gI hkZ
          have HKK := gI ((HKY.out.trans HK.out).trans hkZ)
          have HPV := gI hprev
          clear hc hd hgo hls hprev he hi1 hi2 hi3 hkp hZ hC hkZ hZH
          cases i1 with
          | false =>
           have HF := gI (show R = 1 by rw [HR3.out, HGO.out]; simp)
           go_upto_region 21 with fail
           rw [← HZ.out, ← HC.out]
           clear x0 x1 x2 x3 b0 b1 b2 b3
           go_wp2_with (go_at_call 96; (first | with_reducible refine (W1.out _).mono ?_ | with_reducible refine (W2.out _).mono ?_ | with_reducible refine (W3.out _).mono ?_); rintro e w' ⟨rfl, rfl⟩)
           go_ret
           exact ⟨by rw [HF.out]; rfl, HKK.out⟩
          | true =>
          cases i2 with
          | false =>
           have HF := gI (show R = 1 by rw [HR3.out, HGO.out]; simp)
           go_upto_region 21 with fail
           rw [← HZ.out, ← HC.out]
           clear x0 x1 x2 x3 b0 b1 b2 b3
           go_wp2_with (go_at_call 96; (first | with_reducible refine (W1.out _).mono ?_ | with_reducible refine (W2.out _).mono ?_ | with_reducible refine (W3.out _).mono ?_); rintro e w' ⟨rfl, rfl⟩)
           go_ret
           exact ⟨by rw [HF.out]; rfl, HKK.out⟩
          | true =>
          cases i3 with
          | false =>
           have HF := gI (show R = 1 by rw [HR3.out, HGO.out]; simp)
           go_upto_region 21 with fail
           rw [← HZ.out, ← HC.out]
           clear x0 x1 x2 x3 b0 b1 b2 b3
           go_wp2_with (go_at_call 96; (first | with_reducible refine (W1.out _).mono ?_ | with_reducible refine (W2.out _).mono ?_ | with_reducible refine (W3.out _).mono ?_); rintro e w' ⟨rfl, rfl⟩)
           go_ret
           exact ⟨by rw [HF.out]; rfl, HKK.out⟩
          | true =>
          go_upto_region 21 with fail
          rw [← HZ.out, ← HC.out]
          clear x0 x1 x2 x3 b0 b1 b2 b3
          go_upto_region 23 with (go_at_call 96; (first | with_reducible refine (W1.out _).mono ?_ | with_reducible refine (W2.out _).mono ?_ | with_reducible refine (W3.out _).mono ?_); rintro e w' ⟨rfl, rfl⟩)
          by_cases g1 : 1 ≤ ew
          ·by_cases g2 : ew ≤ 1099511627776
           ·have g1' : ¬ ew < 1 := by omega
            have g2' : ¬ 1099511627776 < ew := by omega
            by_cases hk0 : k = 0
            ·subst hk0
             have HF := gI (show edgesB first.length cls.length none edges = edgesB first.length cls.length (lastE edges 1) (edges.drop 1) by rw [HGO.out, HLS.out]; simp [g1, g2, ordB, lastE])
             refine wp_region_held_drew (S := fun w' => w'.cell? ⟨C, 3, none⟩ = some (.int .i64 ew)) (by kernel_rfl) z3 (fun hHeld => ?_)
             refine take_on (i := 0) (v := ?_) rfl (by kernel_rfl) (by kernel_rfl) (by kernel_rfl) (fun _ _ _ h => h) (by rfl) (by assumption) ?_ ?_
             rotate_left
             ·((intro w hSw; (try dsimp only at hSw); go_simp <;> with_reducible rfl); done)
             try simp only [Act.put, List.setIfInBounds_toArray, List.set_cons_zero, List.set_cons_succ]
             refine take_on (i := 1) (v := ?_) rfl (by kernel_rfl) (by kernel_rfl) (by kernel_rfl) (fun _ _ _ h => h) (by rfl) (by assumption) ?_ ?_
             rotate_left
             ·((intro w hSw; (try dsimp only at hSw); go_simp <;> with_reducible rfl); done)
             try simp only [Act.put, List.setIfInBounds_toArray, List.set_cons_zero, List.set_cons_succ]
             refine take_on (i := 2) (v := ?_) rfl (by kernel_rfl) (by kernel_rfl) (by kernel_rfl) (fun _ _ _ h => h) (by rfl) (by assumption) ?_ ?_
             rotate_left
             ·((intro w hSw; (try dsimp only at hSw); go_simp <;> with_reducible rfl); done)
             try simp only [Act.put, List.setIfInBounds_toArray, List.set_cons_zero, List.set_cons_succ]
             refine take_on (i := 3) (v := ?_) rfl (by kernel_rfl) (by kernel_rfl) (by kernel_rfl) (fun _ _ _ h => h) (by rfl) (by assumption) ?_ ?_
             rotate_left
             ·((intro w hSw; (try dsimp only at hSw); go_simp <;> with_reducible rfl); done)
             try simp only [Act.put, List.setIfInBounds_toArray, List.set_cons_zero, List.set_cons_succ]
             refine take_on (i := 4) (v := ?_) rfl (by kernel_rfl) (by kernel_rfl) (by kernel_rfl) (fun _ _ _ h => h) (by rfl) (by assumption) ?_ ?_
             rotate_left
             ·((intro w hSw; (try dsimp only at hSw); go_simp <;> with_reducible rfl); done)
             try simp only [Act.put, List.setIfInBounds_toArray, List.set_cons_zero, List.set_cons_succ]
             refine take_on (i := 5) (v := ?_) rfl (by kernel_rfl) (by kernel_rfl) (by kernel_rfl) (fun _ _ _ h => h) (by rfl) (by assumption) ?_ ?_
             rotate_left
             ·((intro w hSw; (try dsimp only at hSw); go_simp <;> with_reducible rfl); done)
             try simp only [Act.put, List.setIfInBounds_toArray, List.set_cons_zero, List.set_cons_succ]
             refine take_on (i := 6) (v := ?_) rfl (by kernel_rfl) (by kernel_rfl) (by kernel_rfl) (fun _ _ _ h => h) (by rfl) (by assumption) ?_ ?_
             rotate_left
             ·((intro w hSw; (try dsimp only at hSw); go_simp <;> with_reducible rfl); done)
             try simp only [Act.put, List.setIfInBounds_toArray, List.set_cons_zero, List.set_cons_succ]
             refine take_on (i := 7) (v := ?_) rfl (by kernel_rfl) (by kernel_rfl) (by kernel_rfl) (fun _ _ _ h => h) (by rfl) (by assumption) ?_ ?_
             rotate_left
             ·((intro w hSw; (try dsimp only at hSw); go_simp <;> with_reducible rfl); done)
             try simp only [Act.put, List.setIfInBounds_toArray, List.set_cons_zero, List.set_cons_succ]
             refine take_on (i := 8) (v := ?_) rfl (by kernel_rfl) (by kernel_rfl) (by kernel_rfl) (fun _ _ _ h => h) (by rfl) (by assumption) ?_ ?_
             rotate_left
             ·((intro w hSw; (try dsimp only at hSw); go_simp <;> with_reducible rfl); done)
             try simp only [Act.put, List.setIfInBounds_toArray, List.set_cons_zero, List.set_cons_succ]
             refine take_on (i := 9) (v := ?_) rfl (by kernel_rfl) (by kernel_rfl) (by kernel_rfl) (fun _ _ _ h => h) (by rfl) (by assumption) ?_ ?_
             rotate_left
             ·((intro w hSw; (try dsimp only at hSw); go_simp <;> with_reducible rfl); done)
             try simp only [Act.put, List.setIfInBounds_toArray, List.set_cons_zero, List.set_cons_succ]
             refine take_on (i := 10) (v := ?_) rfl (by kernel_rfl) (by kernel_rfl) (by kernel_rfl) (fun _ _ _ h => h) (by rfl) (by assumption) ?_ ?_
             rotate_left
             ·((intro w hSw; (try dsimp only at hSw); go_simp <;> with_reducible rfl); done)
             try simp only [Act.put, List.setIfInBounds_toArray, List.set_cons_zero, List.set_cons_succ]
             refine take_on (i := 11) (v := ?_) rfl (by kernel_rfl) (by kernel_rfl) (by kernel_rfl) (fun _ _ _ h => h) (by rfl) (by assumption) ?_ ?_
             rotate_left
             ·((intro w hSw; (try dsimp only at hSw); go_simp <;> with_reducible rfl); done)
             try simp only [Act.put, List.setIfInBounds_toArray, List.set_cons_zero, List.set_cons_succ]
             refine take_off (i := 12) rfl (by kernel_rfl) (by kernel_rfl) (by kernel_rfl) (fun _ _ _ h => h) (by rfl) (by assumption) ?_
             try simp only [Act.put, List.setIfInBounds_toArray, List.set_cons_zero, List.set_cons_succ]
             refine take_off (i := 13) rfl (by kernel_rfl) (by kernel_rfl) (by kernel_rfl) (fun _ _ _ h => h) (by rfl) (by assumption) ?_
             try simp only [Act.put, List.setIfInBounds_toArray, List.set_cons_zero, List.set_cons_succ]
             refine take_off (i := 14) rfl (by kernel_rfl) (by kernel_rfl) (by kernel_rfl) (fun _ _ _ h => h) (by rfl) (by assumption) ?_
             try simp only [Act.put, List.setIfInBounds_toArray, List.set_cons_zero, List.set_cons_succ]
             refine take_off (i := 15) rfl (by kernel_rfl) (by kernel_rfl) (by kernel_rfl) (fun _ _ _ h => h) (by rfl) (by assumption) ?_
             try simp only [Act.put, List.setIfInBounds_toArray, List.set_cons_zero, List.set_cons_succ]
             refine take_off (i := 16) rfl (by kernel_rfl) (by kernel_rfl) (by kernel_rfl) (fun _ _ _ h => h) (by rfl) (by assumption) ?_
             try simp only [Act.put, List.setIfInBounds_toArray, List.set_cons_zero, List.set_cons_succ]
             refine take_off (i := 17) rfl (by kernel_rfl) (by kernel_rfl) (by kernel_rfl) (fun _ _ _ h => h) (by rfl) (by assumption) ?_
             try simp only [Act.put, List.setIfInBounds_toArray, List.set_cons_zero, List.set_cons_succ]
             refine take_off (i := 18) rfl (by kernel_rfl) (by kernel_rfl) (by kernel_rfl) (fun _ _ _ h => h) (by rfl) (by assumption) ?_
             try simp only [Act.put, List.setIfInBounds_toArray, List.set_cons_zero, List.set_cons_succ]
             refine take_off (i := 19) rfl (by kernel_rfl) (by kernel_rfl) (by kernel_rfl) (fun _ _ _ h => h) (by rfl) (by assumption) ?_
             try simp only [Act.put, List.setIfInBounds_toArray, List.set_cons_zero, List.set_cons_succ]
             refine take_off (i := 20) rfl (by kernel_rfl) (by kernel_rfl) (by kernel_rfl) (fun _ _ _ h => h) (by rfl) (by assumption) ?_
             try simp only [Act.put, List.setIfInBounds_toArray, List.set_cons_zero, List.set_cons_succ]
             refine take_on (i := 21) (v := ?_) rfl (by kernel_rfl) (by kernel_rfl) (by kernel_rfl) (fun _ _ _ h => h) (by rfl) (by assumption) ?_ ?_
             rotate_left
             ·((intro w hSw; (try dsimp only at hSw); go_simp <;> with_reducible rfl); done)
             try simp only [Act.put, List.setIfInBounds_toArray, List.set_cons_zero, List.set_cons_succ]
             refine take_on (i := 22) (v := ?_) rfl (by kernel_rfl) (by kernel_rfl) (by kernel_rfl) (fun _ _ _ h => h) (by rfl) (by assumption) ?_ ?_
             rotate_left
             ·((intro w hSw; (try dsimp only at hSw); go_simp <;> with_reducible rfl); done)
             try simp only [Act.put, List.setIfInBounds_toArray, List.set_cons_zero, List.set_cons_succ]
             refine wpAnyH_done (by kernel_rfl) ?_ _
             clear hHeld z0 z1 z2 z3 y0 y1 y3
             go_wp2
             go_roundw
             case rel => exact ⟨1, by omega, rfl, HF.out, ((HK.out.trans KZ.out).drew)⟩
             case measure => simp [intOf]; omega
            ·have hk1 : 0 < k := by omega
             obtain ⟨⟨p0, p1, p2, p3⟩, hle⟩ := HPV.out hk1
             obtain ⟨pe, hpe⟩ : ∃ pe, pe = edges[k - 1] := ⟨_, rfl⟩
             rw [← hpe] at p0 p1 p2 p3 hle
             have CE := gI (fun W => cmpE_any pe ⟨ef, et, ek, ew⟩ W)
             obtain ⟨cv, hcv⟩ : ∃ cv, cv = cmpE pe ⟨ef, et, ek, ew⟩ := ⟨_, rfl⟩
             have HO := gI (show ordB (lastE edges k) ⟨ef, et, ek, ew⟩ = decide (cv < 0) by rw [hle, hcv]; rfl)
             rw [← hcv] at CE
             obtain ⟨pf, pt, pk, pw⟩ := pe
             simp only [E4.val] at p0 p1 p2 p3 CE
             have p0 := KZ.out.cell p0 (by simp)
             have p1 := KZ.out.cell p1 (by simp)
             have p2 := KZ.out.cell p2 (by simp)
             have p3 := KZ.out.cell p3 (by simp)
             have hk1i : (0 : Int) < (k : Int) := by omega
             have hw1 : IntKind.i64.wrap ((k : Int) - 1) = (k : Int) - 1 := IntWalk.i64_in _ (by omega)
             have hb1 : (0 : Int) ≤ (k : Int) - 1 := by omega
             have hb1' : (1 : Int) ≤ (k : Int) := by omega
             have hb2 : (k : Int) - 1 < (edges.length : Int) := by omega
             have hb3 : ((k : Int) - 1).toNat = k - 1 := by omega
             clear hcv hpe hle
             refine wp_region_held_drew (S := fun w' => ((w'.cell? ⟨C, 0, none⟩ = some (.int .i64 ef) ∧ w'.cell? ⟨C, 1, none⟩ = some (.int .i64 et) ∧ w'.cell? ⟨C, 2, none⟩ = some (.int .i64 ek) ∧ w'.cell? ⟨C, 3, none⟩ = some (.int .i64 ew)) ∧ w'.cell? ⟨B, 3, none⟩ = some (.slice (some ⟨b, off, none⟩) edges.length ec)) ∧
              (w'.cell? ⟨b, off + (k - 1) * 4, none⟩ = some (.int .i64 pf) ∧ w'.cell? ⟨b, off + (k - 1) * 4 + 1, none⟩ = some (.int .i64 pt) ∧ w'.cell? ⟨b, off + (k - 1) * 4 + 2, none⟩ = some (.int .i64 pk) ∧ w'.cell? ⟨b, off + (k - 1) * 4 + 3, none⟩ = some (.int .i64 pw))) (by kernel_rfl) ⟨⟨⟨z0, z1, z2, z3⟩, y3⟩, p0, p1, p2, p3⟩ (fun hHeld => ?_)
             refine take_on (i := 0) (v := ?_) rfl (by kernel_rfl) (by kernel_rfl) (by kernel_rfl) (fun _ _ _ h => h) (by rfl) (by assumption) ?_ ?_
             rotate_left
             ·((intro w hSw; (try dsimp only at hSw); go_simp <;> with_reducible rfl); done)
             try simp only [Act.put, List.setIfInBounds_toArray, List.set_cons_zero, List.set_cons_succ]
             refine take_on (i := 1) (v := ?_) rfl (by kernel_rfl) (by kernel_rfl) (by kernel_rfl) (fun _ _ _ h => h) (by rfl) (by assumption) ?_ ?_
             rotate_left
             ·((intro w hSw; (try dsimp only at hSw); go_simp <;> with_reducible rfl); done)
             try simp only [Act.put, List.setIfInBounds_toArray, List.set_cons_zero, List.set_cons_succ]
             refine take_on (i := 2) (v := ?_) rfl (by kernel_rfl) (by kernel_rfl) (by kernel_rfl) (fun _ _ _ h => h) (by rfl) (by assumption) ?_ ?_
             rotate_left
             ·((intro w hSw; (try dsimp only at hSw); go_simp <;> with_reducible rfl); done)
             try simp only [Act.put, List.setIfInBounds_toArray, List.set_cons_zero, List.set_cons_succ]
             refine take_on (i := 3) (v := ?_) rfl (by kernel_rfl) (by kernel_rfl) (by kernel_rfl) (fun _ _ _ h => h) (by rfl) (by assumption) ?_ ?_
             rotate_left
             ·((intro w hSw; (try dsimp only at hSw); go_simp <;> with_reducible rfl); done)
             try simp only [Act.put, List.setIfInBounds_toArray, List.set_cons_zero, List.set_cons_succ]
             refine take_on (i := 4) (v := ?_) rfl (by kernel_rfl) (by kernel_rfl) (by kernel_rfl) (fun _ _ _ h => h) (by rfl) (by assumption) ?_ ?_
             rotate_left
             ·((intro w hSw; (try dsimp only at hSw); go_simp <;> with_reducible rfl); done)
             try simp only [Act.put, List.setIfInBounds_toArray, List.set_cons_zero, List.set_cons_succ]
             refine take_on (i := 5) (v := ?_) rfl (by kernel_rfl) (by kernel_rfl) (by kernel_rfl) (fun _ _ _ h => h) (by rfl) (by assumption) ?_ ?_
             rotate_left
             ·((intro w hSw; (try dsimp only at hSw); go_simp <;> with_reducible rfl); done)
             try simp only [Act.put, List.setIfInBounds_toArray, List.set_cons_zero, List.set_cons_succ]
             refine take_on (i := 6) (v := ?_) rfl (by kernel_rfl) (by kernel_rfl) (by kernel_rfl) (fun _ _ _ h => h) (by rfl) (by assumption) ?_ ?_
             rotate_left
             ·((intro w hSw; (try dsimp only at hSw); go_simp <;> with_reducible rfl); done)
             try simp only [Act.put, List.setIfInBounds_toArray, List.set_cons_zero, List.set_cons_succ]
             refine take_on (i := 7) (v := ?_) rfl (by kernel_rfl) (by kernel_rfl) (by kernel_rfl) (fun _ _ _ h => h) (by rfl) (by assumption) ?_ ?_
             rotate_left
             ·((intro w hSw; (try dsimp only at hSw); go_simp <;> with_reducible rfl); done)
             try simp only [Act.put, List.setIfInBounds_toArray, List.set_cons_zero, List.set_cons_succ]
             refine take_on (i := 8) (v := ?_) rfl (by kernel_rfl) (by kernel_rfl) (by kernel_rfl) (fun _ _ _ h => h) (by rfl) (by assumption) ?_ ?_
             rotate_left
             ·((intro w hSw; (try dsimp only at hSw); go_simp <;> with_reducible rfl); done)
             try simp only [Act.put, List.setIfInBounds_toArray, List.set_cons_zero, List.set_cons_succ]
             refine take_on (i := 9) (v := ?_) rfl (by kernel_rfl) (by kernel_rfl) (by kernel_rfl) (fun _ _ _ h => h) (by rfl) (by assumption) ?_ ?_
             rotate_left
             ·((intro w hSw; (try dsimp only at hSw); go_simp <;> with_reducible rfl); done)
             try simp only [Act.put, List.setIfInBounds_toArray, List.set_cons_zero, List.set_cons_succ]
             refine take_on (i := 10) (v := ?_) rfl (by kernel_rfl) (by kernel_rfl) (by kernel_rfl) (fun _ _ _ h => h) (by rfl) (by assumption) ?_ ?_
             rotate_left
             ·((intro w hSw; (try dsimp only at hSw); go_simp <;> with_reducible rfl); done)
             try simp only [Act.put, List.setIfInBounds_toArray, List.set_cons_zero, List.set_cons_succ]
             refine take_on (i := 11) (v := ?_) rfl (by kernel_rfl) (by kernel_rfl) (by kernel_rfl) (fun _ _ _ h => h) (by rfl) (by assumption) ?_ ?_
             rotate_left
             ·((intro w hSw; (try dsimp only at hSw); go_simp <;> with_reducible rfl); done)
             try simp only [Act.put, List.setIfInBounds_toArray, List.set_cons_zero, List.set_cons_succ]
             refine take_on (i := 12) (v := ?_) rfl (by kernel_rfl) (by kernel_rfl) (by kernel_rfl) (fun _ _ _ h => h) (by rfl) (by assumption) ?_ ?_
             rotate_left
             ·((intro w hSw; (try dsimp only at hSw); go_simp <;> with_reducible rfl); done)
             try simp only [Act.put, List.setIfInBounds_toArray, List.set_cons_zero, List.set_cons_succ]
             refine take_on (i := 13) (v := ?_) rfl (by kernel_rfl) (by kernel_rfl) (by kernel_rfl) (fun _ _ _ h => h) (by rfl) (by assumption) ?_ ?_
             rotate_left
             ·((intro w hSw; (try dsimp only at hSw); go_simp <;> with_reducible rfl); done)
             try simp only [Act.put, List.setIfInBounds_toArray, List.set_cons_zero, List.set_cons_succ]
             refine take_on (i := 14) (v := ?_) rfl (by kernel_rfl) (by kernel_rfl) (by kernel_rfl) (fun _ _ _ h => h) (by rfl) (by assumption) ?_ ?_
             rotate_left
             ·((intro w hSw; (try dsimp only at hSw); go_simp <;> with_reducible rfl); done)
             try simp only [Act.put, List.setIfInBounds_toArray, List.set_cons_zero, List.set_cons_succ]
             refine take_on (i := 15) (v := ?_) rfl (by kernel_rfl) (by kernel_rfl) (by kernel_rfl) (fun _ _ _ h => h) (by rfl) (by assumption) ?_ ?_
             rotate_left
             ·((intro w hSw; (try dsimp only at hSw); go_simp <;> with_reducible rfl); done)
             try simp only [Act.put, List.setIfInBounds_toArray, List.set_cons_zero, List.set_cons_succ]
             refine take_on (i := 16) (v := ?_) rfl (by kernel_rfl) (by kernel_rfl) (by kernel_rfl) (fun _ _ _ h => h) (by rfl) (by assumption) ?_ ?_
             rotate_left
             ·((intro w hSw; (try dsimp only at hSw); go_simp <;> with_reducible rfl); done)
             try simp only [Act.put, List.setIfInBounds_toArray, List.set_cons_zero, List.set_cons_succ]
             refine take_on (i := 17) (v := ?_) rfl (by kernel_rfl) (by kernel_rfl) (by kernel_rfl) (fun _ _ _ h => h) (by rfl) (by assumption) ?_ ?_
             rotate_left
             ·((intro w hSw; (try dsimp only at hSw); go_simp <;> with_reducible rfl); done)
             try simp only [Act.put, List.setIfInBounds_toArray, List.set_cons_zero, List.set_cons_succ]
             refine take_on (i := 18) (v := ?_) rfl (by kernel_rfl) (by kernel_rfl) (by kernel_rfl) (fun _ _ _ h => h) (by rfl) (by assumption) ?_ ?_
             rotate_left
             ·((intro w hSw; (try dsimp only at hSw); go_simp <;> with_reducible rfl); done)
             try simp only [Act.put, List.setIfInBounds_toArray, List.set_cons_zero, List.set_cons_succ]
             refine branch_one (i := 19) rfl (by kernel_rfl) (by rfl) (fun K hK => ?_)
             go_simp
             go_at_call 97
             refine (CE.out _).mono ?_
             rintro e w3 ⟨rfl, hk3⟩
             have K3 := gI (((Keeps.refl [] Z).drew).trans hk3)
             clear hk3
             refine hK.out _ _ (⟨⟨⟨K3.out.cell z0 (by simp), K3.out.cell z1 (by simp), K3.out.cell z2 (by simp), K3.out.cell z3 (by simp)⟩, K3.out.cell y3 (by simp)⟩, K3.out.cell p0 (by simp), K3.out.cell p1 (by simp), K3.out.cell p2 (by simp), K3.out.cell p3 (by simp)⟩) (fun hHeld => ?_)
             clear hK K
             try simp only [Act.put, List.setIfInBounds_toArray, List.set_cons_zero, List.set_cons_succ]
             have KR := gI (HK.out.trans (KZ.out.trans K3.out))
             by_cases hcv : cv < 0
             ·have HF := gI (show edgesB first.length cls.length none edges = edgesB first.length cls.length (lastE edges (k + 1)) (edges.drop (k + 1)) by rw [HGO.out, HLS.out, HO.out]; simp [g1, g2, hcv])
              have hcv' : ¬ 0 ≤ cv := by omega
              refine take_on (i := 20) (v := ?_) rfl (by kernel_rfl) (by kernel_rfl) (by kernel_rfl) (fun _ _ _ h => h) (by rfl) (by assumption) ?_ ?_
              rotate_left
              ·((intro w hSw; (try dsimp only at hSw); go_simp <;> with_reducible rfl); done)
              try simp only [Act.put, List.setIfInBounds_toArray, List.set_cons_zero, List.set_cons_succ]
              refine take_on (i := 21) (v := ?_) rfl (by kernel_rfl) (by kernel_rfl) (by kernel_rfl) (fun _ _ _ h => h) (by rfl) (by assumption) ?_ ?_
              rotate_left
              ·((intro w hSw; (try dsimp only at hSw); go_simp <;> with_reducible rfl); done)
              try simp only [Act.put, List.setIfInBounds_toArray, List.set_cons_zero, List.set_cons_succ]
              refine take_on (i := 22) (v := ?_) rfl (by kernel_rfl) (by kernel_rfl) (by kernel_rfl) (fun _ _ _ h => h) (by rfl) (by assumption) ?_ ?_
              rotate_left
              ·((intro w hSw; (try dsimp only at hSw); go_simp <;> with_reducible rfl); done)
              try simp only [Act.put, List.setIfInBounds_toArray, List.set_cons_zero, List.set_cons_succ]
              refine wpAnyH_done (by kernel_rfl) ?_ _
              clear hHeld z0 z1 z2 z3 y0 y1 y3 p0 p1 p2 p3
              go_wp2
              go_roundw
              case rel => exact ⟨k + 1, by omega, by go_num, HF.out, KR.out⟩
              case measure => simp [intOf]; omega
             ·have HF := gI (show R = 1 by rw [HR3.out, HGO.out, HO.out, decide_eq_false hcv]; simp)
              have hcv' : 0 ≤ cv := by omega
              refine take_on (i := 20) (v := ?_) rfl (by kernel_rfl) (by kernel_rfl) (by kernel_rfl) (fun _ _ _ h => h) (by rfl) (by assumption) ?_ ?_
              rotate_left
              ·((intro w hSw; (try dsimp only at hSw); go_simp <;> with_reducible rfl); done)
              try simp only [Act.put, List.setIfInBounds_toArray, List.set_cons_zero, List.set_cons_succ]
              refine take_on (i := 21) (v := ?_) rfl (by kernel_rfl) (by kernel_rfl) (by kernel_rfl) (fun _ _ _ h => h) (by rfl) (by assumption) ?_ ?_
              rotate_left
              ·((intro w hSw; (try dsimp only at hSw); go_simp <;> with_reducible rfl); done)
              try simp only [Act.put, List.setIfInBounds_toArray, List.set_cons_zero, List.set_cons_succ]
              refine take_on (i := 22) (v := ?_) rfl (by kernel_rfl) (by kernel_rfl) (by kernel_rfl) (fun _ _ _ h => h) (by rfl) (by assumption) ?_ ?_
              rotate_left
              ·((intro w hSw; (try dsimp only at hSw); go_simp <;> with_reducible rfl); done)
              try simp only [Act.put, List.setIfInBounds_toArray, List.set_cons_zero, List.set_cons_succ]
              refine wpAnyH_done (by kernel_rfl) ?_ _
              clear hHeld z0 z1 z2 z3 y0 y1 y3 p0 p1 p2 p3
              go_wp2
              go_ret
              exact ⟨by rw [HF.out]; rfl, HKY.out.trans KR.out⟩
           ·have HF := gI (show R = 1 by rw [HR3.out, HGO.out, decide_eq_false g2]; simp)
            have g1' : ¬ ew < 1 := by omega
            have g2' : 1099511627776 < ew := by omega
            refine wp_region_held_drew (S := fun w' => w'.cell? ⟨C, 3, none⟩ = some (.int .i64 ew)) (by kernel_rfl) z3 (fun hHeld => ?_)
            refine take_on (i := 0) (v := ?_) rfl (by kernel_rfl) (by kernel_rfl) (by kernel_rfl) (fun _ _ _ h => h) (by rfl) (by assumption) ?_ ?_
            rotate_left
            ·((intro w hSw; (try dsimp only at hSw); go_simp <;> with_reducible rfl); done)
            try simp only [Act.put, List.setIfInBounds_toArray, List.set_cons_zero, List.set_cons_succ]
            refine take_on (i := 1) (v := ?_) rfl (by kernel_rfl) (by kernel_rfl) (by kernel_rfl) (fun _ _ _ h => h) (by rfl) (by assumption) ?_ ?_
            rotate_left
            ·((intro w hSw; (try dsimp only at hSw); go_simp <;> with_reducible rfl); done)
            try simp only [Act.put, List.setIfInBounds_toArray, List.set_cons_zero, List.set_cons_succ]
            refine take_on (i := 2) (v := ?_) rfl (by kernel_rfl) (by kernel_rfl) (by kernel_rfl) (fun _ _ _ h => h) (by rfl) (by assumption) ?_ ?_
            rotate_left
            ·((intro w hSw; (try dsimp only at hSw); go_simp <;> with_reducible rfl); done)
            try simp only [Act.put, List.setIfInBounds_toArray, List.set_cons_zero, List.set_cons_succ]
            refine take_on (i := 3) (v := ?_) rfl (by kernel_rfl) (by kernel_rfl) (by kernel_rfl) (fun _ _ _ h => h) (by rfl) (by assumption) ?_ ?_
            rotate_left
            ·((intro w hSw; (try dsimp only at hSw); go_simp <;> with_reducible rfl); done)
            try simp only [Act.put, List.setIfInBounds_toArray, List.set_cons_zero, List.set_cons_succ]
            refine take_on (i := 4) (v := ?_) rfl (by kernel_rfl) (by kernel_rfl) (by kernel_rfl) (fun _ _ _ h => h) (by rfl) (by assumption) ?_ ?_
            rotate_left
            ·((intro w hSw; (try dsimp only at hSw); go_simp <;> with_reducible rfl); done)
            try simp only [Act.put, List.setIfInBounds_toArray, List.set_cons_zero, List.set_cons_succ]
            refine take_on (i := 5) (v := ?_) rfl (by kernel_rfl) (by kernel_rfl) (by kernel_rfl) (fun _ _ _ h => h) (by rfl) (by assumption) ?_ ?_
            rotate_left
            ·((intro w hSw; (try dsimp only at hSw); go_simp <;> with_reducible rfl); done)
            try simp only [Act.put, List.setIfInBounds_toArray, List.set_cons_zero, List.set_cons_succ]
            refine take_on (i := 6) (v := ?_) rfl (by kernel_rfl) (by kernel_rfl) (by kernel_rfl) (fun _ _ _ h => h) (by rfl) (by assumption) ?_ ?_
            rotate_left
            ·((intro w hSw; (try dsimp only at hSw); go_simp <;> with_reducible rfl); done)
            try simp only [Act.put, List.setIfInBounds_toArray, List.set_cons_zero, List.set_cons_succ]
            refine take_on (i := 7) (v := ?_) rfl (by kernel_rfl) (by kernel_rfl) (by kernel_rfl) (fun _ _ _ h => h) (by rfl) (by assumption) ?_ ?_
            rotate_left
            ·((intro w hSw; (try dsimp only at hSw); go_simp <;> with_reducible rfl); done)
            try simp only [Act.put, List.setIfInBounds_toArray, List.set_cons_zero, List.set_cons_succ]
            refine take_on (i := 8) (v := ?_) rfl (by kernel_rfl) (by kernel_rfl) (by kernel_rfl) (fun _ _ _ h => h) (by rfl) (by assumption) ?_ ?_
            rotate_left
            ·((intro w hSw; (try dsimp only at hSw); go_simp <;> with_reducible rfl); done)
            try simp only [Act.put, List.setIfInBounds_toArray, List.set_cons_zero, List.set_cons_succ]
            refine take_off (i := 9) rfl (by kernel_rfl) (by kernel_rfl) (by kernel_rfl) (fun _ _ _ h => h) (by rfl) (by assumption) ?_
            try simp only [Act.put, List.setIfInBounds_toArray, List.set_cons_zero, List.set_cons_succ]
            refine take_off (i := 10) rfl (by kernel_rfl) (by kernel_rfl) (by kernel_rfl) (fun _ _ _ h => h) (by rfl) (by assumption) ?_
            try simp only [Act.put, List.setIfInBounds_toArray, List.set_cons_zero, List.set_cons_succ]
            refine take_off (i := 11) rfl (by kernel_rfl) (by kernel_rfl) (by kernel_rfl) (fun _ _ _ h => h) (by rfl) (by assumption) ?_
            try simp only [Act.put, List.setIfInBounds_toArray, List.set_cons_zero, List.set_cons_succ]
            refine take_off (i := 12) rfl (by kernel_rfl) (by kernel_rfl) (by kernel_rfl) (fun _ _ _ h => h) (by rfl) (by assumption) ?_
            try simp only [Act.put, List.setIfInBounds_toArray, List.set_cons_zero, List.set_cons_succ]
            refine take_off (i := 13) rfl (by kernel_rfl) (by kernel_rfl) (by kernel_rfl) (fun _ _ _ h => h) (by rfl) (by assumption) ?_
            try simp only [Act.put, List.setIfInBounds_toArray, List.set_cons_zero, List.set_cons_succ]
            refine take_off (i := 14) rfl (by kernel_rfl) (by kernel_rfl) (by kernel_rfl) (fun _ _ _ h => h) (by rfl) (by assumption) ?_
            try simp only [Act.put, List.setIfInBounds_toArray, List.set_cons_zero, List.set_cons_succ]
            refine take_off (i := 15) rfl (by kernel_rfl) (by kernel_rfl) (by kernel_rfl) (fun _ _ _ h => h) (by rfl) (by assumption) ?_
            try simp only [Act.put, List.setIfInBounds_toArray, List.set_cons_zero, List.set_cons_succ]
            refine take_off (i := 16) rfl (by kernel_rfl) (by kernel_rfl) (by kernel_rfl) (fun _ _ _ h => h) (by rfl) (by assumption) ?_
            try simp only [Act.put, List.setIfInBounds_toArray, List.set_cons_zero, List.set_cons_succ]
            refine take_off (i := 17) rfl (by kernel_rfl) (by kernel_rfl) (by kernel_rfl) (fun _ _ _ h => h) (by rfl) (by assumption) ?_
            try simp only [Act.put, List.setIfInBounds_toArray, List.set_cons_zero, List.set_cons_succ]
            refine take_off (i := 18) rfl (by kernel_rfl) (by kernel_rfl) (by kernel_rfl) (fun _ _ _ h => h) (by rfl) (by assumption) ?_
            try simp only [Act.put, List.setIfInBounds_toArray, List.set_cons_zero, List.set_cons_succ]
            refine take_off (i := 19) rfl (by kernel_rfl) (by kernel_rfl) (by kernel_rfl) (fun _ _ _ h => h) (by rfl) (by assumption) ?_
            try simp only [Act.put, List.setIfInBounds_toArray, List.set_cons_zero, List.set_cons_succ]
            refine take_off (i := 20) rfl (by kernel_rfl) (by kernel_rfl) (by kernel_rfl) (fun _ _ _ h => h) (by rfl) (by assumption) ?_
            try simp only [Act.put, List.setIfInBounds_toArray, List.set_cons_zero, List.set_cons_succ]
            refine take_off (i := 21) rfl (by kernel_rfl) (by kernel_rfl) (by kernel_rfl) (fun _ _ _ h => h) (by rfl) (by assumption) ?_
            try simp only [Act.put, List.setIfInBounds_toArray, List.set_cons_zero, List.set_cons_succ]
            refine take_on (i := 22) (v := ?_) rfl (by kernel_rfl) (by kernel_rfl) (by kernel_rfl) (fun _ _ _ h => h) (by rfl) (by assumption) ?_ ?_
            rotate_left
            ·((intro w hSw; (try dsimp only at hSw); go_simp <;> with_reducible rfl); done)
            try simp only [Act.put, List.setIfInBounds_toArray, List.set_cons_zero, List.set_cons_succ]
            refine wpAnyH_done (by kernel_rfl) ?_ _
            clear hHeld z0 z1 z2 z3 y0 y1 y3
            go_wp2
            go_ret
            exact ⟨by rw [HF.out]; rfl, HKK.out.drew⟩
          ·have HF := gI (show R = 1 by rw [HR3.out, HGO.out, decide_eq_false g1]; simp)
           have g1' : ew < 1 := by omega
           refine wp_region_held_drew (S := fun w' => w'.cell? ⟨C, 3, none⟩ = some (.int .i64 ew)) (by kernel_rfl) z3 (fun hHeld => ?_)
           refine take_on (i := 0) (v := ?_) rfl (by kernel_rfl) (by kernel_rfl) (by kernel_rfl) (fun _ _ _ h => h) (by rfl) (by assumption) ?_ ?_
           rotate_left
           ·((intro w hSw; (try dsimp only at hSw); go_simp <;> with_reducible rfl); done)
           try simp only [Act.put, List.setIfInBounds_toArray, List.set_cons_zero, List.set_cons_succ]
           refine take_on (i := 1) (v := ?_) rfl (by kernel_rfl) (by kernel_rfl) (by kernel_rfl) (fun _ _ _ h => h) (by rfl) (by assumption) ?_ ?_
           rotate_left
           ·((intro w hSw; (try dsimp only at hSw); go_simp <;> with_reducible rfl); done)
           try simp only [Act.put, List.setIfInBounds_toArray, List.set_cons_zero, List.set_cons_succ]
           refine take_on (i := 2) (v := ?_) rfl (by kernel_rfl) (by kernel_rfl) (by kernel_rfl) (fun _ _ _ h => h) (by rfl) (by assumption) ?_ ?_
           rotate_left
           ·((intro w hSw; (try dsimp only at hSw); go_simp <;> with_reducible rfl); done)
           try simp only [Act.put, List.setIfInBounds_toArray, List.set_cons_zero, List.set_cons_succ]
           refine take_on (i := 3) (v := ?_) rfl (by kernel_rfl) (by kernel_rfl) (by kernel_rfl) (fun _ _ _ h => h) (by rfl) (by assumption) ?_ ?_
           rotate_left
           ·((intro w hSw; (try dsimp only at hSw); go_simp <;> with_reducible rfl); done)
           try simp only [Act.put, List.setIfInBounds_toArray, List.set_cons_zero, List.set_cons_succ]
           refine take_off (i := 4) rfl (by kernel_rfl) (by kernel_rfl) (by kernel_rfl) (fun _ _ _ h => h) (by rfl) (by assumption) ?_
           try simp only [Act.put, List.setIfInBounds_toArray, List.set_cons_zero, List.set_cons_succ]
           refine take_off (i := 5) rfl (by kernel_rfl) (by kernel_rfl) (by kernel_rfl) (fun _ _ _ h => h) (by rfl) (by assumption) ?_
           try simp only [Act.put, List.setIfInBounds_toArray, List.set_cons_zero, List.set_cons_succ]
           refine take_off (i := 6) rfl (by kernel_rfl) (by kernel_rfl) (by kernel_rfl) (fun _ _ _ h => h) (by rfl) (by assumption) ?_
           try simp only [Act.put, List.setIfInBounds_toArray, List.set_cons_zero, List.set_cons_succ]
           refine take_on (i := 7) (v := ?_) rfl (by kernel_rfl) (by kernel_rfl) (by kernel_rfl) (fun _ _ _ h => h) (by rfl) (by assumption) ?_ ?_
           rotate_left
           ·((intro w hSw; (try dsimp only at hSw); go_simp <;> with_reducible rfl); done)
           try simp only [Act.put, List.setIfInBounds_toArray, List.set_cons_zero, List.set_cons_succ]
           refine take_on (i := 8) (v := ?_) rfl (by kernel_rfl) (by kernel_rfl) (by kernel_rfl) (fun _ _ _ h => h) (by rfl) (by assumption) ?_ ?_
           rotate_left
           ·((intro w hSw; (try dsimp only at hSw); go_simp <;> with_reducible rfl); done)
           try simp only [Act.put, List.setIfInBounds_toArray, List.set_cons_zero, List.set_cons_succ]
           refine take_off (i := 9) rfl (by kernel_rfl) (by kernel_rfl) (by kernel_rfl) (fun _ _ _ h => h) (by rfl) (by assumption) ?_
           try simp only [Act.put, List.setIfInBounds_toArray, List.set_cons_zero, List.set_cons_succ]
           refine take_off (i := 10) rfl (by kernel_rfl) (by kernel_rfl) (by kernel_rfl) (fun _ _ _ h => h) (by rfl) (by assumption) ?_
           try simp only [Act.put, List.setIfInBounds_toArray, List.set_cons_zero, List.set_cons_succ]
           refine take_off (i := 11) rfl (by kernel_rfl) (by kernel_rfl) (by kernel_rfl) (fun _ _ _ h => h) (by rfl) (by assumption) ?_
           try simp only [Act.put, List.setIfInBounds_toArray, List.set_cons_zero, List.set_cons_succ]
           refine take_off (i := 12) rfl (by kernel_rfl) (by kernel_rfl) (by kernel_rfl) (fun _ _ _ h => h) (by rfl) (by assumption) ?_
           try simp only [Act.put, List.setIfInBounds_toArray, List.set_cons_zero, List.set_cons_succ]
           refine take_off (i := 13) rfl (by kernel_rfl) (by kernel_rfl) (by kernel_rfl) (fun _ _ _ h => h) (by rfl) (by assumption) ?_
           try simp only [Act.put, List.setIfInBounds_toArray, List.set_cons_zero, List.set_cons_succ]
           refine take_off (i := 14) rfl (by kernel_rfl) (by kernel_rfl) (by kernel_rfl) (fun _ _ _ h => h) (by rfl) (by assumption) ?_
           try simp only [Act.put, List.setIfInBounds_toArray, List.set_cons_zero, List.set_cons_succ]
           refine take_off (i := 15) rfl (by kernel_rfl) (by kernel_rfl) (by kernel_rfl) (fun _ _ _ h => h) (by rfl) (by assumption) ?_
           try simp only [Act.put, List.setIfInBounds_toArray, List.set_cons_zero, List.set_cons_succ]
           refine take_off (i := 16) rfl (by kernel_rfl) (by kernel_rfl) (by kernel_rfl) (fun _ _ _ h => h) (by rfl) (by assumption) ?_
           try simp only [Act.put, List.setIfInBounds_toArray, List.set_cons_zero, List.set_cons_succ]
           refine take_off (i := 17) rfl (by kernel_rfl) (by kernel_rfl) (by kernel_rfl) (fun _ _ _ h => h) (by rfl) (by assumption) ?_
           try simp only [Act.put, List.setIfInBounds_toArray, List.set_cons_zero, List.set_cons_succ]
           refine take_off (i := 18) rfl (by kernel_rfl) (by kernel_rfl) (by kernel_rfl) (fun _ _ _ h => h) (by rfl) (by assumption) ?_
           try simp only [Act.put, List.setIfInBounds_toArray, List.set_cons_zero, List.set_cons_succ]
           refine take_off (i := 19) rfl (by kernel_rfl) (by kernel_rfl) (by kernel_rfl) (fun _ _ _ h => h) (by rfl) (by assumption) ?_
           try simp only [Act.put, List.setIfInBounds_toArray, List.set_cons_zero, List.set_cons_succ]
           refine take_off (i := 20) rfl (by kernel_rfl) (by kernel_rfl) (by kernel_rfl) (fun _ _ _ h => h) (by rfl) (by assumption) ?_
           try simp only [Act.put, List.setIfInBounds_toArray, List.set_cons_zero, List.set_cons_succ]
           refine take_off (i := 21) rfl (by kernel_rfl) (by kernel_rfl) (by kernel_rfl) (fun _ _ _ h => h) (by rfl) (by assumption) ?_
           try simp only [Act.put, List.setIfInBounds_toArray, List.set_cons_zero, List.set_cons_succ]
           refine take_on (i := 22) (v := ?_) rfl (by kernel_rfl) (by kernel_rfl) (by kernel_rfl) (fun _ _ _ h => h) (by rfl) (by assumption) ?_ ?_
           rotate_left
           ·((intro w hSw; (try dsimp only at hSw); go_simp <;> with_reducible rfl); done)
           try simp only [Act.put, List.setIfInBounds_toArray, List.set_cons_zero, List.set_cons_succ]
           refine wpAnyH_done (by kernel_rfl) ?_ _
           clear hHeld z0 z1 z2 z3 y0 y1 y3
           go_wp2
           go_ret
           exact ⟨by rw [HF.out]; rfl, HKK.out.drew⟩
         ·obtain rfl : k = edges.length := by omega
          have HF := gI (show R = 0 by rw [HR3.out, hgo, List.drop_length]; cases lastE edges edges.length <;> rfl)
          clear hkp hgo
          go_wp2
          go_ret
          exact ⟨by rw [HF.out]; rfl, HKY.out.trans HK.out⟩
   ·rw [if_pos (by simpa using h3)] at hR
    have HR := gI hR
    have h1i : ¬ (64 : Int) < (nodes.length : Int) := by omega
    have h2i : ¬ (65536 : Int) < (edges.length : Int) := by omega
    have h3i : ((first.length : Int) != (nodes.length : Int)) = true := by simp; omega
    clear hR
    go_enter Tryz.func66, Tryz.ntmps66
    go_upto_region 1 with fail
    rw [HY.out, ← HB.out]
    go_wp2
    go_ret
    exact ⟨by rw [HR.out]; rfl, HKY.out⟩
  ·rw [if_pos (by omega)] at hR
   have HR := gI hR
   have h1i : ¬ (64 : Int) < (nodes.length : Int) := by omega
   have h2i : (65536 : Int) < (edges.length : Int) := by omega
   clear hR
   go_enter Tryz.func66, Tryz.ntmps66
   go_upto_region 1 with fail
   rw [HY.out, ← HB.out]
   go_wp2
   go_ret
   exact ⟨by rw [HR.out]; rfl, HKY.out⟩
 ·rw [if_pos (by omega)] at hR
  have HR := gI hR
  have h1i : (64 : Int) < (nodes.length : Int) := by omega
  clear hR
  go_enter Tryz.func66, Tryz.ntmps66
  go_upto_region 1 with fail
  rw [HY.out, ← HB.out]
  go_wp2
  go_ret
  exact ⟨by rw [HR.out]; rfl, HKY.out⟩
end Go.Proofs.YtkekenaamnhbhaaGreat
