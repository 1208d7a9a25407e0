/- meter.Shares at weights that it accepts. Conditions: the weights lie in memory, are in range, and their sum is not 0; the sort keeps its contract. -/
import Derived.Test.YtdpmkbiibmjbfaaSort
import Derived.Test.YtdpmkbiibmjbfaaDiv
import Derived.Test.YtdpmkbiibmjbfaaMeter
import Derived.Test.YtdpmkbiibmjbfaaSlice
namespace Go.Proofs.Ytdpmkbiibmjbfaa
open Go.RowKit

/-- The variables of Shares that the closure captures: total, weights, sum. -/
structure SEnv (w wr : World) (total : Int) (n bw off cap : Nat) (sm : Int) : Prop where
  b0 : wr.heap[w.heap.size]? = some (.cells #[.int .i64 total] 3 (0, 0))
  b1 : wr.heap[w.heap.size + 1]? = some (.cells #[.slice (some ⟨bw, off, none⟩) n cap] 22 (0, 0))
  b2 : wr.heap[w.heap.size + 1 + 1]? = some (.cells #[.int .i64 sm] 3 (0, 0))
  kp : Keeps [] w wr
theorem SEnv.c0 {w wr : World} {total : Int} {n bw off cap : Nat} {sm : Int} (h : SEnv w wr total n bw off cap sm) : wr.cell? ⟨w.heap.size, 0, none⟩ = some (.int .i64 total) := cell_of_one h.b0
theorem SEnv.c1 {w wr : World} {total : Int} {n bw off cap : Nat} {sm : Int} (h : SEnv w wr total n bw off cap sm) : wr.cell? ⟨w.heap.size + 1, 0, none⟩ = some (.slice (some ⟨bw, off, none⟩) n cap) := cell_of_one h.b1
theorem SEnv.c2 {w wr : World} {total : Int} {n bw off cap : Nat} {sm : Int} (h : SEnv w wr total n bw off cap sm) : wr.cell? ⟨w.heap.size + 1 + 1, 0, none⟩ = some (.int .i64 sm) := cell_of_one h.b2
theorem SEnv.f2 {w wr : World} {total : Int} {n bw off cap : Nat} {sm : Int} (h : SEnv w wr total n bw off cap sm) : wr.frozen? ⟨w.heap.size + 1 + 1, 0, none⟩ = false := free_of_one h.b2
theorem SEnv.size {w wr : World} {total : Int} {n bw off cap : Nat} {sm : Int} (h : SEnv w wr total n bw off cap sm) : w.heap.size + 1 + 1 < wr.heap.size := lt_of_block h.b2
theorem SEnv.set {w wr : World} {total : Int} {n bw off cap : Nat} {sm : Int} (h : SEnv w wr total n bw off cap sm) (x : Int) : SEnv w (wr.setCell ⟨w.heap.size + 1 + 1, 0, none⟩ (.int .i64 x)) total n bw off cap x :=
  ⟨(heap_setCell_other _ _ _ _ (by intro h; simp at h; omega)).trans h.b0, (heap_setCell_other _ _ _ _ (by intro h; simp at h)).trans h.b1, one_setCell h.b2, h.kp.setCell (by right; simp; omega) _⟩
theorem SEnv.keep {w wr w2 : World} {total : Int} {n bw off cap : Nat} {sm : Int} {S : List Nat} (h : SEnv w wr total n bw off cap sm) (k : Keeps S wr w2) (hS : ∀ x ∈ S, w.heap.size + 1 + 1 < x) : SEnv w w2 total n bw off cap sm :=
  ⟨k.heap h.b0 (fun hm => by have := hS _ hm; omega), k.heap h.b1 (fun hm => by have := hS _ hm; omega), k.heap h.b2 (fun hm => by have := hS _ hm; omega), h.kp.after k (fun x hx => by have := hS x hx; right; omega)⟩

/-- What Shares leaves: new memory alone; its row: the parts rounded down, one more for the first of the order. -/
def SharesPost (w : World) (total : Int) (ws : List Int) (e : Ending) (w' : World) : Prop :=
  ∃ (g : Nat) (ord : List Int), e = .returned (.tuple #[.slice (some ⟨g, 0, none⟩) ws.length ws.length, .int .i64 0]) ∧ w.heap.size ≤ g ∧ Keeps [] w w' ∧ ord.Perm (upTo ws.length) ∧ ord.Pairwise (Before (keyOf total (sumL ws) ws)) ∧
    Ints 3 w' g (bump (bases total (sumL ws) ws) (ord.take (total - sumL (bases total (sumL ws) ws)).toNat))

set_option maxHeartbeats 4000000 in
theorem shares_ok (total : Int) (ws : List Int) (bw off cap : Nat) (w : World) (ht0 : 0 ≤ total) (ht1 : total ≤ 1099511627776) (hwb : ∀ x ∈ ws, 0 ≤ x ∧ x ≤ 1048576) (hlen : ws.length ≤ 500) (hs : 0 < sumL ws)
    (hc : ∀ j, j < ws.length → w.cell? ⟨bw, off + j, none⟩ = some (.int .i64 (ws.getD j 0))) (hbw : bw < w.heap.size) (hsort : SortsAt ws.length) :
    Calls Try.prog 11 #[.int .i64 total, .slice (some ⟨bw, off, none⟩) ws.length cap] w (SharesPost w total ws) := by
  have HWB := Lib.hid hwb
  have HS := Lib.hid hs
  have HC := Lib.hid hc
  have HSORT := Lib.hid hsort
  have ho0 : outB total 0 1099511627776 = false := by simp [outB]; omega
  have HO0 := Lib.hid ho0
  clear hwb hs hc hsort ho0
  go_enter Try.func11, Try.ntmps11
  go_wp2_with (go_at_call 27; refine (outside_any _ _ _ _).mono ?_; rintro e w' ⟨rfl, rfl⟩; rw [HO0.out])
  go_loop [22] (fun i => ∃ k : Nat, k ≤ ws.length ∧ i = .int .i64 k) (fun i => ws.length - (intOf i).toNat)
  case atStart => exact ⟨0, Nat.zero_le _, rfl⟩
  case round =>
    obtain ⟨k, hk, rfl⟩ := hrel
    by_cases hlt : k < ws.length
    · have hb := HWB.out (ws.getD k 0) (by rw [List.getD_eq_getElem?_getD, List.getElem?_eq_getElem hlt]; simp)
      have hcx := (HC.out k hlt)
      obtain ⟨x, hx⟩ : ∃ x, x = ws.getD k 0 := ⟨_, rfl⟩
      rw [← hx] at hb hcx
      have ho : outB x 0 1048576 = false := by simp [outB]; omega
      have HO := Lib.hid ho
      clear hx ho
      go_wp2_with (go_at_call 27; refine (outside_any _ _ _ _).mono ?_; rintro e w' ⟨rfl, rfl⟩; rw [HO.out])
      go_round
      case rel => exact ⟨k + 1, by omega, by go_num⟩
      case measure => simp [intOf]; omega
    · obtain rfl : k = ws.length := by omega
      go_wp2
      have hE0 : SEnv w (((w.alloc (.cells #[.int .i64 total] 3)).alloc (.cells #[.slice (some ⟨bw, off, none⟩) ws.length cap] 22)).alloc (.cells #[.int .i64 0] 3)) total ws.length bw off cap 0 := by
        refine ⟨?_, ?_, ?_, (((Keeps.refl [] w).alloc _).alloc _).alloc _⟩
        · rw [heap_alloc_old _ _ (by simp; omega), heap_alloc_old _ _ (by simp)]; exact heap_alloc_new _ _
        · rw [heap_alloc_old _ _ (by simp)]
          have := heap_alloc_new (w.alloc (.cells #[.int .i64 total] 3)) (.cells #[.slice (some ⟨bw, off, none⟩) ws.length cap] 22)
          simpa using this
        · have := heap_alloc_new ((w.alloc (.cells #[.int .i64 total] 3)).alloc (.cells #[.slice (some ⟨bw, off, none⟩) ws.length cap] 22)) (.cells #[.int .i64 0] 3)
          simpa using this
      have HE0 := Lib.hid hE0
      clear hE0
      go_loopw [34] (fun i wr => ∃ k : Nat, k ≤ ws.length ∧ i = .int .i64 k ∧ SEnv w wr total ws.length bw off cap (sumL (ws.take k))) (fun i _ => ws.length - (intOf i).toNat)
      case atStart => exact ⟨0, Nat.zero_le _, rfl, HE0.out⟩
      case round =>
        obtain ⟨k, hk, rfl, hE⟩ := hrel
        have c2 := hE.c2
        have f2 := hE.f2
        have hsb := sumL_bd (ws.take k) 1048576 (fun x hx => HWB.out x (List.mem_of_mem_take hx))
        have hlk : (ws.take k).length = k := by simp; omega
        rw [hlk] at hsb
        obtain ⟨sb0, sb1⟩ := hsb
        by_cases hlt : k < ws.length
        · obtain ⟨hb0, hb1⟩ := HWB.out (ws.getD k 0) (by rw [List.getD_eq_getElem?_getD, List.getElem?_eq_getElem hlt]; simp)
          have hcx := hE.kp.cell (HC.out k hlt) (by simp)
          have hst := sumL_take ws k hlt
          obtain ⟨x, hx⟩ : ∃ x, x = ws.getD k 0 := ⟨_, rfl⟩
          rw [← hx] at hb0 hb1 hcx hst
          have HST := Lib.hid hst
          have HE := Lib.hid hE
          clear hx hst hE hlk
          go_wp2
          go_roundw
          case rel => exact ⟨k + 1, by omega, by go_num, by rw [HST.out]; exact HE.out.set _⟩
          case measure => simp [intOf]; omega
        · obtain rfl : k = ws.length := by omega
          rw [List.take_length] at c2 sb0 sb1 hE
          have HE := Lib.hid hE
          have hs1 := HS.out
          have hs2 : (sumL ws == 0) = false := by simp; omega
          have HSZ := hE.size
          obtain ⟨i0, hi, hz0, hz1, hz2⟩ := info_parts info3
          have hmk := fun W => run_make_ints (P := Try.prog) (T := 22) Try.underlying22 hi hz0 hz1 hz2 W ws.length (by omega) (by omega)
          simp only [Int.toNat_natCast] at hmk
          have c0 := hE.c0
          have c1 := hE.c1
          have a0 : ∀ o, (wr.alloc o).cell? ⟨w.heap.size, 0, none⟩ = some (.int .i64 total) := fun o => ((Keeps.refl [] wr).alloc o).cell c0 (by simp)
          have a1 : ∀ o, (wr.alloc o).cell? ⟨w.heap.size + 1, 0, none⟩ = some (.slice (some ⟨bw, off, none⟩) ws.length cap) := fun o => ((Keeps.refl [] wr).alloc o).cell c1 (by simp)
          have b0 : ∀ o o', ((wr.alloc o).alloc o').cell? ⟨w.heap.size, 0, none⟩ = some (.int .i64 total) := fun o o' => (((Keeps.refl [] wr).alloc o).alloc o').cell c0 (by simp)
          have b1 : ∀ o o', ((wr.alloc o).alloc o').cell? ⟨w.heap.size + 1, 0, none⟩ = some (.slice (some ⟨bw, off, none⟩) ws.length cap) := fun o o' => (((Keeps.refl [] wr).alloc o).alloc o').cell c1 (by simp)
          have hE4 : ∀ o o', SEnv w ((wr.alloc o).alloc o') total ws.length bw off cap (sumL ws) := fun o o' => hE.keep (((Keeps.refl [] wr).alloc o).alloc o') (by simp)
          have HE4 := Lib.hid hE4
          have HBB := Lib.hid (bases_bd total ws ht0 (fun x hx => (HWB.out x hx).1) hs1)
          have hwz : w.heap.size ≤ wr.heap.size := hE.kp.size
          clear hE hlk hi hz0 hz1 hz2 hE4
          go_wp2
          obtain ⟨gp, hgp⟩ : ∃ gp, gp = wr.heap.size := ⟨_, rfl⟩
          have hI1 : Ints 3 ((wr.alloc (.cells (Array.replicate ws.length (.int .i64 0)) 3)).alloc (.cells (Array.replicate ws.length (.int .i64 0)) 3)) gp (fillTo (bases total (sumL ws) ws) 0) := by
            unfold Ints
            rw [hgp, heap_alloc_old _ _ (by simp), heap_alloc_new, fillTo_zero, bases_length]
            simp
          have hI2 : Ints 3 ((wr.alloc (.cells (Array.replicate ws.length (.int .i64 0)) 3)).alloc (.cells (Array.replicate ws.length (.int .i64 0)) 3)) (gp + 1) (fillTo (upTo ws.length) 0) := by
            unfold Ints
            have := heap_alloc_new (wr.alloc (.cells (Array.replicate ws.length (.int .i64 0)) 3)) (.cells (Array.replicate ws.length (.int .i64 0)) 3)
            rw [World.size_alloc, ← hgp] at this
            rw [this, fillTo_zero, upTo_length]
            simp
          have hgs : w.heap.size + 1 + 1 < gp := by omega
          rw [← hgp]
          have HI1 := Lib.hid hI1
          have HI2 := Lib.hid hI2
          have HGP := Lib.hid hgp
          clear hI1 hI2 hgp a0 a1 b0 b1 c0 c1 c2 f2 hmk HE HSZ hwz
          obtain ⟨wo, hwo⟩ : ∃ wo : World, wo = wr := ⟨_, rfl⟩
          go_loopw [13, 53] (fun l i wl => ∃ k : Nat, k ≤ ws.length ∧ i = .int .i64 k ∧ l = .int .i64 (total - sumL ((bases total (sumL ws) ws).take k)) ∧ SEnv w wl total ws.length bw off cap (sumL ws) ∧
            Ints 3 wl gp (fillTo (bases total (sumL ws) ws) k) ∧ Ints 3 wl (gp + 1) (fillTo (upTo ws.length) k)) (fun _ i _ => ws.length - (intOf i).toNat)
          case atStart => exact ⟨0, Nat.zero_le _, rfl, by simp [sumL], HE4.out _ _, HI1.out, HI2.out⟩
          case round =>
            obtain ⟨k, hk, rfl, rfl, hE, hP, hO⟩ := hrel
            have hPl : (fillTo (bases total (sumL ws) ws) k).length = ws.length := by rw [fillTo_length _ _ (by rw [bases_length]; exact hk), bases_length]
            have hOl : (fillTo (upTo ws.length) k).length = ws.length := by rw [fillTo_length _ _ (by rw [upTo_length]; exact hk), upTo_length]
            have hsb := sumL_bd ((bases total (sumL ws) ws).take k) total (fun x hx => HBB.out x (List.mem_of_mem_take hx))
            have hlk : ((bases total (sumL ws) ws).take k).length = k := by simp [bases_length]; omega
            rw [hlk] at hsb
            have hkt : total * (k : Int) ≤ 1099511627776 * 500 := Int.mul_le_mul ht1 (by omega) (by omega) (by omega)
            obtain ⟨sb2, sb3⟩ := hsb
            by_cases hlt : k < ws.length
            · obtain ⟨hb0, hb1⟩ := HWB.out (ws.getD k 0) (by rw [List.getD_eq_getElem?_getD, List.getElem?_eq_getElem hlt]; simp)
              have hcx := hE.kp.cell (HC.out k hlt) (by simp)
              have hbk := bases_get total (sumL ws) ws k hlt
              have hst := sumL_take (bases total (sumL ws) ws) k (by rw [bases_length]; exact hlt)
              have hfp := fillTo_set (bases total (sumL ws) ws) k (by rw [bases_length]; exact hlt)
              have hfo := fillTo_set (upTo ws.length) k (by rw [upTo_length]; exact hlt)
              rw [upTo_get _ _ hlt] at hfo
              have hxs := mem_le_sumL ws (fun x hx => (HWB.out x hx).1) (ws.getD k 0) (by rw [List.getD_eq_getElem?_getD, List.getElem?_eq_getElem hlt]; simp)
              obtain ⟨x, hx⟩ : ∃ x, x = ws.getD k 0 := ⟨_, rfl⟩
              rw [← hx] at hb0 hb1 hcx hbk hxs
              rw [hbk] at hst hfp
              obtain ⟨bb0, bb1⟩ := base_bd total (sumL ws) x ht0 hs1 hb0 hxs
              have mx0 : 0 ≤ total * x := Int.mul_nonneg ht0 hb0
              have mx1 : total * x ≤ 1099511627776 * 1048576 := Int.mul_le_mul ht1 hb1 hb0 (by omega)
              have c0 := hE.c0
              have c2 := hE.c2
              have p0 := hP.cellD k (by omega)
              have pf := hP.fz k
              have o0 := hO.cellD k (by omega)
              have of := hO.fz k
              have HST := Lib.hid hst
              have HFP := Lib.hid hfp
              have HFO := Lib.hid hfo
              have HE := Lib.hid hE
              have HP := Lib.hid hP
              have HO := Lib.hid hO
              clear hx hst hfp hfo hE hP hO hlk hbk hPl hOl hxs hwo
              go_wp2
              go_roundw
              case rel =>
                refine ⟨k + 1, by omega, by go_num, by rw [HST.out]; go_num, HE.out.keep (((Keeps.refl [gp, gp + 1] _).setCell (by simp) _).setCell (by simp) _) (by simp; omega), ?_, ?_⟩
                · rw [← HFP.out]; exact (HP.out.set k _).keep ((Keeps.refl [gp + 1] _).setCell (by simp) _) (by simp)
                · rw [← HFO.out]; exact (HO.out.keep ((Keeps.refl [gp] _).setCell (by simp) _) (by simp)).set k _
              case measure => simp [intOf]; omega
            · obtain rfl : k = ws.length := by omega
              obtain ⟨ld0, ld1⟩ := left_bd total ws hs1
              have htk : (bases total (sumL ws) ws).take ws.length = bases total (sumL ws) ws := List.take_of_length_le (by rw [bases_length]; exact Nat.le_refl _)
              rw [htk]
              obtain ⟨ln, hln⟩ := Int.eq_ofNat_of_zero_le ld0
              rw [hln] at ld1 ⊢
              have hln' : ln ≤ ws.length := by omega
              have hP' : Ints 3 wr gp (bases total (sumL ws) ws) := by rw [show ws.length = (bases total (sumL ws) ws).length from (bases_length _ _ _).symm, fillTo_all] at hP; exact hP
              have hO' : Ints 3 wr (gp + 1) (upTo ws.length) := by
                have := fillTo_all (upTo ws.length)
                rw [upTo_length] at this
                rw [this] at hO; exact hO
              have hmf : ∀ (fn : Fn) (first cap : Array Value) (w : World), (Instr.makeFunc fn first cap).run Try.prog w = .ok (.func fn first cap) w := fun _ _ _ _ => rfl
              have hCE : CmpEnv wr w.heap.size (w.heap.size + 1) (w.heap.size + 1 + 1) bw off cap total (sumL ws) ws :=
                ⟨hE.c0, hE.c1, hE.c2, fun j hj => hE.kp.cell (HC.out j hj) (by simp), ⟨ht0, ht1⟩, ⟨hs1, by omega⟩, HWB.out, by omega⟩
              have hso := HSORT.out (gp + 1) w.heap.size (w.heap.size + 1) (w.heap.size + 1 + 1) bw off cap total (sumL ws) ws (upTo ws.length) ws.length wr hCE hO' (by simp; omega) (fun x hx => upTo_mem _ _ hx) (upTo_stab _ _) (upTo_length _)
              rw [upTo_length] at hso
              have HSO := Lib.hid hso
              have HP := Lib.hid hP'
              have HK := Lib.hid hE.kp
              have HLN := Lib.hid hln
              clear hso hP hP' hO hO' hE hCE htk hln hPl hOl hlk hwo ld0 ld1
              go_wp2_with fail
              refine Calls.mono HSO.out ?_
              rintro e w1 ⟨rfl, ys, hI, hT, hSt, hDe, hk1⟩
              have hyl : ys.length = ws.length := by have := hT.len; rw [upTo_length] at this; exact this
              have hpm : ys.Perm (upTo ws.length) := hT.perm
              have hpw : ys.Pairwise (Before (keyOf total (sumL ws) ws)) := pairwise_of hSt (by rw [hyl]; exact hDe)
              have HI := Lib.hid hI
              have HPM := Lib.hid hpm
              have HPW := Lib.hid hpw
              have HYL := Lib.hid hyl
              have HK1 := Lib.hid (HK.out.after hk1 (by simp; omega))
              have HP1 := Lib.hid (HP.out.keep hk1 (by simp))
              clear hI hT hSt hDe hyl hpm hpw hk1
              go_wp2
              obtain ⟨wo, hwo⟩ : ∃ wo : World, wo = wr := ⟨_, rfl⟩
              go_loopw [84] (fun i wl => ∃ k : Nat, k ≤ ln ∧ i = .int .i64 k ∧ Ints 3 wl gp (bump (bases total (sumL ws) ws) (ys.take k)) ∧ Ints 3 wl (gp + 1) ys ∧ Keeps [] w wl) (fun i _ => ln - (intOf i).toNat)
              case atStart => exact ⟨0, Nat.zero_le _, rfl, HP1.out, HI.out, HK1.out⟩
              case round =>
                obtain ⟨k, hk, rfl, hP, hO, hK⟩ := hrel
                have hyl := HYL.out
                by_cases hlt : k < ln
                · have hym : ys.getD k 0 ∈ ys := by rw [List.getD_eq_getElem?_getD, List.getElem?_eq_getElem (by omega)]; simp
                  obtain ⟨i0, i1⟩ := upTo_mem _ _ (HPM.out.mem_iff.1 hym)
                  have hnd : (ys.take k).Nodup := (HPM.out.nodup_iff.2 (upTo_nodup _)).sublist (List.take_sublist _ _)
                  have hsn := bump_snoc (bases total (sumL ws) ws) (ys.take k) (ys.getD k 0)
                  rw [← take_snoc ys k (by omega)] at hsn
                  have o0 := hO.cellG k (by omega)
                  obtain ⟨j, hj⟩ := Int.eq_ofNat_of_zero_le i0
                  rw [hj] at o0 i1 hsn
                  have hj' : j < ws.length := by omega
                  have hbl : (bump (bases total (sumL ws) ws) (ys.take k)).length = ws.length := by rw [bump_length, bases_length]
                  have p0 := hP.cellG j (by omega)
                  have pf := hP.fz j
                  have hbg := bump_get (bases total (sumL ws) ws) (ys.take k) hnd (fun x hx => by rw [bases_length]; exact upTo_mem _ _ (HPM.out.mem_iff.1 (List.mem_of_mem_take hx))) j
                  have hbd := HBB.out ((bases total (sumL ws) ws).getD j 0) (by rw [List.getD_eq_getElem?_getD, List.getElem?_eq_getElem (by rw [bases_length]; exact hj')]; simp)
                  simp only [Int.toNat_natCast] at hsn
                  have hv : 0 ≤ (bump (bases total (sumL ws) ws) (ys.take k)).getD j 0 ∧ (bump (bases total (sumL ws) ws) (ys.take k)).getD j 0 ≤ 1099511627777 := by rw [hbg]; split <;> omega
                  obtain ⟨v, hv'⟩ : ∃ v, v = (bump (bases total (sumL ws) ws) (ys.take k)).getD j 0 := ⟨_, rfl⟩
                  rw [← hv'] at p0 hv hsn
                  obtain ⟨v0, v1⟩ := hv
                  have HSN := Lib.hid hsn
                  have HP := Lib.hid hP
                  have HO := Lib.hid hO
                  have HK := Lib.hid hK
                  clear hsn hP hO hK hv' hbg hbd hbl hnd hym hj hyl hwo hmf
                  go_wp2
                  go_roundw
                  case rel => exact ⟨k + 1, by omega, by go_num, by rw [HSN.out]; exact HP.out.set j _, HO.out.keep ((Keeps.refl [gp] _).setCell (by simp) _) (by simp), HK.out.setCell (by right; simp; omega) _⟩
                  case measure => simp [intOf]; omega
                · obtain rfl : k = ln := by omega
                  have HP := Lib.hid hP
                  have HK := Lib.hid hK
                  clear hP hO hK hyl hwo hmf
                  go_wp2
                  go_ret2
                  exact ⟨gp, ys, rfl, by omega, HK.out, HPM.out, HPW.out, by rw [HLN.out]; exact HP.out⟩

end Go.Proofs.Ytdpmkbiibmjbfaa
