/- Part 22 of the proof. No condition: every lemma says its own. -/
import Derived.Laws.BitsAllLaws
import Derived.Test.YtphnbmdcgcchaaaDoorEap
import Derived.Test.YtphnbmdcgcchaaaDoorEau
namespace Go.Proofs.YtphnbmdcgcchaaaDoor
open Go.RowKit Go.Sort Go.BigFrame
open Go.RowKit Go.Sort Go.BigFrame Classical
set_option maxRecDepth 100000
set_option maxHeartbeats 16000000
structure WEnv (w : World) (wb : Nat) (x : Gr) (rows : List Nat) : Prop where
 ways : WaysAt w wb x rows
 ok : GrOK x
 rw_ : WRows (Ere x.edges) x.nodes.length rows
 lt : ∀ n, n < rows.length → rows.getD n 0 < 2 ^ 64
 tab : TabW w
theorem WEnv.keep {w w' : World} {wb : Nat} {x : Gr} {rows : List Nat} (h : WEnv w wb x rows) (k : Keeps [] w w') : WEnv w' wb x rows := ⟨h.ways.keep k, h.ok, h.rw_, h.lt, h.tab.keep k (by simp)⟩
theorem WEnv.len {w : World} {wb : Nat} {x : Gr} {rows : List Nat} (h : WEnv w wb x rows) : rows.length = x.nodes.length := h.rw_.1
def andN (s p : Nat) : Nat := s &&& (18446744073709551615 - p)
theorem andN_bit {s p : Nat} (hp : p < 2 ^ 64) (i : Nat) (hi : i < 64) : (andN s p).testBit i = (s.testBit i && !p.testBit i) := by
 have e : 18446744073709551615 - p = 2 ^ 64 - (p + 1) := by omega
 rw [andN, Nat.testBit_and, e, Nat.testBit_two_pow_sub_succ hp]
 simp [hi]
theorem andN_le (s p : Nat) : andN s p ≤ s := Nat.and_le_left
def cntB (s : Nat) : Nat → Nat
 | 0 => 0
 | k + 1 => cntB s k + if s.testBit k then 1 else 0
theorem cntB_le_k (s : Nat) : ∀ k, cntB s k ≤ k
 | 0 => Nat.le_refl 0
 | k + 1 => by have := cntB_le_k s k; unfold cntB; split <;> omega
theorem cntB_mono {s t : Nat} : ∀ k, (∀ i, i < k → t.testBit i = true → s.testBit i = true) → cntB t k ≤ cntB s k
 | 0, _ => Nat.le_refl 0
 | k + 1, h => by
  have h1 := cntB_mono k fun i hi => h i (by omega)
  have h2 := h k (by omega)
  unfold cntB
  cases ht : t.testBit k with
  | false => simp; omega
  | true => rw [h2 ht]; simp; omega
theorem cntB_lt {s t : Nat} {n : Nat} : ∀ k, n < k → (∀ i, i < k → t.testBit i = true → s.testBit i = true) → s.testBit n = true → t.testBit n = false → cntB t k < cntB s k
 | k + 1, hn, h, hs, ht => by
  have h2 := h k (by omega)
  unfold cntB
  rcases Nat.lt_or_eq_of_le (show n ≤ k by omega) with e | rfl
  ·have h1 := cntB_lt k e (fun i hi => h i (by omega)) hs ht
   cases ht : t.testBit k with
   | false => simp; omega
   | true => rw [h2 ht]; simp; omega
  ·have h1 := cntB_mono n fun i hi => h i (by omega)
   rw [hs, ht]
   simp
   omega
theorem cntB_pos {s n k : Nat} (hn : n < k) (hs : s.testBit n = true) : 0 < cntB s k := by
 have h := cntB_lt (s := s) (t := 0) k hn (fun i _ h => by simp at h) hs (by simp)
 omega
def partsN (rows : List Nat) : Nat → Nat → List Nat
 | 0, _ => []
 | f + 1, s => if s = 0 then [] else partN rows (lowN s) :: partsN rows f (andN s (partN rows (lowN s)))
def Nodes (N s : Nat) : Prop := s < 2 ^ 64 ∧ ∀ i, s.testBit i = true → i < N
theorem Nodes.low {N s : Nat} (h : Nodes N s) (h0 : s ≠ 0) : lowN s < N ∧ s.testBit (lowN s) = true := ⟨h.2 _ (lowN_bit h0 h.1), lowN_bit h0 h.1⟩
theorem Nodes.part {rows : List Nat} {N : Nat} (hl : rows.length = N) (hN : N ≤ 64) (n : Nat) : Nodes N (partN rows n) := ⟨partN_lt rows n (by omega), fun i hi => by rw [partN_bit] at hi; omega⟩
theorem Nodes.less {N s p : Nat} (h : Nodes N s) (hp : p < 2 ^ 64) : Nodes N (andN s p) := by
 have hlt : andN s p < 2 ^ 64 := Nat.lt_of_le_of_lt (andN_le s p) h.1
 refine ⟨hlt, fun i hi => ?_⟩
 rcases Nat.lt_or_ge i 64 with h64 | h64
 ·rw [andN_bit hp i h64, Bool.and_eq_true] at hi
  exact h.2 i hi.1
 ·rw [Nat.testBit_lt_two_pow (Nat.lt_of_lt_of_le hlt (Nat.pow_le_pow_right (by decide) h64))] at hi
  cases hi
theorem part_self {R : Nat → Nat → Prop} {N : Nat} {rows : List Nat} (h : WRows R N rows) {n : Nat} (hn : n < N) : (partN rows n).testBit n = true := by
 have h1 := (h.2 n hn n).2 (.refl n)
 rw [partN_bit]
 exact ⟨h1, by rw [h.1]; exact hn, h1⟩
theorem parts_less {R : Nat → Nat → Prop} {N : Nat} {rows : List Nat} (h : WRows R N rows) (hN : N ≤ 64) {s : Nat} (hs : Nodes N s) (h0 : s ≠ 0) : cntB (andN s (partN rows (lowN s))) 64 < cntB s 64 := by
 obtain ⟨h1, h2⟩ := hs.low h0
 have hp := (Nodes.part h.1 hN (lowN s)).1
 refine cntB_lt 64 (by omega) (fun i hi hb => ?_) h2 ?_
 ·rw [andN_bit hp i hi, Bool.and_eq_true] at hb
  exact hb.1
 ·rw [andN_bit hp _ (by omega), part_self h h1]
  simp
theorem parts_any (wb : Nat) (x : Gr) (rows : List Nat) (s : Nat) (w : World) (E : WEnv w wb x rows) (hs : Nodes x.nodes.length s) :
  Calls Tryd.prog 17 #[.pointer (some ⟨wb, 0, none⟩), .int .u64 s] w fun e w' => ∃ a c, e = .returned (sv a (partsN rows 64 s).length c) ∧ SliceAt w' 59 1 a (partsN rows 64 s).length c ((partsN rows 64 s).map fun r => .int .u64 ((r : Nat) : Int)) ∧ Keeps [] w w' ∧ ∀ g, a = some g → w.heap.size ≤ g := by
 obtain ⟨P, hP⟩ : ∃ P, P = partsN rows 64 s := ⟨_, rfl⟩
 rw [← hP]
 have HP := Lib.hid hP
 have HE := Lib.hid E
 have HS := Lib.hid hs
 have hln := E.ok.ln
 have HLN := Lib.hid hln
 obtain ⟨ii, hii, hiz, his, hib⟩ := infoParts infoNs
 have HII := Lib.hid hii
 have HIZ := Lib.hid hiz
 have HIS := Lib.hid his
 have HIB := Lib.hid hib
 clear hP E hs hii hiz his hib hln
 go_enter Tryd.func17, Tryd.ntmps17
 go_wp2
 go_loopw [1, 5] (fun v1 v5 wr => ∃ (f s' : Nat) (acc : List Nat) (a : Option Nat) (c : Nat), v1 = .int .u64 ((s' : Nat) : Int) ∧ v5 = .slice (a.map fun g => ⟨g, 0, none⟩) acc.length c ∧ Nodes x.nodes.length s' ∧ cntB s' 64 ≤ f ∧ acc.length + cntB s' 64 ≤ 64 ∧ acc ++ partsN rows f s' = P ∧
  SliceAt wr 59 1 a acc.length c (acc.map fun r => .int .u64 ((r : Nat) : Int)) ∧ Keeps [] w wr ∧ ∀ g, a = some g → w.heap.size ≤ g) (fun v1 _ _ => cntB (intOf v1).toNat 64)
 case atStart => exact ⟨64, s, [], none, 0, rfl, rfl, HS.out, cntB_le_k _ _, by simpa using cntB_le_k s 64, by rw [HP.out]; rfl, SliceAt.nil _ _ _, Keeps.refl _ _, by simp⟩
 case round =>
  obtain ⟨f, s', acc, a, c, rfl, rfl, hn, hf, hacc, hap, hsl, hk, hga⟩ := hrel
  obtain ⟨wo, hwo⟩ : ∃ wo : World, wo = wr := ⟨_, rfl⟩
  subst hwo
  have HN := Lib.hid hn
  have HSL := Lib.hid hsl
  have HK := Lib.hid hk
  have HGA := Lib.hid hga
  have HAP := Lib.hid hap
  by_cases h0 : s' = 0
  ·subst h0
   have hfin : acc = P := by
    rw [← hap]
    cases f <;> simp [partsN]
   subst hfin
   clear hn hf hacc hap hsl hk hga HAP HP
   go_wp2
   go_ret
   exact ⟨a, c, by simp [sv], HSL.out, HK.out, HGA.out⟩
  ·have hz : ((s' : Int) != 0) = true := by simp; omega
   obtain ⟨hl1, hl2⟩ := hn.low h0
   have hEw := HE.out.keep hk
   have HF := Lib.hid (first_any s' wo h0 hn.1 hEw.tab)
   have HPA := Lib.hid (part_any wb x rows (lowN s') wo hEw.ways hEw.len HLN.out hEw.lt (by rw [hEw.len]; exact hl1))
   have hpl := (Nodes.part hEw.len HLN.out (lowN s')).1
   have hand := u64_andNot_nat s' (partN rows (lowN s')) hn.1 hpl
   have HLESS := Lib.hid (parts_less hEw.rw_ HLN.out hn h0)
   have HNL := Lib.hid (hn.less hpl)
   have hcp := cntB_pos (show lowN s' < 64 by have := HLN.out; omega) hl2
   obtain ⟨f', rfl⟩ : ∃ f', f = f' + 1 := ⟨f - 1, by omega⟩
   have HAP2 := Lib.hid (show (acc ++ [partN rows (lowN s')]) ++ partsN rows f' (andN s' (partN rows (lowN s'))) = P by
    rw [← hap, partsN, if_neg h0, List.append_assoc]; rfl)
   have HF1 := Lib.hid (show cntB (andN s' (partN rows (lowN s'))) 64 ≤ f' by have := HLESS.out; omega)
   have HF2 := Lib.hid (show (acc.length + 1) + cntB (andN s' (partN rows (lowN s'))) 64 ≤ 64 by have := HLESS.out; omega)
   have hal : acc.length ≤ 64 := by omega
   have HAL := Lib.hid hal
   obtain ⟨p, hp⟩ : ∃ p, p = partN rows (lowN s') := ⟨_, rfl⟩
   rw [show s' &&& (18446744073709551615 - partN rows (lowN s')) = andN s' (partN rows (lowN s')) from rfl] at hand
   simp only [← hp] at HPA hand HLESS HNL HAP2 HF1 HF2
   obtain ⟨t, ht⟩ : ∃ t, t = andN s' p := ⟨_, rfl⟩
   simp only [← ht] at hand HLESS HNL HAP2 HF1 HF2
   clear hn hf hacc hap hsl hk hga hl1 hl2 hEw hpl hcp hp ht h0
   go_wp2_with (first
    | (go_at_call 20; refine HF.out.mono ?_; rintro e w' ⟨rfl, rfl⟩)
    | (go_at_call 38; refine HPA.out.mono ?_))
   rintro e w1 ⟨rfl, hk1⟩
   have HSL1 := Lib.hid (HSL.out.keep hk1 (by simp))
   have HK1 := Lib.hid (HK.out.trans hk1)
   clear hk1
   go_wp2_with (at_builtin; refine wpList_append_sl rfl (.tmp 13) (.tmp 15) 56 rfl 59 ii _ 1 8 Tryd.underlying56 HII.out HIZ.out HIS.out HIB.out rfl (by decide) a acc.length c _ rfl (HSL1.out.alloc _) ⟨w1.heap.size, 0, none⟩ 1 1 [.int .u64 p] rfl rfl (news_row' _ _ _ _ rfl) (by intro u hu; simp at hu; subst hu; rfl) (by decide) (by have := HAL.out; omega) (by have := HAL.out; omega) ?hk)
   case hk =>
    intro g c2 w2 hs2 hk2 hg2
    have HS2 := Lib.hid hs2
    have HK2 := Lib.hid ((HK1.out.trans (Keeps.a1 w1 (.cells #[.int .u64 p] 59))).after hk2 (fun q hq => .inr (HGA.out q (by simpa using hq))))
    have HG2 := Lib.hid (show w.heap.size ≤ g from by
     rcases hg2 with e | e
     ·exact HGA.out g e
     ·have := HK1.out.size; omega)
    clear hs2 hk2 hg2
    go_wp2
    go_roundw
    case rel =>
     refine ⟨f', t, acc ++ [p], some g, c2, rfl, by simp, HNL.out, HF1.out, by simpa using HF2.out, HAP2.out, ?_, HK2.out, fun g' h => by cases h; exact HG2.out⟩
     have h := HS2.out
     simpa using h
    case measure =>
     have := HLESS.out
     simpa [intOf] using this
def BridgeAt (es : List E4) (rows : List Nat) (a b : Nat) : Prop := ∃ v, Lead (BSucc es (partN rows a) (rows.getD a 0 &&& leadN rows b rows.length) (partN rows b)) ((a : Int), (a : Int), (b : Int)) v ((a : Int), (b : Int), (b : Int))
def Bridged (es : List E4) (rows : List Nat) (s t : Nat) : Prop := (rows.getD (lowN s) 0).testBit (lowN t) = true ∧ ∃ a b, s.testBit a = true ∧ t.testBit b = true ∧ BridgeAt es rows a b
theorem bridged_any (wb : Nat) (x : Gr) (rows : List Nat) (s t : Nat) (w : World) (E : WEnv w wb x rows) (hs : Nodes x.nodes.length s) (ht : Nodes x.nodes.length t) (hs0 : s ≠ 0) (ht0 : t ≠ 0) (hst : ∀ i, s.testBit i = true → t.testBit i = true → False) :
  Calls Tryd.prog 21 #[.pointer (some ⟨wb, 0, none⟩), .int .u64 s, .int .u64 t] w fun e w' => ∃ b : Bool, e = .returned (.bool b) ∧ (b = true ↔ Bridged x.edges rows s t) ∧ Keeps [] w w' := by
 obtain ⟨ob, rb, hbx, hus, _⟩ := E.ways.box
 obtain ⟨q0, q1, q2, q3, q4, q5⟩ := way_cells hbx
 have hl1 := hs.low hs0
 have hl2 := ht.low ht0
 have u := hus.cell (lowN s) (by rw [E.len]; exact hl1.1)
 have hln := E.ok.ln
 obtain ⟨N, hN⟩ : ∃ N, N = x.nodes.length := ⟨_, rfl⟩
 have HF1 := Lib.hid (fun W (k : Keeps [] w W) => first_any s W hs0 hs.1 (E.tab.keep k (by simp)))
 have HF2 := Lib.hid (fun W (k : Keeps [] w W) => first_any t W ht0 ht.1 (E.tab.keep k (by simp)))
 have HH := Lib.hid (fun W => hasN_any (rows.getD (lowN s) 0) (lowN t) W (by omega) (E.lt _ (by rw [E.len]; exact hl1.1)))
 have HS1 := Lib.hid (fun i (hi : i < 64) W => hasN_any s i W hi hs.1)
 have HT1 := Lib.hid (fun i (hi : i < 64) W => hasN_any t i W hi ht.1)
 have HBR := Lib.hid (fun a b (ha : a < N) (hb : b < N) (hab : a ≠ b) W (k : Keeps [] w W) => bridge_any wb x rows a b W (E.ways.keep k) E.ok E.len E.lt (by rw [E.len, ← hN]; exact ha) (by rw [E.len, ← hN]; exact hb) hab)
 have HST := Lib.hid hst
 have HNS := Lib.hid hs
 have HNT := Lib.hid ht
 have hls : lowN s < N := by rw [hN]; exact hl1.1
 have hlt : lowN t < 64 := by omega
 have HB := Lib.hid (show (rows.getD (lowN s) 0).testBit (lowN t) = true ↔ (rows.getD (lowN s) 0).testBit (lowN t) = true from Iff.rfl)
 have HEQ := Lib.hid (show Bridged x.edges rows s t ↔ (rows.getD (lowN s) 0).testBit (lowN t) = true ∧ ∃ a b, s.testBit a = true ∧ t.testBit b = true ∧ BridgeAt x.edges rows a b from Iff.rfl)
 obtain ⟨tb, htb⟩ : ∃ tb, tb = (rows.getD (lowN s) 0).testBit (lowN t) := ⟨_, rfl⟩
 rw [← htb] at HH HEQ
 obtain ⟨G, hG⟩ : ∃ G, G = Bridged x.edges rows s t := ⟨_, rfl⟩
 rw [← hG] at HEQ ⊢
 obtain ⟨rs, hrs⟩ : ∃ n, n = rows.getD (lowN s) 0 := ⟨_, rfl⟩
 simp only [← hrs] at HH u
 obtain ⟨ls, hls2⟩ : ∃ n, n = lowN s := ⟨_, rfl⟩
 obtain ⟨lt, hlt2⟩ : ∃ n, n = lowN t := ⟨_, rfl⟩
 simp only [← hls2] at HF1 u hls
 simp only [← hlt2] at HF2 HH hlt
 rw [← hN] at q1 q5 hln
 have HLN := Lib.hid hln
 have QC := Lib.hid q1
 clear HB hbx hus E hs ht hs0 ht0 hst hl1 hl2 htb hG hls2 hlt2 hrs
 subst hN
 go_enter Tryd.func21, Tryd.ntmps21
 go_upto_region 1 with fail
 go_quiet ((first | (go_at_call 20; exact quiet_left (HF1.out _ ((Keeps.refl [] w).drewN _))) | (go_at_call 20; exact quiet_left (HF2.out _ ((Keeps.refl [] w).drewN _))) | (go_at_call 23; exact quiet_left (HH.out _))))
 have KQ := Lib.hid ((Keeps.refl [] w).drewN nq)
 have q1 := KQ.out.cell q1 (by simp)
 clear q0 q2 q3 q4 q5 u
 generalize w.drewN nq = V at *
 cases tb with
 | false =>
  go_wp2
  go_ret
  exact ⟨false, rfl, by rw [HEQ.out]; simp, KQ.out⟩
 | true =>
  go_wp2
  go_loopw [29] (fun v wr => ∃ a : Nat, v = .int .i64 a ∧ a ≤ x.nodes.length ∧ Keeps [] w wr ∧ ∀ a' b', a' < a → b' < x.nodes.length → s.testBit a' = true → t.testBit b' = true → ¬ BridgeAt x.edges rows a' b') (fun v _ => x.nodes.length - (intOf v).toNat)
  case atStart => exact ⟨0, rfl, Nat.zero_le _, KQ.out, fun a' b' h => absurd h (Nat.not_lt_zero _)⟩
  case round =>
   obtain ⟨a, rfl, ha, hka, hna⟩ := hrel
   obtain ⟨wA, hwA⟩ : ∃ wA : World, wA = wr := ⟨_, rfl⟩
   subst hwA
   have HKA := Lib.hid hka
   have HNA := Lib.hid hna
   have q1 := hka.cell QC.out (by simp)
   clear hka hna
   by_cases hlt1 : a < x.nodes.length
   ·go_wp2
    go_loopw [38] (fun v wr => ∃ b : Nat, v = .int .i64 b ∧ b ≤ x.nodes.length ∧ Keeps [] w wr ∧ ∀ b', b' < b → s.testBit a = true → t.testBit b' = true → ¬ BridgeAt x.edges rows a b') (fun v _ => x.nodes.length - (intOf v).toNat)
    case atStart => exact ⟨0, rfl, Nat.zero_le _, HKA.out, fun b' h => absurd h (Nat.not_lt_zero _)⟩
    case round =>
     obtain ⟨b, rfl, hb, hkb, hnb⟩ := hrel
     obtain ⟨wB, hwB⟩ : ∃ wB : World, wB = wr := ⟨_, rfl⟩
     subst hwB
     have HKB := Lib.hid hkb
     have HNB := Lib.hid hnb
     clear hkb hnb
     by_cases hlt2 : b < x.nodes.length
     ·have hca := Lib.hid (HS1.out a (by have := HLN.out; omega))
      have hcb := Lib.hid (HT1.out b (by have := HLN.out; omega))
      obtain ⟨sa, hsa⟩ : ∃ v, v = s.testBit a := ⟨_, rfl⟩
      obtain ⟨sb, hsb⟩ : ∃ v, v = t.testBit b := ⟨_, rfl⟩
      simp only [← hsa] at hca
      simp only [← hsb] at hcb
      have HSA := Lib.hid hsa
      have HSB := Lib.hid hsb
      have hb1 : b + 1 ≤ 64 := by have := HLN.out; omega
      clear hsa hsb
      cases sa with
      | false =>
       go_wp2_with (go_at_call 23; refine (hca.out _).mono ?_; rintro e w' ⟨rfl, rfl⟩)
       go_roundw
       case rel => exact ⟨b + 1, by go_num, hlt2, HKB.out, fun b' h h1 => by rw [← HSA.out] at h1; cases h1⟩
       case measure => simp [intOf]; omega
      | true =>
       cases sb with
       | false =>
        go_wp2_with (go_at_call 23; (first | with_reducible refine (hca.out _).mono ?_ | with_reducible refine (hcb.out _).mono ?_); rintro e w' ⟨rfl, rfl⟩)
        go_roundw
        case rel => exact ⟨b + 1, by go_num, hlt2, HKB.out, fun b' h h1 h2 => by
         rcases Nat.lt_or_eq_of_le (show b' ≤ b by omega) with e | rfl
         ·exact HNB.out b' e h1 h2
         ·rw [← HSB.out] at h2; cases h2⟩
        case measure => simp [intOf]; omega
       | true =>
        have HCB := Lib.hid (HBR.out a b hlt1 hlt2 (fun e => HST.out a HSA.out.symm (by rw [e]; exact HSB.out.symm)) wB HKB.out)
        go_wp2_with (first
         | (go_at_call 23; (first | with_reducible refine (hca.out _).mono ?_ | with_reducible refine (hcb.out _).mono ?_); rintro e w' ⟨rfl, rfl⟩)
         | (go_at_call 33; refine HCB.out.mono ?_))
        rintro e w5 ⟨hk5, h5⟩
        have HK5 := Lib.hid (HKB.out.trans hk5)
        clear hk5
        rcases h5 with ⟨a5, c5, word, rfl, _, hle, _⟩ | ⟨rfl, hno⟩
        ·have HYES := Lib.hid (show G from HEQ.out.2 ⟨by first | rfl | trivial, a, b, HSA.out.symm, HSB.out.symm, word, hle.1⟩)
         clear hle
         go_wp2
         go_ret
         exact ⟨true, rfl, by simp [HYES.out], HK5.out⟩
        ·have HNO := Lib.hid hno
         clear hno
         go_wp2
         go_roundw
         case rel => exact ⟨b + 1, by go_num, hlt2, HK5.out, fun b' h h1 h2 => by
          rcases Nat.lt_or_eq_of_le (show b' ≤ b by omega) with e | rfl
          ·exact HNB.out b' e h1 h2
          ·rintro ⟨v, hv⟩; exact HNO.out v hv⟩
         case measure => simp [intOf]; omega
     ·have ha1 : a + 1 ≤ 64 := by have := HLN.out; omega
      go_wp2
      go_roundw
      case rel => exact ⟨a + 1, by go_num, hlt1, HKB.out, fun a' b' h1 h2 h3 h4 => by
       rcases Nat.lt_or_eq_of_le (show a' ≤ a by omega) with e | rfl
       ·exact HNA.out a' b' e h2 h3 h4
       ·exact HNB.out b' (by omega) h3 h4⟩
      case measure => simp [intOf]; omega
   ·have HNO := Lib.hid (show ¬ G from fun h => by
     obtain ⟨_, a', b', h1, h2, h3⟩ := HEQ.out.1 h
     have e1 := HNS.out.2 a' h1
     have e2 := HNT.out.2 b' h2
     exact HNA.out a' b' (by omega) e2 h1 h2 h3)
    go_wp2
    go_ret
    exact ⟨false, rfl, by simp [HNO.out], HKA.out⟩
def rchP (rows P : List Nat) (i k : Nat) : Prop := (rows.getD (lowN (P.getD i 0)) 0).testBit (lowN (P.getD k 0)) = true
def ldP (es : List E4) (rows P : List Nat) (k j : Nat) : Prop := k ≠ j ∧ Bridged es rows (P.getD k 0) (P.getD j 0)
structure IsL (m : Nat) (rch ld : Nat → Nat → Prop) (L : Nat → Nat) : Prop where
 ge : ∀ i k j, i < m → k < m → j < m → rch i k → ld k j → 1 + L j ≤ L i
 at_ : ∀ i, i < m → L i = 0 ∨ ∃ k j, k < m ∧ j < m ∧ rch i k ∧ ld k j ∧ L i = 1 + L j
def MS (m : Nat) (rch ld : Nat → Nat → Prop) (L : Nat → Nat) (i : Nat) (proc : Nat → Nat → Prop) (M : Nat) : Prop :=
 (∀ k j, k < m → j < m → proc k j → rch i k → ld k j → 1 + L j ≤ M) ∧ (M = 0 ∨ ∃ k j, k < m ∧ j < m ∧ rch i k ∧ ld k j ∧ M = 1 + L j)
theorem MS.start {m : Nat} {rch ld : Nat → Nat → Prop} {L : Nat → Nat} {i : Nat} {proc : Nat → Nat → Prop} (h : ∀ k j, ¬ proc k j) : MS m rch ld L i proc 0 := ⟨fun k j _ _ hp => absurd hp (h k j), .inl rfl⟩
theorem MS.done {m : Nat} {rch ld : Nat → Nat → Prop} {L : Nat → Nat} {i M : Nat} {proc : Nat → Nat → Prop} (h : MS m rch ld L i proc M) (H : IsL m rch ld L) (hi : i < m) (hp : ∀ k j, k < m → j < m → proc k j) : M = L i := by
 apply Nat.le_antisymm
 ·rcases h.2 with e | ⟨k, j, hk, hj, h1, h2, e⟩
  ·omega
  ·rw [e]; exact H.ge i k j hi hk hj h1 h2
 ·rcases H.at_ i hi with e | ⟨k, j, hk, hj, h1, h2, e⟩
  ·omega
  ·rw [e]; exact h.1 k j hk hj (hp k j hk hj) h1 h2
theorem MS.skip {m : Nat} {rch ld : Nat → Nat → Prop} {L : Nat → Nat} {i M : Nat} {proc proc' : Nat → Nat → Prop} (h : MS m rch ld L i proc M) (hp : ∀ k j, k < m → j < m → proc' k j → rch i k → ld k j → proc k j) : MS m rch ld L i proc' M :=
 ⟨fun k j hk hj h' h1 h2 => h.1 k j hk hj (hp k j hk hj h' h1 h2) h1 h2, h.2⟩
theorem MS.more {m : Nat} {rch ld : Nat → Nat → Prop} {L : Nat → Nat} {i M : Nat} {proc proc' : Nat → Nat → Prop} (h : MS m rch ld L i proc M) {k j : Nat} (hk : k < m) (hj : j < m) (h1 : rch i k) (h2 : ld k j) (hp : ∀ k' j', k' < m → j' < m → proc' k' j' → proc k' j' ∨ (k' = k ∧ j' = j) ∨ ¬ ld k' j') :
  MS m rch ld L i proc' (max M (1 + L j)) := by
 refine ⟨fun k' j' hk' hj' h' h3 h4 => ?_, ?_⟩
 ·rcases hp k' j' hk' hj' h' with e | ⟨rfl, rfl⟩ | e
  ·have := h.1 k' j' hk' hj' e h3 h4; omega
  ·omega
  ·exact absurd h4 e
 ·rcases Nat.le_total M (1 + L j) with e | e
  ·exact .inr ⟨k, j, hk, hj, h1, h2, Nat.max_eq_right e⟩
  ·rw [Nat.max_eq_left e]; exact h.2
noncomputable def LF (m : Nat) (rch ld : Nat → Nat → Prop) : Nat → Nat → Nat
 | 0, _ => 0
 | f + 1, i => ((List.range m).flatMap fun k => (List.range m).map fun j => if rch i k ∧ ld k j then 1 + LF m rch ld f j else 0).foldl max 0
theorem foldl_max_le {l : List Nat} {a b : Nat} : (∀ x ∈ l, x ≤ b) → a ≤ b → l.foldl max a ≤ b := by
 induction l generalizing a with
 | nil => intro _ h; exact h
 | cons x r ih => intro h h2; exact ih (fun y hy => h y (by simp [hy])) (by have := h x (by simp); omega)
theorem foldl_max_ge {l : List Nat} {a : Nat} : a ≤ l.foldl max a ∧ ∀ x ∈ l, x ≤ l.foldl max a := by
 induction l generalizing a with
 | nil => simp
 | cons x r ih =>
  simp only [List.foldl_cons]
  obtain ⟨h1, h2⟩ := ih (a := max a x)
  refine ⟨by omega, fun y hy => ?_⟩
  rcases List.mem_cons.1 hy with rfl | hy
  ·omega
  ·exact h2 y hy
theorem foldl_max_mem {l : List Nat} {a : Nat} : l.foldl max a = a ∨ l.foldl max a ∈ l := by
 induction l generalizing a with
 | nil => exact .inl rfl
 | cons x r ih =>
  simp only [List.foldl_cons]
  rcases ih (a := max a x) with h | h
  ·rcases Nat.le_total a x with e | e
   ·rw [Nat.max_eq_right e] at h ⊢; exact .inr (by rw [h]; simp)
   ·rw [Nat.max_eq_left e] at h ⊢; exact .inl h
  ·exact .inr (by simp [h])
theorem LF.mem {m : Nat} {rch ld : Nat → Nat → Prop} {f i v : Nat} : v ∈ ((List.range m).flatMap fun k => (List.range m).map fun j => if rch i k ∧ ld k j then 1 + LF m rch ld f j else 0) ↔ ∃ k j, k < m ∧ j < m ∧ (if rch i k ∧ ld k j then 1 + LF m rch ld f j else 0) = v := by
 simp only [List.mem_flatMap, List.mem_map, List.mem_range]
 constructor
 ·rintro ⟨k, hk, j, hj, rfl⟩; exact ⟨k, j, hk, hj, rfl⟩
 ·rintro ⟨k, j, hk, hj, rfl⟩; exact ⟨k, hk, j, hj, rfl⟩
theorem LF.eq {m : Nat} {rch ld : Nat → Nat → Prop} {μ : Nat → Nat} (hμ : ∀ i k j, i < m → k < m → j < m → rch i k → ld k j → μ j < μ i) : ∀ f f' i, i < m → μ i < f → μ i < f' → LF m rch ld f i = LF m rch ld f' i := by
 intro f
 induction f with
 | zero => intro f' i _ h; omega
 | succ f ih =>
  intro f' i hi h h'
  obtain ⟨g, rfl⟩ : ∃ g, f' = g + 1 := ⟨f' - 1, by omega⟩
  have hc : ∀ k ∈ List.range m, ((List.range m).map fun j => if rch i k ∧ ld k j then 1 + LF m rch ld f j else 0) = ((List.range m).map fun j => if rch i k ∧ ld k j then 1 + LF m rch ld g j else 0) := fun k hk => by
   apply List.map_congr_left
   intro j hj
   simp only [List.mem_range] at hk hj
   by_cases hc : rch i k ∧ ld k j
   ·rw [if_pos hc, if_pos hc]
    have := hμ i k j hi hk hj hc.1 hc.2
    rw [ih g j hj (by omega) (by omega)]
   ·rw [if_neg hc, if_neg hc]
  unfold LF
  rw [List.flatMap_def, List.flatMap_def, List.map_congr_left hc]
theorem LF.isL {m : Nat} {rch ld : Nat → Nat → Prop} {μ : Nat → Nat} (hμ : ∀ i k j, i < m → k < m → j < m → rch i k → ld k j → μ j < μ i) {f : Nat} (hf : ∀ i, i < m → μ i < f) : IsL m rch ld (LF m rch ld f) ∧ ∀ i, i < m → LF m rch ld f i ≤ μ i := by
 have hu : ∀ i, i < m → LF m rch ld f i = ((List.range m).flatMap fun k => (List.range m).map fun j => if rch i k ∧ ld k j then 1 + LF m rch ld f j else 0).foldl max 0 := fun i hi => by
  rw [LF.eq hμ f (f + 1) i hi (hf i hi) (by have := hf i hi; omega)]
  rfl
 refine ⟨⟨fun i k j hi hk hj h1 h2 => ?_, fun i hi => ?_⟩, ?_⟩
 ·rw [hu i hi]
  exact foldl_max_ge.2 _ (LF.mem.2 ⟨k, j, hk, hj, by rw [if_pos ⟨h1, h2⟩]⟩)
 ·rcases foldl_max_mem (l := ((List.range m).flatMap fun k => (List.range m).map fun j => if rch i k ∧ ld k j then 1 + LF m rch ld f j else 0)) (a := 0) with h | h
  ·exact .inl (by rw [hu i hi]; exact h)
  ·obtain ⟨k, j, hk, hj, e⟩ := LF.mem.1 h
   rw [← hu i hi] at e
   by_cases hc : rch i k ∧ ld k j
   ·rw [if_pos hc] at e
    exact .inr ⟨k, j, hk, hj, hc.1, hc.2, e.symm⟩
   ·rw [if_neg hc] at e
    exact .inl e.symm
 ·suffices ∀ n i, i < m → μ i < n → LF m rch ld f i ≤ μ i from fun i hi => this (μ i + 1) i hi (Nat.lt_succ_self _)
  intro n
  induction n with
  | zero => intro i _ h; omega
  | succ n ih =>
   intro i hi hn
   rw [hu i hi]
   refine foldl_max_le (fun v hv => ?_) (Nat.zero_le _)
   obtain ⟨k, j, hk, hj, rfl⟩ := LF.mem.1 hv
   by_cases hc : rch i k ∧ ld k j
   ·rw [if_pos hc]
    have h1 := hμ i k j hi hk hj hc.1 hc.2
    have := ih j hj (by omega)
    omega
   ·rw [if_neg hc]; exact Nat.zero_le _
structure PartsOK (N : Nat) (rows P : List Nat) : Prop where
 nodes : ∀ s ∈ P, Nodes N s ∧ s ≠ 0
 eq : ∀ s ∈ P, s = partN rows (lowN s)
 apart : ∀ i j, i < P.length → j < P.length → i ≠ j → ∀ n, (P.getD i 0).testBit n = true → (P.getD j 0).testBit n = true → False
theorem partN_eq {R : Nat → Nat → Prop} {N : Nat} {rows : List Nat} (h : WRows R N rows) {a b : Nat} (ha : a < N) (hb : b < N) (hab : (partN rows a).testBit b = true) : partN rows a = partN rows b := by
 rw [partN_bit] at hab
 obtain ⟨h1, h2, h3⟩ := hab
 have w1 := (h.2 a ha b).1 h1
 have w2 := (h.2 b hb a).1 h3
 apply Nat.eq_of_testBit_eq
 intro i
 rw [Bool.eq_iff_iff, partN_bit, partN_bit]
 constructor
 ·rintro ⟨x1, x2, x3⟩
  have hi : i < N := by rw [← h.1]; exact x2
  exact ⟨(h.2 b hb i).2 (w2.trans ((h.2 a ha i).1 x1)), x2, (h.2 i hi b).2 (((h.2 i hi a).1 x3).trans w1)⟩
 ·rintro ⟨x1, x2, x3⟩
  have hi : i < N := by rw [← h.1]; exact x2
  exact ⟨(h.2 a ha i).2 (w1.trans ((h.2 b hb i).1 x1)), x2, (h.2 i hi a).2 (((h.2 i hi b).1 x3).trans w2)⟩
theorem mem_getN {P : List Nat} {i : Nat} (hi : i < P.length) : P.getD i 0 ∈ P := by simp [List.getD, hi]
theorem PartsOK.down {es : List E4} {N : Nat} {rows P : List Nat} (h : PartsOK N rows P) (H : WRows (Ere es) N rows) (hN : N ≤ 64) {i k j : Nat} (hi : i < P.length) (hk : k < P.length) (hj : j < P.length) (h1 : rchP rows P i k) (h2 : ldP es rows P k j) :
  cntB (rows.getD (lowN (P.getD j 0)) 0) 64 < cntB (rows.getD (lowN (P.getD i 0)) 0) 64 := by
 obtain ⟨ni, ni0⟩ := h.nodes _ (mem_getN hi)
 obtain ⟨nk, nk0⟩ := h.nodes _ (mem_getN hk)
 obtain ⟨nj, nj0⟩ := h.nodes _ (mem_getN hj)
 have li := ni.low ni0
 have lk := nk.low nk0
 have lj := nj.low nj0
 have ei := h.eq _ (mem_getN hi)
 have ek := h.eq _ (mem_getN hk)
 have ej := h.eq _ (mem_getN hj)
 obtain ⟨hne, h3, _⟩ := h2
 unfold rchP at h1
 have w1 := (H.2 _ li.1 _).1 h1
 have w2 := (H.2 _ lk.1 _).1 h3
 refine cntB_lt (n := lowN (P.getD i 0)) 64 (by omega) (fun b hb hbit => ?_) ((H.2 _ li.1 _).2 (.refl _)) ?_
 ·exact (H.2 _ li.1 b).2 (w1.trans (w2.trans ((H.2 _ lj.1 b).1 hbit)))
 ·cases hc : (rows.getD (lowN (P.getD j 0)) 0).testBit (lowN (P.getD i 0)) with
  | false => rfl
  | true =>
   exfalso
   have w3 := (H.2 _ lj.1 _).1 hc
   have hkj : (partN rows (lowN (P.getD k 0))).testBit (lowN (P.getD j 0)) = true := by
    rw [partN_bit]
    exact ⟨h3, by rw [H.1]; exact lj.1, (H.2 _ lj.1 _).2 (w3.trans w1)⟩
   refine h.apart k j hk hj hne (lowN (P.getD j 0)) ?_ lj.2
   rw [ek]
   exact hkj
theorem partsN_ok {R : Nat → Nat → Prop} {N : Nat} {rows : List Nat} (H : WRows R N rows) (hN : N ≤ 64) : ∀ f s, Nodes N s → cntB s 64 ≤ f → (∀ a b, a < N → s.testBit a = true → (partN rows a).testBit b = true → s.testBit b = true) →
  PartsOK N rows (partsN rows f s) ∧ (∀ p ∈ partsN rows f s, ∀ n, p.testBit n = true → s.testBit n = true) ∧ ∀ n, s.testBit n = true → ∃ p ∈ partsN rows f s, p.testBit n = true := by
 intro f
 induction f with
 | zero =>
  intro s hs hf _
  have h0 : s = 0 := by
   apply Nat.eq_of_testBit_eq
   intro i
   cases hb : s.testBit i with
   | false => simp
   | true => have := cntB_pos (show i < 64 by have := hs.2 i hb; omega) hb; omega
  subst h0
  exact ⟨⟨fun s hs => by simp [partsN] at hs, fun s hs => by simp [partsN] at hs, fun i j hi => by simp [partsN] at hi⟩, fun p hp => by simp [partsN] at hp, fun n hn => by simp at hn⟩
 | succ f ih =>
  intro s hs hf hcl
  unfold partsN
  by_cases h0 : s = 0
  ·subst h0
   rw [if_pos rfl]
   exact ⟨⟨fun s hs => by simp at hs, fun s hs => by simp at hs, fun i j hi => by simp at hi⟩, fun p hp => by simp at hp, fun n hn => by simp at hn⟩
  ·rw [if_neg h0]
   obtain ⟨hl1, hl2⟩ := hs.low h0
   obtain ⟨p, hp⟩ : ∃ p, p = partN rows (lowN s) := ⟨_, rfl⟩
   have hpn : Nodes N p := by rw [hp]; exact Nodes.part H.1 hN _
   have hself : p.testBit (lowN s) = true := by rw [hp]; exact part_self H hl1
   have hp0 : p ≠ 0 := fun e => by rw [e] at hself; simp at hself
   have hlt := parts_less H hN hs h0
   rw [← hp] at hlt ⊢
   have hbit : ∀ i, i < 64 → (andN s p).testBit i = (s.testBit i && !p.testBit i) := fun i hi => andN_bit hpn.1 i hi
   have hpl := hpn.low hp0
   have hpe : p = partN rows (lowN p) := by
    rw [hp]
    refine partN_eq H hl1 ?_ ?_
    ·rw [← hp]; exact hpl.1
    ·rw [← hp]; exact hpl.2
   obtain ⟨⟨i1, i2, i3⟩, i4, i5⟩ := ih (andN s p) (hs.less hpn.1) (by omega) (fun a b ha hab hb => by
    have hbN : b < N := by rw [partN_bit] at hb; rw [← H.1]; exact hb.2.1
    rw [hbit a (by omega), Bool.and_eq_true] at hab
    rw [hbit b (by omega), Bool.and_eq_true]
    refine ⟨hcl a b ha hab.1 hb, ?_⟩
    cases hpb : p.testBit b with
    | false => rfl
    | true =>
     exfalso
     have e1 := partN_eq H ha hbN hb
     have e2 : partN rows (lowN s) = partN rows b := partN_eq H hl1 hbN (by rw [← hp]; exact hpb)
     have : p.testBit a = true := by
      rw [hp, e2, ← e1]
      exact part_self H ha
     rw [this] at hab
     simp at hab)
   have hsub : ∀ q ∈ partsN rows f (andN s p), ∀ n, q.testBit n = true → s.testBit n = true ∧ p.testBit n = false := fun q hq n hn => by
    have h1 := i4 q hq n hn
    have hn64 : n < 64 := by have := (i1 q hq).1.2 n hn; omega
    rw [hbit n hn64, Bool.and_eq_true] at h1
    exact ⟨h1.1, by simpa using h1.2⟩
   refine ⟨⟨fun q hq => ?_, fun q hq => ?_, fun i j hi hj hij n h1 h2 => ?_⟩, fun q hq n hn => ?_, fun n hn => ?_⟩
   ·rcases List.mem_cons.1 hq with rfl | hq
    ·exact ⟨hpn, hp0⟩
    ·exact i1 q hq
   ·rcases List.mem_cons.1 hq with rfl | hq
    ·exact hpe
    ·exact i2 q hq
   ·cases i with
    | zero =>
     cases j with
     | zero => exact hij rfl
     | succ j =>
      simp only [List.getD_cons_zero, List.getD_cons_succ] at h1 h2
      have := (hsub _ (mem_getN (by simpa using hj)) n h2).2
      rw [h1] at this
      cases this
    | succ i =>
     cases j with
     | zero =>
      simp only [List.getD_cons_zero, List.getD_cons_succ] at h1 h2
      have := (hsub _ (mem_getN (by simpa using hi)) n h1).2
      rw [h2] at this
      cases this
     | succ j =>
      simp only [List.getD_cons_succ] at h1 h2
      exact i3 i j (by simpa using hi) (by simpa using hj) (by omega) n h1 h2
   ·rcases List.mem_cons.1 hq with rfl | hq
    ·rw [hp, partN_bit] at hn
     have hnN : n < N := by rw [← H.1]; exact hn.2.1
     exact hcl (lowN s) n hl1 hl2 (by rw [partN_bit]; exact hn)
    ·exact (hsub q hq n hn).1
   ·cases hpb : p.testBit n with
    | true => exact ⟨p, by simp, hpb⟩
    | false =>
     obtain ⟨q, hq, hqn⟩ := i5 n (by rw [hbit n (by have := hs.2 n hn; omega), hn, hpb]; rfl)
     exact ⟨q, by simp [hq], hqn⟩
end Go.Proofs.YtphnbmdcgcchaaaDoor
