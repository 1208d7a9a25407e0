/- Part 10 of the proof. No condition: every lemma says its own. -/
import Derived.BigQuiet
import Derived.Test.YtkekenaamnhbhaaGreatZsai
import Derived.Test.YtkekenaamnhbhaaGreatZsac
namespace Go.Proofs.YtkekenaamnhbhaaGreat
open Go.RowKit Go.BigFrame
open Go.RowKit Go.Sort Go.BigFrame
set_option maxRecDepth 100000
set_option maxHeartbeats 16000000
def e40 : E4 := ⟨0, 0, 0, 0⟩
def opnP (of : List Int) (meet : List Nat) (lp : Nat) (e f : E4) : Bool := decide (e.tt ≠ f.tt) && (decide (of.getD e.tt.toNat 0 = lp) && (meet.getD e.tt.toNat 0).testBit f.tt.toNat)
def opnI (of : List Int) (meet : List Nat) (lp : Nat) (l : List E4) (e : E4) : Nat → Bool
 | 0 => false
 | k + 1 => opnI of meet lp l e k || opnP of meet lp e (l.getD k e40)
def opnK (of : List Int) (meet : List Nat) (lp : Nat) (l : List E4) : Nat → Bool
 | 0 => false
 | k + 1 => opnK of meet lp l k || opnI of meet lp l (l.getD k e40) l.length
theorem opnI_up {of : List Int} {meet : List Nat} {lp : Nat} {l : List E4} {e : E4} {k : Nat} (h : opnI of meet lp l e k = true) : ∀ {m : Nat}, k ≤ m → opnI of meet lp l e m = true
 | 0, hm => by
  obtain rfl : k = 0 := by omega
  exact h
 | m + 1, hm => by
  by_cases e : k = m + 1
  ·rw [← e]; exact h
  ·rw [opnI, opnI_up h (m := m) (by omega)]; rfl
theorem opnK_up {of : List Int} {meet : List Nat} {lp : Nat} {l : List E4} {k : Nat} (h : opnK of meet lp l k = true) : ∀ {m : Nat}, k ≤ m → opnK of meet lp l m = true
 | 0, hm => by
  obtain rfl : k = 0 := by omega
  exact h
 | m + 1, hm => by
  by_cases e : k = m + 1
  ·rw [← e]; exact h
  ·rw [opnK, opnK_up h (m := m) (by omega)]; rfl
theorem ed_cells {w : World} {a : Option Addr} {l : List E4} (h : EdIn w a l) {i : Nat} (hi : i < l.length) : ∃ b off, a = some ⟨b, off, none⟩ ∧ (w.cell? ⟨b, off + i * 4, none⟩ = some (.int .i64 (l.getD i e40).fr) ∧ w.cell? ⟨b, off + i * 4 + 1, none⟩ = some (.int .i64 (l.getD i e40).tt) ∧
  w.cell? ⟨b, off + i * 4 + 2, none⟩ = some (.int .i64 (l.getD i e40).cl) ∧ w.cell? ⟨b, off + i * 4 + 3, none⟩ = some (.int .i64 (l.getD i e40).ws)) := by
 obtain ⟨b, off, e, hc⟩ := h (by omega)
 have := hc i hi
 refine ⟨b, off, e, ?_⟩
 simp only [List.getD_eq_getElem?_getD, List.getElem?_eq_getElem hi, Option.getD_some]
 exact this
set_option linter.unusedSimpArgs false in
theorem opens_any (w : World) (gb : Nat) (x : Gr) (rb ob : Nat) (pa : Option Nat) (pc : Nat) (rows : List Nat) (of : List Int) (ps : List Pt) (h : BG w gb x rb ob pa pc rows of ps) (la : Option Addr) (lc : Nat) (l : List E4) (hl : EdIn w la l) (hll : l.length ≤ 1000000)
  (mb : Nat) (meet : List Nat) (hm : SliceAt w 76 1 (some mb) x.nodes.length x.nodes.length (bu meet)) (hml : meet.length = x.nodes.length) (ho : of.length = x.nodes.length) (hN : x.nodes.length ≤ 64) (lp : Nat)
  (hb : ∀ i, i < l.length → 0 ≤ (l.getD i e40).tt ∧ (l.getD i e40).tt < x.nodes.length) (hlt : ∀ n, n < meet.length → meet.getD n 0 < 2 ^ 64) :
  Calls Tryz.prog 95 #[.pointer (some ⟨gb, 0, none⟩), .int .i64 lp, .slice la l.length lc, .slice (some ⟨mb, 0, none⟩) x.nodes.length x.nodes.length] w fun e w' => e = .returned (.bool (opnK of meet lp l l.length)) ∧ Keeps [] w w' := by
 obtain ⟨_, _, c5, _⟩ := bg_cells h.box
 have HO := gI (fun i hi => bi_cell h.ofs i hi)
 have HM := gI (fun i hi => bu_cell hm i hi)
 have HE := gI (fun i (hi : i < l.length) => ed_cells hl hi)
 obtain ⟨N, hNN⟩ : ∃ N, N = x.nodes.length := ⟨_, rfl⟩
 rw [← hNN] at c5 hml ho hN hb ⊢
 have HB := gI hb
 have HLT := gI hlt
 have HML := gI hml
 have HOL := gI ho
 obtain ⟨R, hR⟩ : ∃ R, R = opnK of meet lp l l.length := ⟨_, rfl⟩
 rw [← hR]
 obtain ⟨L, hL⟩ : ∃ L, L = l.length := ⟨_, rfl⟩
 have HL := gI hL
 have HR := gI hR
 have HC5 := gI c5
 rw [← hL] at hll ⊢
 clear h hl hm hml ho hb hlt hR hL hNN c5
 go_enter Tryz.func95, Tryz.ntmps95
 go_upto_region 2 with fail
 go_loopw [15] (fun i wr => ∃ k : Nat, k ≤ L ∧ i = .int .i64 k ∧ opnK of meet lp l k = false ∧ Keeps [] w wr) (fun i _ => L - (intOf i).toNat)
 case atStart => exact ⟨0, Nat.zero_le _, rfl, rfl, Keeps.refl _ _⟩
 case round =>
  obtain ⟨k, hk, rfl, hf, hkp⟩ := hrel
  have HF := gI hf
  have HKP := gI hkp
  clear hf hkp
  have hw1 : IntKind.i64.wrap ((k : Int) + 1) = (k : Int) + 1 := IntWalk.i64_in _ (by omega)
  by_cases hkL : k < L
  ·have hki : (k : Int) < (L : Int) := by omega
   obtain ⟨b, off, hla, v0, v1, v2, v3⟩ := HE.out k (by rw [← HL.out]; exact hkL)
   have v0 := HKP.out.cell v0 (by simp)
   have v1 := HKP.out.cell v1 (by simp)
   have v2 := HKP.out.cell v2 (by simp)
   have v3 := HKP.out.cell v3 (by simp)
   have hbk := HB.out k (by rw [← HL.out]; exact hkL)
   have HS := gI (show opnK of meet lp l (k + 1) = opnI of meet lp l (l.getD k e40) L by rw [opnK, HF.out, HL.out]; rfl)
   obtain ⟨e, he⟩ : ∃ e, e = l.getD k e40 := ⟨_, rfl⟩
   rw [← he] at v0 v1 v2 v3 hbk HS
   clear he
   have HLA := gI hla
   obtain ⟨f1, t1, l1, s1⟩ := e
   simp only at v0 v1 v2 v3 hbk
   obtain ⟨T, rfl⟩ := Int.eq_ofNat_of_zero_le hbk.1
   have hTN : T < N := by omega
   obtain ⟨C, hC⟩ : ∃ C, C = wr.heap.size := ⟨_, rfl⟩
   obtain ⟨Z, hZ⟩ : ∃ Z, Z = wr.alloc (.cells #[.int .i64 f1, .int .i64 T, .int .i64 l1, .int .i64 s1] 125) := ⟨_, rfl⟩
   have HKZ := gI (show Keeps [] w Z from HKP.out.trans (by rw [hZ]; exact Keeps.a1 _ _))
   have hZH : Z.heap[C]? = some (.cells #[.int .i64 f1, .int .i64 T, .int .i64 l1, .int .i64 s1] 125 (0, 0)) := by rw [hZ, hC]; exact heap_alloc_new wr _
   have HZ1 := gI (show Z.cell? ⟨C, 1, none⟩ = some (.int .i64 T) by simp [World.cell?, hZH])
   have HZ := gI hZ
   have HC := gI hC
   clear hZ hC hZH
   rw [hla]
   go_upto_region 4 with fail
   rw [← HZ.out, ← HC.out]
   clear v0 v1 v2 v3
   go_upto_region 5 with fail
   go_loopw [21] (fun i wx => ∃ j : Nat, j ≤ L ∧ i = .int .i64 j ∧ opnI of meet lp l ⟨f1, T, l1, s1⟩ j = false ∧ Keeps [] Z wx) (fun i _ => L - (intOf i).toNat)
   case atStart => exact ⟨0, Nat.zero_le _, rfl, rfl, Keeps.refl _ _⟩
   case round =>
    obtain ⟨j, hj, rfl, hf, hkp⟩ := hrel
    have HF2 := gI hf
    have HKX := gI hkp
    clear hf hkp
    have hw2 : IntKind.i64.wrap ((j : Int) + 1) = (j : Int) + 1 := IntWalk.i64_in _ (by omega)
    by_cases hjL : j < L
    ·have hji : (j : Int) < (L : Int) := by omega
     obtain ⟨b', off', hla', v0, v1, v2, v3⟩ := HE.out j (by rw [← HL.out]; exact hjL)
     rw [HLA.out] at hla'
     obtain ⟨rfl, rfl⟩ : b = b' ∧ off = off' := by simpa using hla'
     have K1 := HKZ.out.trans HKX.out
     have v0 := K1.cell v0 (by simp)
     have v1 := K1.cell v1 (by simp)
     have v2 := K1.cell v2 (by simp)
     have v3 := K1.cell v3 (by simp)
     have hbj := HB.out j (by rw [← HL.out]; exact hjL)
     have HS2 := gI (show opnI of meet lp l ⟨f1, T, l1, s1⟩ (j + 1) = opnP of meet lp ⟨f1, T, l1, s1⟩ (l.getD j e40) by rw [opnI, HF2.out]; rfl)
     obtain ⟨e, he⟩ : ∃ e, e = l.getD j e40 := ⟨_, rfl⟩
     rw [← he] at v0 v1 v2 v3 hbj HS2
     clear he
     obtain ⟨f2, t2, l2, s2⟩ := e
     simp only at v0 v1 v2 v3 hbj
     obtain ⟨U, rfl⟩ := Int.eq_ofNat_of_zero_le hbj.1
     have hUN : U < N := by omega
     obtain ⟨C2, hC2⟩ : ∃ C2, C2 = wr.heap.size := ⟨_, rfl⟩
     obtain ⟨Z2, hZ2⟩ : ∃ Z2, Z2 = wr.alloc (.cells #[.int .i64 f2, .int .i64 U, .int .i64 l2, .int .i64 s2] 125) := ⟨_, rfl⟩
     have HK2 := gI (show Keeps [] Z Z2 from HKX.out.trans (by rw [hZ2]; exact Keeps.a1 _ _))
     have hZH : Z2.heap[C2]? = some (.cells #[.int .i64 f2, .int .i64 U, .int .i64 l2, .int .i64 s2] 125 (0, 0)) := by rw [hZ2, hC2]; exact heap_alloc_new wr _
     have y1 : Z2.cell? ⟨C2, 1, none⟩ = some (.int .i64 U) := by simp [World.cell?, hZH]
     have z1 := HK2.out.cell HZ1.out (by simp)
     have K3 := HKZ.out.trans HK2.out
     have c5 := K3.cell HC5.out (by simp)
     have o := K3.cell (HO.out T (by rw [HOL.out]; exact hTN)) (by simp)
     have u := K3.cell (HM.out T (by rw [HML.out]; exact hTN)) (by simp)
     have HP := gI (show opnP of meet lp ⟨f1, T, l1, s1⟩ ⟨f2, U, l2, s2⟩ = (decide ((T : Int) ≠ U) && (decide (of.getD T 0 = lp) && (meet.getD T 0).testBit U)) from rfl)
     have b1 := bit_u64 (meet.getD T 0) U (HLT.out T (by rw [HML.out]; exact hTN))
     have t1 := testBit_div (meet.getD T 0) U
     obtain ⟨mT, hmT⟩ : ∃ mT, mT = meet.getD T 0 := ⟨_, rfl⟩
     obtain ⟨oT, hoT⟩ : ∃ oT, oT = of.getD T 0 := ⟨_, rfl⟩
     simp only [← hmT, ← hoT] at u o b1 t1 HP
     obtain ⟨p, hp⟩ : ∃ p, p = mT.testBit U := ⟨_, rfl⟩
     rw [← hp] at t1 HP
     have HZ2 := gI hZ2
     have HC2 := gI hC2
     clear hmT hoT hp hZ2 hC2 hZH K1 K3 hla'
     go_upto_region 7 with fail
     rw [← HZ2.out, ← HC2.out]
     clear v0 v1 v2 v3
     by_cases hTU : (T : Int) = U
     ·have HS3 := gI (show opnI of meet lp l ⟨f1, T, l1, s1⟩ (j + 1) = false by rw [HS2.out, HP.out]; simp [hTU])
      go_quiet (fail)
      go_wp2
      go_roundw
      case rel => exact ⟨j + 1, by omega, by go_num, HS3.out, HK2.out.drewN _⟩
      case measure => simp [intOf]; omega
     ·by_cases hol : oT = lp
      ·cases p with
       | false =>
        have HS3 := gI (show opnI of meet lp l ⟨f1, T, l1, s1⟩ (j + 1) = false by rw [HS2.out, HP.out]; simp)
        go_quiet (fail)
        go_wp2
        go_roundw
        case rel => exact ⟨j + 1, by omega, by go_num, HS3.out, HK2.out.drewN _⟩
        case measure => simp [intOf]; omega
       | true =>
        have HS3 := gI (show opnI of meet lp l ⟨f1, T, l1, s1⟩ (j + 1) = true by rw [HS2.out, HP.out]; simp [hTU, hol])
        have HE2 := gI (show R = true by
         rw [HR.out]
         exact opnK_up (k := k + 1) (by rw [HS.out]; exact opnI_up HS3.out (by omega)) (by rw [← HL.out]; omega))
        go_quiet (fail)
        go_wp2
        go_ret
        exact ⟨by rw [HE2.out]; rfl, (HKZ.out.trans HK2.out).drewN _⟩
      ·have HS3 := gI (show opnI of meet lp l ⟨f1, T, l1, s1⟩ (j + 1) = false by rw [HS2.out, HP.out]; simp [hol])
       go_quiet (fail)
       go_wp2
       go_roundw
       case rel => exact ⟨j + 1, by omega, by go_num, HS3.out, HK2.out.drewN _⟩
       case measure => simp [intOf]; omega
    ·obtain rfl : j = L := by omega
     have HS3 := gI (show opnK of meet lp l (k + 1) = false by rw [HS.out, HF2.out])
     go_wp2
     go_roundw
     case rel => exact ⟨k + 1, by omega, by go_num, HS3.out, HKZ.out.trans HKX.out⟩
     case measure => simp [intOf]; omega
  ·obtain rfl : k = L := by omega
   have HE2 := gI (show R = false by rw [HR.out, ← HL.out, HF.out])
   go_wp2
   go_ret
   exact ⟨by rw [HE2.out]; rfl, HKP.out⟩
theorem triv_eq (x y z : Int) : triv (x, y, z) = .agg #[.int .i64 x, .int .i64 y, .int .i64 z] := rfl
theorem cmp_any (p mb n : Nat) (gm : Value → Option Value) (key : Tri → Int) (s t : Tri) (w : World) (hE : KeyEnv w p mb n gm) (hs : HasKey gm key s) (ht : HasKey gm key t) :
  Calls Tryz.prog 116 #[triv s, triv t, .pointer (some ⟨p, 0, none⟩)] w fun e w' => e = .returned (.int .i64 (cmpI (key t) (key s))) ∧ Keeps [] w w' := by
 obtain ⟨x, y, z⟩ := s
 obtain ⟨x2, y2, z2⟩ := t
 have HC := gI (show cmpI (key (x2, y2, z2)) (key (x, y, z)) = cmpI (-(key (x, y, z))) (-(key (x2, y2, z2))) by unfold cmpI; split <;> split <;> (try split) <;> (try split) <;> omega)
 obtain ⟨Y, hY⟩ : ∃ Y, Y = (w.alloc (.cells #[.int .i64 x, .int .i64 y, .int .i64 z] 175)).alloc (.cells #[.int .i64 x2, .int .i64 y2, .int .i64 z2] 175) := ⟨_, rfl⟩
 have hkY : Keeps [] w Y := by rw [hY]; exact ((Keeps.refl [] w).alloc _).alloc _
 obtain ⟨B, hB⟩ : ∃ B, B = w.heap.size := ⟨_, rfl⟩
 have c0 : Y.heap[B]? = some (.cells #[.int .i64 x, .int .i64 y, .int .i64 z] 175 (0, 0)) := by rw [hY, hB]; exact ((Keeps.refl [] _).alloc _).heap (heap_alloc_new w _) (by simp)
 have c1 : Y.heap[B + 1]? = some (.cells #[.int .i64 x2, .int .i64 y2, .int .i64 z2] 175 (0, 0)) := by rw [hY, hB]; exact heap_alloc2_new w _ _
 have b0 : Y.cell? ⟨B, 0, none⟩ = some (.int .i64 x) := by simp [World.cell?, c0]
 have b1 : Y.cell? ⟨B, 1, none⟩ = some (.int .i64 y) := by simp [World.cell?, c0]
 have b2 : Y.cell? ⟨B, 2, none⟩ = some (.int .i64 z) := by simp [World.cell?, c0]
 have d0 : Y.cell? ⟨B + 1, 0, none⟩ = some (.int .i64 x2) := by simp [World.cell?, c1]
 have d1 : Y.cell? ⟨B + 1, 1, none⟩ = some (.int .i64 y2) := by simp [World.cell?, c1]
 have d2 : Y.cell? ⟨B + 1, 2, none⟩ = some (.int .i64 z2) := by simp [World.cell?, c1]
 have hE2 := hE.keep hkY (by simp) (by simp)
 have L1 : ∀ q, (Instr.lookup 192 (.map (some mb)) (.agg #[.int .i64 x, .int .i64 y, .int .i64 z]) false).run Tryz.prog (Y.drewN q) = .ok (.int .i64 (-(key (x, y, z)))) (Y.drewN q) := fun q => by
  have h := (hE2.map.keep ((Keeps.refl [] Y).drewN q) (by simp)).look false triKeyed Tryz.underlying192 (z := .int .i64 0) (by kernel_rfl) (key3 hs.1)
  rw [hs.2] at h
  exact h
 have L2 : ∀ q, (Instr.lookup 192 (.map (some mb)) (.agg #[.int .i64 x2, .int .i64 y2, .int .i64 z2]) false).run Tryz.prog (Y.drewN q) = .ok (.int .i64 (-(key (x2, y2, z2)))) (Y.drewN q) := fun q => by
  have h := (hE2.map.keep ((Keeps.refl [] Y).drewN q) (by simp)).look false triKeyed Tryz.underlying192 (z := .int .i64 0) (by kernel_rfl) (key3 ht.1)
  rw [ht.2] at h
  exact h
 have pp := hE2.ptr
 rw [HC.out]
 have HY := gI hY
 have HB := gI hB
 have HK := gI hkY
 clear hE hE2 hs ht hY hB hkY c0 c1
 simp only [triv_eq]
 go_enter Tryz.func116, Tryz.ntmps116
 go_upto_region 1 with fail
 rw [← HY.out, ← HB.out]
 go_quiet ((go_at_call 112; exact quiet_left (compare_any _ _ _)))
 go_wp2
 go_ret
 exact ⟨rfl, HK.out.drewN _⟩
theorem cmp_regrown (p mb mn : Nat) (gm : Value → Option Value) (key : Tri → Int) (s t : Tri) (w : World) (hE : KeyEnv w p mb mn gm) (hs : HasKey gm key s) (ht : HasKey gm key t) (d : Nat) (os : Array Obj) :
  Calls Tryz.prog 116 #[triv s, triv t, .pointer (some ⟨p, 0, none⟩)] (grow (redrawn w d) os) fun e w'' => e = .returned (.int .i64 (cmpI (key t) (key s))) ∧ ∃ p : Regrown, w'' = grow (redrawn w p.d) p.os :=
 Calls.regrown_of ((cmp_any p mb mn gm key s t _ (hE.keep (Keeps.of_below (below_regrown w d os)) (by simp) (by simp)) hs ht).mono fun _ _ h => ⟨h.1, h.2.below (Nat.le_refl _)⟩)
def cmpV (p : Nat) : Value := .func (.func 116) #[] #[.pointer (some ⟨p, 0, none⟩)]
theorem isort_any (g p mb mn : Nat) (gm : Value → Option Value) (key : Tri → Int) (sp : List Value) (xs : List Tri) (c a b : Nat) (w : World) (hE : KeyEnv w p mb mn gm) (hI : Tris 175 w g sp xs)
  (hd : g ∉ [p, mb]) (hr : ∀ x ∈ xs, HasKey gm key x) (hab : a ≤ b) (hb : b ≤ xs.length) (hxl : xs.length ≤ 1000000) :
  Calls Tryz.prog 132 #[.slice (some ⟨g, 0, none⟩) xs.length c, .int .i64 a, .int .i64 b, cmpV p] w fun e w' =>
   e = .returned (.tuple #[]) ∧ ∃ ys, Tris 175 w' g sp ys ∧ Turned xs ys a b ∧ Desc key ys a b ∧ Keeps [g] w w' := by
 have HE := gI hE
 have HI := gI hI
 have HD := gI hd
 have HR := gI hr
 have hgp : g ≠ p := fun h => hd (by simp [h])
 have hgm : g ≠ mb := fun h => hd (by simp [h])
 clear hE hI hd hr
 unfold cmpV
 go_enter Tryz.func132, Tryz.ntmps132
 go_wp2
 go_loopw [8, 9] (fun i _ wr => ∃ (k : Nat) (ys : List Tri), a + 1 ≤ k ∧ (k ≤ b ∨ k = a + 1) ∧ i = .int .i64 k ∧ Tris 175 wr g sp ys ∧ Turned xs ys a b ∧ Desc key ys a k ∧ Keeps [g] w wr) (fun i _ _ => b - (intOf i).toNat)
 case atStart => exact ⟨a + 1, xs, by omega, by omega, by go_num, HI.out, Turned.refl _ _ _, fun p q h1 h2 h3 => by omega, Keeps.refl _ _⟩
 case round =>
  obtain ⟨k, ys, hk1, hk2, rfl, hIy, hT, hDs, hK⟩ := hrel
  have HL := gI hT.len
  have HIy := gI hIy
  have HT := gI hT
  have HDs := gI hDs
  have HK := gI hK
  clear hIy hT hDs hK
  by_cases hlt : k < b
  ·go_wp2
   obtain ⟨wo, hwo⟩ : ∃ wo : World, wo = wr := ⟨_, rfl⟩
   go_loopw [9] (fun j wi => ∃ (m : Nat) (zs : List Tri), a ≤ m ∧ m ≤ k ∧ j = .int .i64 m ∧ Tris 175 wi g sp zs ∧ Turned xs zs a b ∧ Sink key zs a m k ∧ Keeps [g] w wi) (fun j _ => (intOf j).toNat)
   case atStart => exact ⟨k, ys, by omega, by omega, rfl, HIy.out, HT.out, Sink.start HDs.out, HK.out⟩
   case round =>
    obtain ⟨m, zs, hm1, hm2, rfl, hIz, hTz, hSk, hKz⟩ := hrel
    have hlz := hTz.len
    have hEz := HE.out.keep hKz (by simp; exact hgp.symm) (by simp; exact hgm.symm)
    have hRz : ∀ x ∈ zs, HasKey gm key x := fun x hx => HR.out x (hTz.perm.mem_iff.1 hx)
    have HLZ := gI hlz
    have HIz := gI hIz
    have HTz := gI hTz
    have HSk := gI hSk
    have HKz := gI hKz
    have HEz := gI hEz
    by_cases hma : m = a
    ·have hdec : decide (a < m) = false := by simp [hma]
     have HMA := gI hma
     clear hlz hIz hTz hSk hKz hEz hRz hma
     go_wp2
     go_quiet (fail)
     go_wp2
     go_roundw
     case rel => exact ⟨k + 1, zs, by omega, by omega, by go_num, HIz.out.drewN _, HTz.out, HSk.out.done hm2 (.inl HMA.out), HKz.out.drewN _⟩
     case measure => simp [intOf]; omega
    ·obtain ⟨n, rfl⟩ : ∃ n, m = n + 1 := ⟨m - 1, by omega⟩
     have ha1 : a ≤ n := by omega
     have ha2 : a < n + 1 := by omega
     have ha3 : (a : Int) < (n : Int) + 1 := by omega
     have ha4 : (a : Int) ≤ (n : Int) := by omega
     obtain ⟨d1, d2, d3⟩ := hIz.cells (n + 1) (by omega)
     obtain ⟨c1, c2, c3⟩ := hIz.cells n (by omega)
     have k1 := hRz (zs.getD (n + 1) z0) (by rw [List.getD_eq_getElem?_getD, List.getElem?_eq_getElem (by omega)]; simp)
     have k0 := hRz (zs.getD n z0) (by rw [List.getD_eq_getElem?_getD, List.getElem?_eq_getElem (by omega)]; simp)
     obtain ⟨x1, hx1⟩ : ∃ x, x = zs.getD (n + 1) z0 := ⟨_, rfl⟩
     obtain ⟨x0, hx0⟩ : ∃ x, x = zs.getD n z0 := ⟨_, rfl⟩
     rw [← hx1] at d1 d2 d3 k1
     rw [← hx0] at c1 c2 c3 k0
     have cE := fun d os => cmp_regrown p mb _ gm key x1 x0 wr hEz k1 k0 d os
     have HX1 := gI hx1
     have HX0 := gI hx0
     clear hlz hIz hTz hSk hKz hEz hRz hx1 hx0 k1 k0
     have hsw := HIz.out.swp (n + 1) n (by have := HLZ.out; omega) (by have := HLZ.out; omega)
     rw [← HX1.out, ← HX0.out] at hsw
     have HSW := gI (show ∀ W, Keeps [] wr W → Tris 175 (Go.Proofs.YtkekenaamnhbhaaGreat.put3 (Go.Proofs.YtkekenaamnhbhaaGreat.put3 W g ((n + 1) * 3) x0) g (n * 3) x1) g sp (swp zs (n + 1) n) from fun W hW => by
      have h := (HIz.out.keep hW (by simp)).swp (n + 1) n (by have := HLZ.out; omega) (by have := HLZ.out; omega)
      rw [← HX1.out, ← HX0.out] at h
      exact h)
     have hcm : swp zs (n + 1) n = swp zs n (n + 1) := swp_comm _ _ _ (by have := HLZ.out; omega) (by have := HLZ.out; omega)
     have HCM := gI hcm
     have HCK := gI (show (key x0 < key x1) = (key (zs.getD n z0) < key (zs.getD (n + 1) z0)) by rw [HX1.out, HX0.out])
     clear hsw hcm
     obtain ⟨cv, hcv⟩ : ∃ cv, cv = cmpI (key x0) (key x1) := ⟨_, rfl⟩
     have HCV := gI (show (cv < 0) = (key x0 < key x1) by rw [hcv, cmpI_neg])
     simp only [← hcv] at cE
     clear hcv
     obtain ⟨p1, p2, p3⟩ := x1
     obtain ⟨q1, q2, q3⟩ := x0
     simp only [triv_eq] at d1 d2 d3 c1 c2 c3 cE
     have CE := gI cE
     have D1 := cell_regrown d1
     have D2 := cell_regrown d2
     have D3 := cell_regrown d3
     have C1 := cell_regrown c1
     have C2 := cell_regrown c2
     have C3 := cell_regrown c3
     clear cE
     by_cases hc : cv < 0
     ·have HC := gI (HCV.out ▸ hc)
      clear d1 d2 d3 c1 c2 c3
      go_upto_region 4 with fail
      refine wp_region_quiet_below (by kernel_rfl) (by kernel_rfl) ?_
      repeat (go_big_quiet_step (exact CE.out _ _))
      refine wpQuiet_nil ?_
      intro _ hw'
      obtain ⟨pq, hw''⟩ := hw'
      subst hw''
      have hk := Keeps.of_below (below_regrown wr pq.d pq.os)
      have HIw := gI (HIz.out.keep hk (by simp))
      have HKw := gI (HKz.out.trans (hk.mono (by simp)))
      have d1 := D1 pq.d pq.os
      have d2 := D2 pq.d pq.os
      have d3 := D3 pq.d pq.os
      have c1 := C1 pq.d pq.os
      have c2 := C2 pq.d pq.os
      have c3 := C3 pq.d pq.os
      have HSZ := gI (HSW.out _ hk)
      have f1 := HIw.out.fz ((n + 1) * 3)
      have f2 := HIw.out.fz ((n + 1) * 3 + 1)
      have f3 := HIw.out.fz ((n + 1) * 3 + 2)
      have g1 := HIw.out.fz (n * 3)
      have g2 := HIw.out.fz (n * 3 + 1)
      have g3 := HIw.out.fz (n * 3 + 2)
      clear hk HSW D1 D2 D3 C1 C2 C3 HIz HKz CE HEz
      generalize grow (redrawn wr pq.d) pq.os = Z at *
      go_wp2
      go_region
      go_wp2
      go_roundw
      case rel =>
       have hk := HC.out
       rw [HCK.out] at hk
       have hl := HLZ.out
       refine ⟨n, swp zs (n + 1) n, ha1, by omega, by go_num, ?_, HTz.out.trans (Turned.swp _ _ _ _ _ (by omega) (by omega) (by omega) (by omega) (by omega) (by omega)), ?_, ?_⟩
       ·exact Tris.drew HSZ.out
       ·rw [HCM.out]; exact HSk.out.step (by omega) ha1 hm2 hk
       ·exact ((HKw.out.put3 (b := g) (by simp) ((n + 1) * 3) (q1, q2, q3)).put3 (b := g) (by simp) (n * 3) (p1, p2, p3)).drew
      case measure => simp [intOf]
     ·have HC := gI hc
      clear d1 d2 d3 c1 c2 c3
      go_upto_region 4 with fail
      refine wp_region_quiet_below (by kernel_rfl) (by kernel_rfl) ?_
      repeat (go_big_quiet_step (exact CE.out _ _))
      refine wpQuiet_nil ?_
      intro _ hw'
      obtain ⟨pq, hw''⟩ := hw'
      subst hw''
      have hk := Keeps.of_below (below_regrown wr pq.d pq.os)
      have HIw := gI (HIz.out.keep hk (by simp))
      have HKw := gI (HKz.out.trans (hk.mono (by simp)))
      clear hk HSW D1 D2 D3 C1 C2 C3 HIz HKz CE HEz
      generalize grow (redrawn wr pq.d) pq.os = Z at *
      go_wp2
      go_roundw
      case rel =>
       have hk := HC.out
       rw [HCV.out, HCK.out] at hk
       exact ⟨k + 1, zs, by omega, by omega, by go_num, HIw.out, HTz.out, HSk.out.done hm2 (.inr ⟨n, rfl, ha1, by omega⟩), HKw.out⟩
      case measure => simp [intOf]; omega
  ·have hkb : ∀ key zs, Desc key zs a k → Desc key zs a b := fun key zs h p q h1 h2 h3 => h p q h1 h2 (by omega)
   have HKB := gI hkb
   clear hkb
   go_wp2
   go_end0
   exact ⟨rfl, ys, HIy.out, HT.out, HKB.out _ _ HDs.out, HK.out⟩
theorem swapRange_any (g : Nat) (E : Nat) (sp : List Value) (xs : List Tri) (c a b n : Nat) (fn : Value) (w : World) (hI : Tris E w g sp xs) (h1 : a + n ≤ b) (h2 : b + n ≤ xs.length) (hxl : xs.length ≤ 1000000) :
  Calls Tryz.prog 141 #[.slice (some ⟨g, 0, none⟩) xs.length c, .int .i64 a, .int .i64 b, .int .i64 n, fn] w fun e w' =>
   e = .returned (.tuple #[]) ∧ Tris E w' g sp (swpR xs a b n) ∧ Keeps [g] w w' := by
 have HI := gI hI
 clear hI
 go_enter Tryz.func141, Tryz.ntmps141
 go_wp2
 go_loopw [10] (fun i wr => ∃ k : Nat, k ≤ n ∧ i = .int .i64 k ∧ Tris E wr g sp (swpR xs a b k) ∧ Keeps [g] w wr) (fun i _ => n - (intOf i).toNat)
 case atStart => exact ⟨0, Nat.zero_le _, rfl, HI.out, Keeps.refl _ _⟩
 case round =>
  obtain ⟨k, hk, rfl, hI, hK⟩ := hrel
  by_cases hlt : k < n
  ·have hl := swpR_length xs a b k
   obtain ⟨d1, d2, d3⟩ := hI.cells (a + k) (by omega)
   obtain ⟨c1, c2, c3⟩ := hI.cells (b + k) (by omega)
   have f1 := hI.fz ((a + k) * 3)
   have f2 := hI.fz ((a + k) * 3 + 1)
   have f3 := hI.fz ((a + k) * 3 + 2)
   have g1 := hI.fz ((b + k) * 3)
   have g2 := hI.fz ((b + k) * 3 + 1)
   have g3 := hI.fz ((b + k) * 3 + 2)
   have hsw := hI.swp (a + k) (b + k) (by omega) (by omega)
   obtain ⟨x1, hx1⟩ : ∃ x, x = (swpR xs a b k).getD (a + k) z0 := ⟨_, rfl⟩
   obtain ⟨x2, hx2⟩ : ∃ x, x = (swpR xs a b k).getD (b + k) z0 := ⟨_, rfl⟩
   rw [← hx1] at d1 d2 d3 hsw
   rw [← hx2] at c1 c2 c3 hsw
   obtain ⟨p1, p2, p3⟩ := x1
   obtain ⟨q1, q2, q3⟩ := x2
   simp only at d1 d2 d3 c1 c2 c3
   have HSW := gI hsw
   have HK := gI hK
   have hne : a + k ≠ b + k := by omega
   have hne2 : ¬ a + k = b + k := by omega
   have hne3 : ¬ b + k = a + k := by omega
   clear hI hK hsw hl hx1 hx2
   go_wp2
   go_region
   go_wp2
   go_roundw
   case rel =>
    refine ⟨k + 1, by omega, by go_num, ?_, ?_⟩
    ·exact Tris.drew HSW.out
    ·exact ((HK.out.put3 (b := g) (by simp) ((a + k) * 3) (q1, q2, q3)).put3 (b := g) (by simp) ((b + k) * 3) (p1, p2, p3)).drew
   case measure => simp [intOf]; omega
  ·obtain rfl : k = n := by omega
   have HI := gI hI
   have HK := gI hK
   clear hI hK
   go_wp2
   go_end0
   exact ⟨rfl, HI.out, HK.out⟩
theorem rotate_any (g : Nat) (E : Nat) (sp : List Value) (xs : List Tri) (c a m b : Nat) (fn : Value) (w : World) (hI : Tris E w g sp xs) (h1 : a < m) (h2 : m < b) (h3 : b ≤ xs.length) (hxl : xs.length ≤ 1000000) :
  Calls Tryz.prog 139 #[.slice (some ⟨g, 0, none⟩) xs.length c, .int .i64 a, .int .i64 m, .int .i64 b, fn] w fun e w' =>
   e = .returned (.tuple #[]) ∧ ∃ ys, Tris E w' g sp ys ∧ ys.Perm xs ∧ (∀ k, k < a ∨ b ≤ k → ys.getD k z0 = xs.getD k z0) ∧ (∀ k, a ≤ k → k < b → ys.getD k z0 = rotF xs a m b k) ∧ Keeps [g] w w' := by
 have HI := gI hI
 clear hI
 go_enter Tryz.func139, Tryz.ntmps139
 go_wp2
 go_loopw [10, 11] (fun i j wr => ∃ (ni nj : Nat) (zs : List Tri), i = .int .i64 ni ∧ j = .int .i64 nj ∧ RotI xs zs a m b ni nj ∧ Tris E wr g sp zs ∧ Keeps [g] w wr) (fun i j _ => (intOf i).toNat + (intOf j).toNat)
 case atStart => exact ⟨m - a, b - m, xs, by go_num, by go_num, RotI.start xs a m b h1 h2, HI.out, Keeps.refl _ _⟩
 case round =>
  obtain ⟨ni, nj, zs, rfl, rfl, hR, hI, hK⟩ := hrel
  have hzl : zs.length = xs.length := hR.perm.length_eq
  have hi0 := hR.i0
  have hj0 := hR.j0
  have hia := hR.ia
  have hjb := hR.jb
  rcases Nat.lt_trichotomy ni nj with h | h | h
  ·have hs := swapRange_any g E sp zs c (m - ni) (m + nj - ni) ni fn wr hI (by omega) (by omega) (by omega)
   rw [hzl] at hs
   have hR2 := hR.less (by omega) h
   have e1 : ((m - ni : Nat) : Int) = (m : Int) - ni := by omega
   have e2 : ((m + nj - ni : Nat) : Int) = (m : Int) + nj - ni := by omega
   rw [e1, e2] at hs
   have HS := gI hs
   have HR2 := gI hR2
   have HK := gI hK
   have hne : ((ni : Int) != (nj : Int)) = true := by simp; omega
   have hne2 : (ni != nj) = true := by simp; omega
   clear hs hR2 hK hI hR hzl e1 e2
   go_wp2_with fail
   refine Calls.mono HS.out ?_
   rintro e w1 ⟨rfl, hI1, hk1⟩
   have HI1 := gI hI1
   have HK1 := gI (HK.out.trans hk1)
   clear hI1 hk1
   go_wp2
   go_roundw
   case rel => exact ⟨ni, nj - ni, _, rfl, by go_num, HR2.out, HI1.out, HK1.out⟩
   case measure => simp [intOf]; omega
  ·subst h
   have hs := swapRange_any g E sp zs c (m - ni) m ni fn wr hI (by omega) (by omega) (by omega)
   rw [hzl] at hs
   have hR2 := hR.done (by omega)
   have e1 : ((m - ni : Nat) : Int) = (m : Int) - ni := by omega
   rw [e1] at hs
   have HS := gI hs
   have HR2 := gI hR2
   have HK := gI hK
   clear hs hR2 hK hI hR hzl e1
   go_wp2_with fail
   refine Calls.mono HS.out ?_
   rintro e w1 ⟨rfl, hI1, hk1⟩
   have HI1 := gI hI1
   have HK1 := gI (HK.out.trans hk1)
   clear hI1 hk1
   go_wp2
   go_end0
   exact ⟨rfl, _, HI1.out, HR2.out.1, HR2.out.2.1, HR2.out.2.2, HK1.out⟩
  ·have hs := swapRange_any g E sp zs c (m - ni) m nj fn wr hI (by omega) (by omega) (by omega)
   rw [hzl] at hs
   have hR2 := hR.more (by omega) h
   have e1 : ((m - ni : Nat) : Int) = (m : Int) - ni := by omega
   rw [e1] at hs
   have HS := gI hs
   have HR2 := gI hR2
   have HK := gI hK
   have hne : ((ni : Int) != (nj : Int)) = true := by simp; omega
   have hne2 : (ni != nj) = true := by simp; omega
   clear hs hR2 hK hI hR hzl e1
   go_wp2_with fail
   refine Calls.mono HS.out ?_
   rintro e w1 ⟨rfl, hI1, hk1⟩
   have HI1 := gI hI1
   have HK1 := gI (HK.out.trans hk1)
   clear hI1 hk1
   go_wp2
   go_roundw
   case rel => exact ⟨ni - nj, nj, _, by go_num, rfl, HR2.out, HI1.out, HK1.out⟩
   case measure => simp [intOf]; omega
end Go.Proofs.YtkekenaamnhbhaaGreat
