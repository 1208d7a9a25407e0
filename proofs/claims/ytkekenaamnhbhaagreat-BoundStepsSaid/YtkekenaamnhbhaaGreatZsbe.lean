/- Part 31 of the proof. No condition: every lemma says its own. -/
import Derived.Deep.CutBlock
import Derived.Test.YtkekenaamnhbhaaGreatZsbd
namespace Go.Proofs.YtkekenaamnhbhaaGreat
open Go.RowKit Go.Sort Go.BigFrame
set_option maxRecDepth 100000
set_option maxHeartbeats 16000000
theorem nullS1_any (b o t : Nat) (sa : Option Addr) (sc : Nat) (set : List (Int × Int)) (ka : Option Addr) (kc : Nat) (mn mx mode n : Int) (neg : Bool) (w : World) (hat : At8 w b o (.node 1 sa sc set ka kc [] mn mx mode n neg)) :
  Calls Tryz.prog 106 #[.pointer (some ⟨b, o, none⟩), .pointer (some ⟨t, 0, none⟩)] w fun e w' => e = .returned (.bool false) ∧ w = w' := by
 have n0 := hat.node.c0
 clear hat
 go_enter Tryz.func106, Tryz.ntmps106
 go_wp2
 go_ret
 exact ⟨rfl, rfl⟩
theorem nullS_any (sa : Option Addr) (sc : Nat) (set : List (Int × Int)) (ka : Option Addr) (kc : Nat) (mn mx mode n : Int) (neg : Bool) (w : World) :
  Calls Tryz.prog 76 #[.agg #[.int .i64 1, .slice sa set.length sc, .slice ka 0 kc, .int .i64 mn, .int .i64 mx, .int .i64 mode, .int .i64 n, .bool neg]] w fun e w' => e = .returned (.bool false) ∧ Keeps [] w w' := by
 have hmf : ∀ (fn : Fn) (first cap : Array Value) (w : World), (Instr.makeFunc fn first cap).run Tryz.prog w = .ok (.func fn first cap) w := fun _ _ _ _ => rfl
 obtain ⟨B, hB⟩ : ∃ B, B = w.heap.size := ⟨_, rfl⟩
 obtain ⟨Y, hY⟩ : ∃ Y, Y = w.alloc (.cells #[.int .i64 1, .slice sa set.length sc, .slice ka 0 kc, .int .i64 mn, .int .i64 mx, .int .i64 mode, .int .i64 n, .bool neg] 55) := ⟨_, rfl⟩
 have hk : Keeps [] w Y := by rw [hY]; exact (Keeps.refl [] w).alloc _
 have hs : Y.heap.size = B + 1 := by rw [hY, hB]; simp
 have hb : At8 Y B 0 (.node 1 sa sc set ka kc [] mn mx mode n neg) := At8.of_block (by rw [hY, hB]; exact heap_alloc_new w _) rfl
 obtain ⟨Z, hZ⟩ : ∃ Z, Z = Y.alloc (.cells #[.func (Fn.func 106) #[] #[.pointer (some ⟨B + 1, 0, none⟩)]] 180) := ⟨_, rfl⟩
 have hkZ : Keeps [] Y Z := by rw [hZ]; exact (Keeps.refl [] Y).alloc _
 have hzb : Z.heap[B + 1]? = some (.cells #[.func (Fn.func 106) #[] #[.pointer (some ⟨B + 1, 0, none⟩)]] 180 (0, 0)) := heap_alloc_at_P hZ _ _ hs
 have z0 : Z.cell? ⟨B + 1, 0, none⟩ = some (.func (Fn.func 106) #[] #[.pointer (some ⟨B + 1, 0, none⟩)]) := by simp [World.cell?, hzb]
 have HC := gI (nullS1_any B 0 (B + 1) sa sc set ka kc mn mx mode n neg Z (hb.keep hkZ))
 have HK := gI (hk.trans hkZ)
 have HY := gI hY
 have HB := gI hB
 have HZ := gI hZ
 clear hB hY hk hs hb hZ hkZ hzb
 go_enter Tryz.func76, Tryz.ntmps76
 go_upto_region 3 with fail
 rw [← HB.out, ← HY.out, ← HZ.out]
 go_wp2_with fail
 with_reducible refine Calls.mono HC.out ?_
 rintro e w3 ⟨rfl, rfl⟩
 go_wp2
 go_ret
 exact ⟨rfl, HK.out⟩
set_option linter.unusedSimpArgs false in
theorem compilable_any (m : MRe) : ∀ (b o : Nat) (w : World), At8 w b o m → m.OK w → okP m.tree = true → m.tree.bulk ≤ 1000000 →
  Calls Tryz.prog 49 #[.pointer (some ⟨b, o, none⟩), .slice none 0 0] w fun e w' => e = .returned (.bool true) ∧ Keeps [] w w' := by
 induction m using MRe.inductP with
 | h op sa sc set ka kc kids mn mx mode n neg ih =>
  intro b o w hat k1 hok hbk
  cases k1 with
  | mk hs hk hr =>
  obtain ⟨Q, hQ⟩ : ∃ Q : Ending → World → Prop, Q = fun e w' => e = .returned (.bool true) ∧ Keeps [] w w' := ⟨_, rfl⟩
  rw [← hQ]
  have HQ := gI hQ
  have hkb : ∀ k ∈ kids, k.tree.bulk ≤ 1000000 := fun k hk => by
   have hm : k.tree ∈ MRe.trees kids := by rw [MRe.trees_eq]; exact List.mem_map_of_mem hk
   have h1 := Tree.bulks_mem hm
   simp only [MRe.tree, Tree.bulk] at hbk
   omega
  have hkl : kids.length ≤ 1000000 := by
   have h1 := Tree.length_le_bulks (MRe.trees kids)
   rw [MRe.trees_length] at h1
   simp only [MRe.tree, Tree.bulk] at hbk
   omega
  have hke : ∀ k ∈ kids, okP k.tree = true := by
   simp only [MRe.tree, okP, Bool.or_eq_true, Bool.and_eq_true, decide_eq_true_eq] at hok
   rcases hok with (⟨_, hke⟩ | ⟨_, hke⟩) | ⟨⟨_, hke⟩, _⟩
   ·intro k hk
    rw [MRe.trees_eq] at hke
    cases kids with
    | nil => cases hk
    | cons x r => simp at hke
   ·exact fun k hk => okPs_mem hke _ (by rw [MRe.trees_eq]; exact List.mem_map_of_mem hk)
   ·exact fun k hk => okPs_mem hke _ (by rw [MRe.trees_eq]; exact List.mem_map_of_mem hk)
  have HAT := gI (fun W (k : Keeps [] w W) => (hat.keep k).node)
  have HNK := gI (fun W (k : Keeps [] w W) => hk.keep k)
  have HIH := gI (fun i (hi : i < kids.length) (b' o' : Nat) W (k : Keeps [] w W) (ha : At8 W b' o' kids[i]) => ih kids[i] (List.getElem_mem hi) b' o' W ha ((hr _ (List.getElem_mem hi)).keep k) (hke _ (List.getElem_mem hi)) (hkb _ (List.getElem_mem hi)))
  obtain ⟨n0, n1, n2, n3, n4, n5, n6, n7⟩ := HAT.out w (Keeps.refl _ _)
  have HOK := gI hok
  clear hQ hs ih hat hr hbk hkb hke hok
  go_enter Tryz.func49, Tryz.ntmps49
  go_upto_block 0 with fail
  go_cut [1] from 10 to 46 (fun v1 wx => v1 = .slice none 0 0 ∧ Keeps [] w wx)
  case first =>
   have hok := HOK.out
   simp only [MRe.tree, okP, Bool.or_eq_true, Bool.and_eq_true, decide_eq_true_eq] at hok
   rcases hok with (⟨rfl, hke⟩ | ⟨rfl, hke⟩) | ⟨⟨⟨⟨⟨⟨rfl, rfl⟩, rfl⟩, rfl⟩, hk1⟩, hke⟩, hst⟩
   ·clear hke
    go_wp2
    go_meet
    exact ⟨rfl, Keeps.refl _ _⟩
   ·clear hke
    go_wp2
    go_meet
    exact ⟨rfl, Keeps.refl _ _⟩
   ·obtain ⟨kid, rfl⟩ : ∃ kid, kids = [kid] := by
     rw [MRe.trees_length] at hk1
     cases kids with
     | nil => cases hk1
     | cons x r => cases r with
      | nil => exact ⟨x, rfl⟩
      | cons y s => simp at hk1
    obtain ⟨kb, ko, hka, _, hkat⟩ := HNK.out w (Keeps.refl _ _) |>.kid (by simp)
    subst hka
    have hk0 := hkat 0 (by simp)
    obtain ⟨op1, sa1, sc1, set1, ka1, kc1, kids1, mn1, mx1, mode1, nn1, neg1⟩ := kid
    simp only [MRe.trees, MRe.tree, setP, List.all_cons, List.all_nil, Bool.and_true, Bool.and_eq_true, decide_eq_true_eq] at hst
    obtain ⟨rfl, hk2⟩ := hst
    obtain rfl : kids1 = [] := by
     rw [MRe.trees_eq] at hk2
     cases kids1 with
     | nil => rfl
     | cons x r => simp at hk2
    simp only [List.getElem_cons_zero, Nat.zero_mul, Nat.add_zero] at hk0
    obtain ⟨q0, q1, q2, q3, q4, q5, q6, q7⟩ := hk0.node
    have HNU := gI (fun W => nullS_any sa1 sc1 set1 ka1 kc1 mn1 mx1 mode1 nn1 neg1 W)
    clear hk1 hke hk2 hkat hk0 HIH
    go_wp2_with fail
    with_reducible refine Calls.mono (HNU.out _) ?_
    rintro e w2 ⟨rfl, hk2⟩
    have HK2 := gI hk2
    clear hk2 q0 q1 q2 q3 q4 q5 q6 q7
    go_wp2
    go_meet
    exact ⟨rfl, HK2.out⟩
  case rest =>
  obtain ⟨wV, hwV⟩ : ∃ wV : World, wV = wc := ⟨_, rfl⟩
  subst hwV
  obtain ⟨rfl, hcut⟩ := hcut
  have HKV := gI hcut
  clear hcut n0 n1 n2 n3 n4 n5 n6 n7
  obtain ⟨_, _, n2, _, _, _, _, _⟩ := HAT.out wV HKV.out
  go_upto_region 16 with fail
  clear n2
  go_loopw [52] (fun v52 wr => ∃ k : Nat, v52 = .int .i64 k ∧ k ≤ kids.length ∧ Keeps [] w wr) (fun v52 _ => kids.length - (intOf v52).toNat)
  case atStart => exact ⟨0, rfl, Nat.zero_le _, HKV.out⟩
  case round =>
   obtain ⟨k, rfl, hkk, hkw⟩ := hrel
   obtain ⟨wB, hwB⟩ : ∃ wB : World, wB = wr := ⟨_, rfl⟩
   subst hwB
   have HKB := gI hkw
   clear hkw
   by_cases hlt : k < kids.length
   ·have hlti : (k : Int) < (kids.length : Int) := by omega
    have hw1 : IntKind.i64.wrap ((k : Int) + 1) = (k : Int) + 1 := IntWalk.i64_in _ (by omega)
    obtain ⟨kb, ko, hka, _, hkat⟩ := (HNK.out wB HKB.out).kid (by omega)
    subst hka
    obtain ⟨_, _, n2, _, _, _, _, _⟩ := HAT.out wB HKB.out
    have HC := gI (HIH.out k hlt kb (ko + k * 8) wB HKB.out (hkat k hlt))
    clear hkat
    go_wp2_with fail
    with_reducible refine Calls.mono HC.out ?_
    rintro e w2 ⟨rfl, hk2⟩
    have HK2 := gI (HKB.out.trans hk2)
    clear hk2 n2
    go_wp2
    go_roundw
    case rel => exact ⟨k + 1, by go_num, by omega, HK2.out⟩
    case measure => simp [intOf]; omega
   ·obtain rfl : k = kids.length := by omega
    go_wp2
    rw [HQ.out]
    exact ⟨rfl, HKB.out⟩
set_option linter.unusedSimpArgs false in
theorem lengthOf_any (m : MRe) : ∀ (b o : Nat) (w : World), At8 w b o m → m.OK w → okP m.tree = true → m.tree.bulk ≤ 1000000 → lenP m.tree ≤ 8000 →
  Calls Tryz.prog 50 #[.pointer (some ⟨b, o, none⟩)] w fun e w' => e = .returned (.int .i64 (lenP m.tree : Nat)) ∧ Keeps [] w w' := by
 induction m using MRe.inductP with
 | h op sa sc set ka kc kids mn mx mode n neg ih =>
  intro b o w hat k1 hok hbk hl
  cases k1 with
  | mk hs hk hr =>
  obtain ⟨N, hN⟩ : ∃ N, N = lenP (MRe.node op sa sc set ka kc kids mn mx mode n neg).tree := ⟨_, rfl⟩
  rw [← hN] at hl ⊢
  obtain ⟨Q, hQ⟩ : ∃ Q : Ending → World → Prop, Q = fun e w' => e = .returned (.int .i64 (N : Nat)) ∧ Keeps [] w w' := ⟨_, rfl⟩
  rw [← hQ]
  have HQ := gI hQ
  have hkb : ∀ k ∈ kids, k.tree.bulk ≤ 1000000 := fun k hk => by
   have hm : k.tree ∈ MRe.trees kids := by rw [MRe.trees_eq]; exact List.mem_map_of_mem hk
   have h1 := Tree.bulks_mem hm
   simp only [MRe.tree, Tree.bulk] at hbk
   omega
  have hkl : kids.length ≤ 1000000 := by
   have h1 := Tree.length_le_bulks (MRe.trees kids)
   rw [MRe.trees_length] at h1
   simp only [MRe.tree, Tree.bulk] at hbk
   omega
  have hke : ∀ k ∈ kids, okP k.tree = true := by
   simp only [MRe.tree, okP, Bool.or_eq_true, Bool.and_eq_true, decide_eq_true_eq] at hok
   rcases hok with (⟨_, hke⟩ | ⟨_, hke⟩) | ⟨⟨_, hke⟩, _⟩
   ·intro k hk
    rw [MRe.trees_eq] at hke
    cases kids with
    | nil => cases hk
    | cons x r => simp at hke
   ·exact fun k hk => okPs_mem hke _ (by rw [MRe.trees_eq]; exact List.mem_map_of_mem hk)
   ·exact fun k hk => okPs_mem hke _ (by rw [MRe.trees_eq]; exact List.mem_map_of_mem hk)
  have hcase : (op = 1 ∧ kids = [] ∧ N = 1) ∨ (op = 2 ∧ N = lensP (MRe.trees kids)) ∨ (op = 4 ∧ mn = 0 ∧ mx = -1 ∧ N = lensP (MRe.trees kids) + 2) := by
   simp only [MRe.tree, okP, Bool.or_eq_true, Bool.and_eq_true, decide_eq_true_eq] at hok
   rcases hok with (⟨rfl, hke⟩ | ⟨rfl, hke⟩) | ⟨⟨⟨⟨⟨⟨rfl, rfl⟩, rfl⟩, rfl⟩, _⟩, _⟩, _⟩
   ·refine .inl ⟨rfl, ?_, by rw [hN]; simp [MRe.tree, lenP]⟩
    rw [MRe.trees_eq] at hke
    cases kids with
    | nil => rfl
    | cons x r => simp at hke
   ·exact .inr (.inl ⟨rfl, by rw [hN]; simp [MRe.tree, lenP]⟩)
   ·exact .inr (.inr ⟨rfl, rfl, rfl, by rw [hN]; simp [MRe.tree, lenP]⟩)
  have hNk : lensP (MRe.trees kids) ≤ N := by
   rcases hcase with ⟨_, rfl, _⟩ | ⟨_, h⟩ | ⟨_, _, _, h⟩
   ·simp [MRe.trees, lensP]
   ·omega
   ·omega
  have hlk : ∀ k (h : k < kids.length), lensP ((MRe.trees kids).take (k + 1)) = lensP ((MRe.trees kids).take k) + lenP kids[k].tree ∧ lensP ((MRe.trees kids).take (k + 1)) ≤ 8000 := fun k h => by
   have h1 := lensP_take (MRe.trees kids) k (by rw [MRe.trees_length]; exact h)
   rw [treesP_getElem kids k h] at h1
   have h2 := lensP_le (MRe.trees kids) (k + 1)
   exact ⟨h1, by omega⟩
  have HLK := gI hlk
  have HCS := gI hcase
  have HAT := gI (fun W (k : Keeps [] w W) => (hat.keep k).node)
  have HNK := gI (fun W (k : Keeps [] w W) => hk.keep k)
  have HIH := gI (fun i (hi : i < kids.length) (b' o' : Nat) W (k : Keeps [] w W) (ha : At8 W b' o' kids[i]) (hl : lenP kids[i].tree ≤ 8000) => ih kids[i] (List.getElem_mem hi) b' o' W ha ((hr _ (List.getElem_mem hi)).keep k) (hke _ (List.getElem_mem hi)) (hkb _ (List.getElem_mem hi)) hl)
  obtain ⟨n0, n1, n2, n3, n4, n5, n6, n7⟩ := HAT.out w (Keeps.refl _ _)
  clear hQ hs ih hat hr hbk hkb hke hok hlk hcase hN hNk
  go_enter Tryz.func50, Tryz.ntmps50
  go_upto_region 3 with fail
  clear n0 n1 n2 n3 n4 n5 n6 n7
  go_loopw [3, 11] (fun v3 v11 wr => ∃ (k y : Nat), v11 = .int .i64 k ∧ v3 = .int .i64 y ∧ k ≤ kids.length ∧ y = lensP ((MRe.trees kids).take k) ∧ Keeps [] w wr) (fun _ v11 _ => kids.length - (intOf v11).toNat)
  case atStart => exact ⟨0, 0, rfl, rfl, Nat.zero_le _, by simp [lensP], Keeps.refl _ _⟩
  case round =>
   obtain ⟨k, y, rfl, rfl, hkk, hy, hkw⟩ := hrel
   obtain ⟨wB, hwB⟩ : ∃ wB : World, wB = wr := ⟨_, rfl⟩
   subst hwB
   have HKB := gI hkw
   have HY := gI hy
   clear hkw hy
   by_cases hlt : k < kids.length
   ·have hlti : (k : Int) < (kids.length : Int) := by omega
    have hw1 : IntKind.i64.wrap ((k : Int) + 1) = (k : Int) + 1 := IntWalk.i64_in _ (by omega)
    obtain ⟨kb, ko, hka, _, hkat⟩ := (HNK.out wB HKB.out).kid (by omega)
    subst hka
    obtain ⟨_, _, n2, _, _, _, _, _⟩ := HAT.out wB HKB.out
    obtain ⟨z, hz⟩ : ∃ z, z = lenP kids[k].tree := ⟨_, rfl⟩
    have h1 := HLK.out k hlt
    rw [← hz, ← HY.out] at h1
    have HC := gI (HIH.out k hlt kb (ko + k * 8) wB HKB.out (hkat k hlt) (by omega))
    rw [← hz] at HC
    have hw2 : IntKind.i64.wrap ((y : Int) + (z : Int)) = (y : Int) + (z : Int) := IntWalk.i64_in _ (by omega)
    have hmn : (y : Int) + (z : Int) < 8193 := by omega
    have hmn2 : (y : Int) + (z : Int) ≤ 8193 := by omega
    have H1 := gI h1
    clear hkat hz h1
    go_wp2_with fail
    with_reducible refine Calls.mono HC.out ?_
    rintro e w2 ⟨rfl, hk2⟩
    have HK2 := gI (HKB.out.trans hk2)
    clear hk2 n2
    go_wp2
    go_roundw
    case rel => exact ⟨k + 1, y + z, by go_num, by go_num, by omega, by rw [H1.out.1], HK2.out⟩
    case measure => simp [intOf]; omega
   ·obtain rfl : k = kids.length := by omega
    have hy2 : y = lensP (MRe.trees kids) := by rw [HY.out, List.take_of_length_le (by rw [MRe.trees_length]; exact Nat.le_refl _)]
    have HY2 := gI hy2
    obtain ⟨n0, _, _, n3, n4, _, _, _⟩ := HAT.out wB HKB.out
    clear hy2 HNK HIH HLK
    rcases HCS.out with ⟨rfl, rfl, hNN⟩ | ⟨rfl, hNN⟩ | ⟨rfl, rfl, rfl, hNN⟩
    ·have HNN := gI hNN
     clear hNN
     go_wp2
     rw [HQ.out, HNN.out]
     exact ⟨rfl, HKB.out⟩
    ·have hNy : N = y := by rw [hNN, HY2.out]
     have hyb : (y : Int) < 8193 := by omega
     have hyb2 : (y : Int) ≤ 8193 := by omega
     have HNN := gI hNy
     clear hNN hNy
     go_wp2
     rw [HQ.out, HNN.out]
     exact ⟨rfl, HKB.out⟩
    ·have hNy : N = y + 2 := by rw [hNN, HY2.out]
     have hyb : (y : Int) + 2 < 8193 := by omega
     have hyb2 : (y : Int) + 2 ≤ 8193 := by omega
     have hw1 : IntKind.i64.wrap ((y : Int) + 2) = (y : Int) + 2 := IntWalk.i64_in _ (by omega)
     have HNN := gI hNy
     clear hNN hNy
     go_wp2
     rw [HQ.out, HNN.out]
     exact ⟨by simp, HKB.out⟩
theorem cell_newP (w : World) (cs : Array Value) (t i : Nat) : (w.alloc (.cells cs t)).cell? ⟨w.heap.size, i, none⟩ = cs[i]? := by
 rw [cell_of_row _ _ _ _ _ _ (heap_alloc_new w _)]
theorem spansF1_any (b off sc : Nat) (x : Int) (w : World) (h0 : 0 ≤ x) (h1 : x ≤ 255) (e0 : w.cell? ⟨b, off, none⟩ = some (.int .i64 x)) (e1 : w.cell? ⟨b, off + 1, none⟩ = some (.int .i64 x)) :
  Calls Tryz.prog 104 #[.slice (some ⟨b, off, none⟩) 1 sc, .int .i64 255] w fun e w' => e = .returned (.bool true) ∧ Keeps [] w w' := by
 obtain ⟨Q, hQ⟩ : ∃ Q : Ending → World → Prop, Q = fun e w' => e = .returned (.bool true) ∧ Keeps [] w w' := ⟨_, rfl⟩
 rw [← hQ]
 have HQ := gI hQ
 have HC := gI (fun W (k : Keeps [] w W) => And.intro (k.cell e0 (by simp)) (k.cell e1 (by simp)))
 clear hQ e0 e1
 go_enter Tryz.func104, Tryz.ntmps104
 go_wp2
 go_loopw [12] (fun v12 wr => ∃ k : Nat, v12 = .int .i64 k ∧ k ≤ 1 ∧ Keeps [] w wr) (fun v12 _ => 1 - (intOf v12).toNat)
 case atStart => exact ⟨0, rfl, by omega, Keeps.refl _ _⟩
 case round =>
  obtain ⟨k, rfl, hk, hkp⟩ := hrel
  obtain ⟨wB, hwB⟩ : ∃ wB : World, wB = wr := ⟨_, rfl⟩
  subst hwB
  have HKP := gI hkp
  clear hkp
  by_cases hk0 : k = 0
  ·subst hk0
   obtain ⟨c0, c1⟩ := HC.out wB HKP.out
   go_upto_region 6 with fail
   obtain ⟨W, hWe⟩ : ∃ W, W = wB.alloc (.cells #[.int .i64 x, .int .i64 x] 51) := ⟨_, rfl⟩
   obtain ⟨G, hGe⟩ : ∃ G, G = wB.heap.size := ⟨_, rfl⟩
   have hkW : Keeps [] wB W := by rw [hWe]; exact (Keeps.refl [] wB).alloc _
   have g0 : W.cell? ⟨G, 0, none⟩ = some (.int .i64 x) := by rw [hWe, hGe]; exact cell_newP _ _ _ 0
   have g1 : W.cell? ⟨G, 1, none⟩ = some (.int .i64 x) := by rw [hWe, hGe]; exact cell_newP _ _ _ 1
   rw [← hWe, ← hGe]
   have KW := gI (HKP.out.trans hkW)
   clear hWe hGe hkW c0 c1
   have hx1 : ¬ x < 0 := by omega
   have hx2 : ¬ x < x := by omega
   have hx3 : ¬ 255 < x := by omega
   go_quiet (fail)
   go_wp2
   go_roundw
   case rel => exact ⟨1, by go_num, by omega, KW.out.drewN _⟩
   case measure => simp [intOf]
  ·obtain rfl : k = 1 := by omega
   go_wp2
   rw [HQ.out]
   exact ⟨rfl, HKP.out⟩
theorem boundedS_any (b o : Nat) (w : World) (c3 : w.cell? ⟨b, o + 3, none⟩ = some (.int .i64 0)) (c4 : w.cell? ⟨b, o + 4, none⟩ = some (.int .i64 (-1))) (c5 : w.cell? ⟨b, o + 5, none⟩ = some (.int .i64 0)) :
  Calls Tryz.prog 105 #[.pointer (some ⟨b, o, none⟩)] w fun e w' => e = .returned (.bool true) ∧ Keeps [] w w' := by
 obtain ⟨Q, hQ⟩ : ∃ Q : Ending → World → Prop, Q = fun e w' => e = .returned (.bool true) ∧ Keeps [] w w' := ⟨_, rfl⟩
 rw [← hQ]
 have HQ := gI hQ
 clear hQ
 go_enter Tryz.func105, Tryz.ntmps105
 go_upto_region 3 with fail
 go_quiet (fail)
 go_wp2
 rw [HQ.out]
 exact ⟨rfl, (Keeps.refl [] w).drewN _⟩
def nodeG : MRe → Prop
 | .node op _ _ set _ _ kids mn mx mode n neg => n = 0 ∧ neg = false ∧ mode = 0 ∧ mn = 0 ∧ ((op = 1 ∧ kids = [] ∧ mx = 0 ∧ ∃ x : Int, set = [(x, x)] ∧ 0 ≤ x ∧ x ≤ 255) ∨ (op = 2 ∧ set = [] ∧ mx = 0 ∧ 2 ≤ kids.length ∧ kids.length ≤ 1000000) ∨ (op = 4 ∧ set = [] ∧ mx = -1 ∧ kids.length = 1))
set_option linter.unusedSimpArgs false in
theorem formedP_any (m : MRe) (b o : Nat) (cp : Int) (w : World) (h8 : At8 w b o m) (k1 : m.OK w) (hg : nodeG m) :
  Calls Tryz.prog 75 #[.pointer (some ⟨b, o, none⟩), .int .i64 cp, .int .i64 255] w fun e w' => e = .returned (.bool true) ∧ Keeps [] w w' := by
 obtain ⟨op, sa, sc, set, ka, kc, kids, mn, mx, mode, n, neg⟩ := m
 obtain ⟨rfl, rfl, rfl, rfl, hg⟩ := hg
 obtain ⟨Q, hQ⟩ : ∃ Q : Ending → World → Prop, Q = fun e w' => e = .returned (.bool true) ∧ Keeps [] w w' := ⟨_, rfl⟩
 rw [← hQ]
 have HQ := gI hQ
 obtain ⟨n0, n1, n2, n3, n4, n5, n6, n7⟩ := h8.node
 have HG := gI hg
 have HK := gI k1
 clear hQ h8 hg k1
 go_enter Tryz.func75, Tryz.ntmps75
 go_upto_region 5 with fail
 obtain ⟨G, hG⟩ : ∃ G, G = w.heap.size := ⟨_, rfl⟩
 obtain ⟨X, hX⟩ : ∃ X, X = w.alloc (.cells #[.int .i64 op, .slice sa set.length sc, .slice none 0 0, .int .i64 0, .int .i64 mx, .int .i64 0, .int .i64 0, .bool false] 55) := ⟨_, rfl⟩
 have hkX : Keeps [] w X := by rw [hX]; exact (Keeps.refl [] w).alloc _
 have hbX : X.heap[G]? = some (.cells #[.int .i64 op, .slice sa set.length sc, .slice none 0 0, .int .i64 0, .int .i64 mx, .int .i64 0, .int .i64 0, .bool false] 55 (0, 0)) := by rw [hX, hG]; exact heap_alloc_new w _
 rw [← hX, ← hG]
 have HKX := gI hkX
 have HBX := gI hbX
 have HGN := gI (show w.heap.size ≤ G from Nat.le_of_eq hG.symm)
 have HN := gI (fun W (k : Keeps [] w W) => And.intro (k.cell n0 (by simp)) (And.intro (k.cell n1 (by simp)) (And.intro (k.cell n3 (by simp)) (And.intro (k.cell n4 (by simp)) (k.cell n5 (by simp))))))
 clear hX hG hkX hbX n0 n1 n2 n3 n4 n5 n6 n7
 rcases HG.out with ⟨rfl, rfl, rfl, x, rfl, hx0, hx1⟩ | ⟨rfl, rfl, rfl, hk2, hk3⟩ | ⟨rfl, rfl, rfl, hk1⟩
 ·obtain ⟨n0, n1, _⟩ := HN.out X HKX.out
  obtain ⟨bs, os, hsa, e0, e1⟩ : ∃ bs os, sa = some ⟨bs, os, none⟩ ∧ w.cell? ⟨bs, os, none⟩ = some (.int .i64 x) ∧ w.cell? ⟨bs, os + 1, none⟩ = some (.int .i64 x) := by
   have h := HK.out
   cases h with
   | mk hs _ _ =>
    obtain ⟨b', o', h1, _, h2⟩ := hs.at_ (by have := hs.le; simp at this; omega)
    have h3 := h2 0 (by simp)
    exact ⟨b', o', h1, by simpa using h3.1, by simpa using h3.2⟩
  subst hsa
  have HSF := gI (fun W (k : Keeps [] w W) => spansF1_any bs os sc x W hx0 hx1 (k.cell e0 (by simp)) (k.cell e1 (by simp)))
  clear e0 e1
  go_wp2_with fail
  with_reducible refine Calls.mono (HSF.out X HKX.out) ?_
  rintro e w2 ⟨rfl, hk2⟩
  have hb2 := hk2.heap HBX.out (by simp)
  have y1 : w2.cell? ⟨G, 1, none⟩ = some (.slice (some ⟨bs, os, none⟩) 1 sc) := by simp [World.cell?, hb2]
  have yf : w2.frozen? ⟨G, 1, none⟩ = false := by simp [World.frozen?, hb2]
  obtain ⟨Z, hZ⟩ : ∃ Z, Z = w2.setCell ⟨G, 1, none⟩ (.slice none 0 0) := ⟨_, rfl⟩
  have hbZ := heap_setCell_same w2 G 1 _ _ (.slice none 0 0) hb2
  rw [← hZ] at hbZ
  have HZ := gI hZ
  have HKZ := gI (show Keeps [] w Z from (HKX.out.trans hk2).after (show Keeps [G] w2 Z by rw [hZ]; exact (Keeps.refl [G] w2).setCell (by simp) _) (fun q hq => .inr (by simp at hq; subst hq; exact HGN.out)))
  have HBZ := gI hbZ
  clear hk2 hb2 hZ hbZ n0 n1
  go_upto_region 36 with fail
  rw [← HZ.out]
  clear y1 yf
  have hbZ := HBZ.out
  have x1 : Z.cell? ⟨G, 1, none⟩ = some (.slice none 0 0) := by simp [World.cell?, hbZ]
  have x3 : Z.cell? ⟨G, 3, none⟩ = some (.int .i64 0) := by simp [World.cell?, hbZ]
  have x4 : Z.cell? ⟨G, 4, none⟩ = some (.int .i64 0) := by simp [World.cell?, hbZ]
  have x5 : Z.cell? ⟨G, 5, none⟩ = some (.int .i64 0) := by simp [World.cell?, hbZ]
  have x6 : Z.cell? ⟨G, 6, none⟩ = some (.int .i64 0) := by simp [World.cell?, hbZ]
  have x7 : Z.cell? ⟨G, 7, none⟩ = some (.bool false) := by simp [World.cell?, hbZ]
  clear hbZ
  go_wp2
  rw [HQ.out]
  exact ⟨rfl, HKZ.out⟩
 ·obtain ⟨n0, _⟩ := HN.out X HKX.out
  have hk2i : (2 : Int) ≤ (kids.length : Int) := by omega
  have hbX := HBX.out
  have x1 : X.cell? ⟨G, 1, none⟩ = some (.slice sa 0 sc) := by simp [World.cell?, hbX]
  have x3 : X.cell? ⟨G, 3, none⟩ = some (.int .i64 0) := by simp [World.cell?, hbX]
  have x4 : X.cell? ⟨G, 4, none⟩ = some (.int .i64 0) := by simp [World.cell?, hbX]
  have x5 : X.cell? ⟨G, 5, none⟩ = some (.int .i64 0) := by simp [World.cell?, hbX]
  have x6 : X.cell? ⟨G, 6, none⟩ = some (.int .i64 0) := by simp [World.cell?, hbX]
  have x7 : X.cell? ⟨G, 7, none⟩ = some (.bool false) := by simp [World.cell?, hbX]
  clear hbX
  go_wp2
  rw [HQ.out]
  exact ⟨rfl, HKX.out⟩
 ·obtain ⟨n0, _, n3, n4, n5⟩ := HN.out X HKX.out
  have HBD := gI (boundedS_any b o X n3 n4 n5)
  have hk1i : ((kids.length : Int) == 1) = true := by simp [hk1]
  have HK1 := gI hk1
  clear hk1 n3 n4 n5
  go_wp2_with fail
  with_reducible refine Calls.mono HBD.out ?_
  rintro e w2 ⟨rfl, hk2⟩
  have hb2 := hk2.heap HBX.out (by simp)
  have y3 : w2.cell? ⟨G, 3, none⟩ = some (.int .i64 0) := by simp [World.cell?, hb2]
  have y4 : w2.cell? ⟨G, 4, none⟩ = some (.int .i64 (-1)) := by simp [World.cell?, hb2]
  have y5 : w2.cell? ⟨G, 5, none⟩ = some (.int .i64 0) := by simp [World.cell?, hb2]
  have yf : ∀ i, w2.frozen? ⟨G, i, none⟩ = false := fun i => by simp [World.frozen?, hb2]
  have yf3 := yf 3
  have yf4 := yf 4
  have yf5 := yf 5
  obtain ⟨Z, hZ⟩ : ∃ Z, Z = ((w2.setCell ⟨G, 3, none⟩ (.int .i64 0)).setCell ⟨G, 4, none⟩ (.int .i64 0)).setCell ⟨G, 5, none⟩ (.int .i64 0) := ⟨_, rfl⟩
  have q3 := heap_setCell_same w2 G 3 _ _ (.int .i64 0) hb2
  have q4 := heap_setCell_same _ G 4 _ _ (.int .i64 0) q3
  have hbZ := heap_setCell_same _ G 5 _ _ (.int .i64 0) q4
  rw [← hZ] at hbZ
  have HZ := gI hZ
  have HKZ := gI (show Keeps [] w Z from (HKX.out.trans hk2).after (show Keeps [G] w2 Z by rw [hZ]; exact (((Keeps.refl [G] w2).setCell (by simp) _).setCell (by simp) _).setCell (by simp) _) (fun q hq => .inr (by simp at hq; subst hq; exact HGN.out)))
  have HBZ := gI hbZ
  clear hk2 hb2 hZ hbZ q3 q4 n0 yf
  go_upto_region 36 with fail
  rw [← HZ.out]
  clear y3 y4 y5 yf3 yf4 yf5
  have hbZ := HBZ.out
  have x1 : Z.cell? ⟨G, 1, none⟩ = some (.slice sa 0 sc) := by simp [World.cell?, hbZ]
  have x3 : Z.cell? ⟨G, 3, none⟩ = some (.int .i64 0) := by simp [World.cell?, hbZ]
  have x4 : Z.cell? ⟨G, 4, none⟩ = some (.int .i64 0) := by simp [World.cell?, hbZ]
  have x5 : Z.cell? ⟨G, 5, none⟩ = some (.int .i64 0) := by simp [World.cell?, hbZ]
  have x6 : Z.cell? ⟨G, 6, none⟩ = some (.int .i64 0) := by simp [World.cell?, hbZ]
  have x7 : Z.cell? ⟨G, 7, none⟩ = some (.bool false) := by simp [World.cell?, hbZ]
  clear hbZ
  go_wp2
  rw [HQ.out]
  exact ⟨rfl, HKZ.out⟩
end Go.Proofs.YtkekenaamnhbhaaGreat
