/- Part 33 of the proof. No condition: every lemma says its own. -/
import Derived.Laws.EntriesVeiled
import Derived.Test.YtkekenaamnhbhaaGreatZsaz
import Derived.Test.YtkekenaamnhbhaaGreatZsas
import Derived.Test.YtkekenaamnhbhaaGreatZsaq
import Derived.Test.YtkekenaamnhbhaaGreatZsam
import Derived.Test.YtkekenaamnhbhaaGreatZsaa
namespace Go.Proofs.YtkekenaamnhbhaaGreat
open Go.RowKit Go.Sort Go.BigFrame
open Go.RowKit Go.BigFrame Classical
set_option maxRecDepth 100000
set_option maxHeartbeats 16000000
structure PgOK (p : Pg) : Prop where
 caps : 0 ≤ p.caps ∧ p.caps ≤ 9
 ne : p.ins ≠ []
 ins : ∀ i ∈ p.ins, InOK p.ins.length p.caps p.runes i
 last : ∀ h : 0 < p.ins.length, (p.ins[p.ins.length - 1]).op = 0 ∨ (p.ins[p.ins.length - 1]).op = 2 ∨ (p.ins[p.ins.length - 1]).op = 3
theorem pvalid_any (p : Pg) (b o : Nat) (w : World) (i : Ins) (hi : InsAt w b o i) (hsp : SpIn w i.sa i.sp ∧ i.sp.length ≤ 1000000000000) (hok : InOK p.ins.length p.caps p.runes i) (hcap : 0 ≤ p.caps ∧ p.caps ≤ 9) :
  Calls Tryz.prog 84 #[p.val, .pointer (some ⟨b, o, none⟩)] w fun e w' => e = .returned (.bool true) ∧ Keeps [] w w' := by
 obtain ⟨op, x, y, n, sa, sc, sp⟩ := i
 unfold InOK at hok
 simp only at hok hsp
 rcases hok with ⟨rfl, hx, hy, hn, hs⟩ | ⟨rfl, hx, hy, hn, hset, hru⟩ | ⟨rfl, hx, hy, hn, hs⟩ | ⟨rfl, hx, hy, hn, hs⟩ | ⟨rfl, hx, hy, hn, hs⟩ | ⟨rfl, hx, hy, hn, hs⟩
 ·exact pvalid0_any p.ia p.ic p.ins.length p.caps p.runes b o w x y n sa sc sp hi hx hy hn hs
 ·exact pvalid1_any p.ia p.ic p.ins.length p.caps p.runes b o w x y n sa sc sp hi hx hy hn hsp hset hru
 ·exact pvalid2_any p.ia p.ic p.ins.length p.caps p.runes b o w x y n sa sc sp hi hx hy hn hs
 ·exact pvalid3_any p.ia p.ic p.ins.length p.caps p.runes b o w x y n sa sc sp hi hx hy hn hs
 ·exact pvalid4_any p.ia p.ic p.ins.length p.caps p.runes b o w x y n sa sc sp hi hx hy hn hcap hs
 ·exact pvalid5_any p.ia p.ic p.ins.length p.caps p.runes b o w x y n sa sc sp hi hx hy hn hs
theorem PValid_any (p : Pg) (w : World) (hp : PgIn w p) (ok : PgOK p) : Calls Tryz.prog 52 #[p.val] w fun e w' => e = .returned (.int .i64 0) ∧ Keeps [] w w' := by
 obtain ⟨B, hB⟩ : ∃ B, B = w.heap.size := ⟨_, rfl⟩
 obtain ⟨Y, hY⟩ : ∃ Y, Y = w.alloc (.cells #[.slice p.ia p.ins.length p.ic, .int .i64 p.caps, .bool p.runes] 83) := ⟨_, rfl⟩
 have hkY : Keeps [] w Y := by rw [hY]; exact Keeps.a1 _ _
 have hb : Y.heap[B]? = some (.cells #[.slice p.ia p.ins.length p.ic, .int .i64 p.caps, .bool p.runes] 83 (0, 0)) := by rw [hY, hB]; exact heap_alloc_new w _
 have b0 : Y.cell? ⟨B, 0, none⟩ = some (.slice p.ia p.ins.length p.ic) := by simp [World.cell?, hb]
 have b1 : Y.cell? ⟨B, 1, none⟩ = some (.int .i64 p.caps) := by simp [World.cell?, hb]
 have b2 : Y.cell? ⟨B, 2, none⟩ = some (.bool p.runes) := by simp [World.cell?, hb]
 have hlen := hp.len
 obtain ⟨hc0, hc1⟩ := ok.caps
 have hpos : 0 < p.ins.length := List.length_pos_iff.2 ok.ne
 obtain ⟨pb, off, hia, hcells⟩ := hp.ins hpos
 have HV := gI (fun W (k : Keeps [] Y W) (q : Nat) (hq : q < p.ins.length) => pvalid_any p pb (off + q * 5) W p.ins[q] ((hcells q hq).keep (hkY.trans k) (by simp)) ⟨(hp.sp _ (List.getElem_mem hq)).1.keep (hkY.trans k), (hp.sp _ (List.getElem_mem hq)).2⟩ (ok.ins _ (List.getElem_mem hq)) ok.caps)
 have HLAST := gI (ok.last hpos)
 have HC := gI (fun W (k : Keeps [] Y W) => ((hcells (p.ins.length - 1) (by omega)).keep (hkY.trans k) (by simp)).1)
 have HY := gI hY
 have HB := gI hB
 have HK := gI hkY
 have HBX := gI (show ∀ W, Keeps [] Y W → W.cell? ⟨B, 0, none⟩ = some (.slice p.ia p.ins.length p.ic) ∧ W.cell? ⟨B, 1, none⟩ = some (.int .i64 p.caps) ∧ W.cell? ⟨B, 2, none⟩ = some (.bool p.runes) from fun W k => ⟨k.cell b0 (by simp), k.cell b1 (by simp), k.cell b2 (by simp)⟩)
 simp only [Pg.val] at HV ⊢
 rw [hia] at b0 HBX HY HV ⊢
 have hne0 : ((p.ins.length : Int) == 0) = false := by rw [beq_eq_false_iff_ne]; omega
 have hne1 : ¬ ((p.ins.length : Int) = 0) := by omega
 have hne2 : ¬ (p.ins.length = 0) := by omega
 clear hp ok hkY hY hB hb hcells hia
 go_enter Tryz.func52, Tryz.ntmps52
 go_upto_region 1 with fail
 rw [← HY.out, ← HB.out]
 go_wp2
 go_loopw [25] (fun v wr => ∃ q : Nat, v = .int .i64 q ∧ q ≤ p.ins.length ∧ Keeps [] Y wr) (fun v _ => p.ins.length - (intOf v).toNat)
 case atStart => exact ⟨0, rfl, Nat.zero_le _, Keeps.refl _ _⟩
 case round =>
  obtain ⟨q, rfl, hq, hk⟩ := hrel
  obtain ⟨wA, hwA⟩ : ∃ wA : World, wA = wr := ⟨_, rfl⟩
  subst hwA
  obtain ⟨d0, d1, d2⟩ := HBX.out _ hk
  have HKA := gI hk
  clear hk b0 b1 b2
  by_cases hqm : q < p.ins.length
  ·have HCALL := gI (HV.out wA.drew HKA.out.drew q hqm)
   go_upto_region 8 with fail
   refine wp_region_held_drew (S := fun w' => w'.cell? ⟨B, 0, none⟩ = some (.slice (some ⟨pb, off, none⟩) p.ins.length p.ic) ∧ w'.cell? ⟨B, 1, none⟩ = some (.int .i64 p.caps) ∧ w'.cell? ⟨B, 2, none⟩ = some (.bool p.runes)) (by kernel_rfl) ⟨d0, d1, d2⟩ (fun hHeld => ?_)
   refine take_on (i := 0) (v := ?_) rfl (by kernel_rfl) (by kernel_rfl) (by kernel_rfl) (fun _ _ _ h => h) (by rfl) (by assumption) ?_ ?_
   rotate_left
   ·((intro w hSw; (try dsimp only at hSw); go_simp <;> with_reducible rfl); done)
   try simp only [Act.put, List.setIfInBounds_toArray, List.set_cons_zero, List.set_cons_succ]
   refine take_on (i := 1) (v := ?_) rfl (by kernel_rfl) (by kernel_rfl) (by kernel_rfl) (fun _ _ _ h => h) (by rfl) (by assumption) ?_ ?_
   rotate_left
   ·((intro w hSw; (try dsimp only at hSw); go_simp <;> with_reducible rfl); done)
   try simp only [Act.put, List.setIfInBounds_toArray, List.set_cons_zero, List.set_cons_succ]
   refine take_on (i := 2) (v := ?_) rfl (by kernel_rfl) (by kernel_rfl) (by kernel_rfl) (fun _ _ _ h => h) (by rfl) (by assumption) ?_ ?_
   rotate_left
   ·((intro w hSw; (try dsimp only at hSw); go_simp <;> with_reducible rfl); done)
   try simp only [Act.put, List.setIfInBounds_toArray, List.set_cons_zero, List.set_cons_succ]
   refine take_on (i := 3) (v := ?_) rfl (by kernel_rfl) (by kernel_rfl) (by kernel_rfl) (fun _ _ _ h => h) (by rfl) (by assumption) ?_ ?_
   rotate_left
   ·((intro w hSw; (try dsimp only at hSw); go_simp <;> with_reducible rfl); done)
   try simp only [Act.put, List.setIfInBounds_toArray, List.set_cons_zero, List.set_cons_succ]
   refine take_on (i := 4) (v := ?_) rfl (by kernel_rfl) (by kernel_rfl) (by kernel_rfl) (fun _ _ _ h => h) (by rfl) (by assumption) ?_ ?_
   rotate_left
   ·((intro w hSw; (try dsimp only at hSw); go_simp <;> with_reducible rfl); done)
   try simp only [Act.put, List.setIfInBounds_toArray, List.set_cons_zero, List.set_cons_succ]
   refine branch_one (i := 5) rfl (by kernel_rfl) (by rfl) (fun K hK => ?_)
   go_simp
   with_reducible refine Calls.mono HCALL.out ?_
   rintro e w2 ⟨rfl, hk2⟩
   have hk3 := HKA.out.drew.trans hk2
   refine hK.out _ _ (HBX.out _ hk3) (fun hHeld => ?_)
   clear hK K
   try simp only [Act.put, List.setIfInBounds_toArray, List.set_cons_zero, List.set_cons_succ]
   refine take_on (i := 6) (v := ?_) rfl (by kernel_rfl) (by kernel_rfl) (by kernel_rfl) (fun _ _ _ h => h) (by rfl) (by assumption) ?_ ?_
   rotate_left
   ·((intro w hSw; (try dsimp only at hSw); go_simp <;> with_reducible rfl); done)
   try simp only [Act.put, List.setIfInBounds_toArray, List.set_cons_zero, List.set_cons_succ]
   refine wpAnyH_done (by kernel_rfl) ?_ _
   have HK3 := gI hk3
   clear hk2 hk3 d0 d1 d2 hHeld
   go_wp2
   go_roundw
   case rel => exact ⟨q + 1, by go_num, hqm, HK3.out⟩
   case measure => simp [intOf]; omega
  ·have c0 := HC.out _ HKA.out
   have hw : IntKind.i64.wrap ((p.ins.length : Int) - 1) = ((p.ins.length - 1 : Nat) : Int) := by rw [IntWalk.i64_in _ (by omega)]; omega
   have hlt : p.ins.length - 1 < p.ins.length := by omega
   have HL2 := gI HLAST.out
   obtain ⟨op, hop⟩ : ∃ op, op = (p.ins[p.ins.length - 1]).op := ⟨_, rfl⟩
   rw [← hop] at c0
   obtain ⟨l, hl⟩ : ∃ l, l = p.ins.length - 1 := ⟨_, rfl⟩
   rw [← hl] at hw hlt c0
   have hops : op = 0 ∨ op = 2 ∨ op = 3 := by rw [hop]; exact HL2.out
   clear hl hop HL2
   rcases hops with rfl | rfl | rfl
   ·go_wp2
    go_ret
    exact ⟨rfl, HK.out.trans HKA.out⟩
   ·go_wp2
    go_ret
    exact ⟨rfl, HK.out.trans HKA.out⟩
   ·go_wp2
    go_ret
    exact ⟨rfl, HK.out.trans HKA.out⟩
def silL (i : Ins) (n : Nat) : List Int := if i.op = 2 then [i.x, i.y] else if i.op = 3 then [i.x] else if i.op = 4 then [(n : Int) + 1] else []
set_option linter.unusedSimpArgs false in
theorem silent_any (p : Pg) (n : Nat) (w : World) (hp : PgIn w p) (hn : n < p.ins.length) : Calls Tryz.prog 86 #[p.val, .int .i64 n] w fun e w' =>
  ∃ a c, e = .returned (sv a (silL p.ins[n] n).length c) ∧ SliceAt w' 3 1 a (silL p.ins[n] n).length c ((silL p.ins[n] n).map (Value.int .i64)) ∧ Keeps [] w w' ∧ ∀ g, a = some g → w.heap.size ≤ g := by
 obtain ⟨pb, off, hia, hcells⟩ := hp.ins (by omega)
 have hi := hcells n hn
 have hlen := hp.len
 obtain ⟨i, hi0⟩ : ∃ i, i = p.ins[n] := ⟨_, rfl⟩
 rw [← hi0] at hi ⊢
 obtain ⟨B, hB⟩ : ∃ B, B = w.heap.size := ⟨_, rfl⟩
 obtain ⟨Y, hY⟩ : ∃ Y, Y = w.alloc (.cells #[.slice p.ia p.ins.length p.ic, .int .i64 p.caps, .bool p.runes] 83) := ⟨_, rfl⟩
 have hkY : Keeps [] w Y := by rw [hY]; exact Keeps.a1 _ _
 have hb : Y.heap[B]? = some (.cells #[.slice p.ia p.ins.length p.ic, .int .i64 p.caps, .bool p.runes] 83 (0, 0)) := by rw [hY, hB]; exact heap_alloc_new w _
 have b0 : Y.cell? ⟨B, 0, none⟩ = some (.slice p.ia p.ins.length p.ic) := by simp [World.cell?, hb]
 obtain ⟨c0, c1, c2, c3, c4⟩ := hi.keep hkY (by simp)
 obtain ⟨op, x, y, m, sa, sc, sp⟩ := i
 simp only at c0 c1 c2 c3 c4
 obtain ⟨Z, hZ⟩ : ∃ Z, Z = Y.alloc (.cells #[.int .i64 op, .int .i64 x, .int .i64 y, .int .i64 m, .slice sa sp.length sc] 112) := ⟨_, rfl⟩
 have hkZ : Keeps [] Y Z := by rw [hZ]; exact Keeps.a1 _ _
 have hYs : Y.heap.size = B + 1 := by rw [hY, hB]; simp
 have hz : Z.heap[B + 1]? = some (.cells #[.int .i64 op, .int .i64 x, .int .i64 y, .int .i64 m, .slice sa sp.length sc] 112 (0, 0)) := by
  have h := heap_alloc_new Y (.cells #[.int .i64 op, .int .i64 x, .int .i64 y, .int .i64 m, .slice sa sp.length sc] 112)
  rw [hYs, ← hZ] at h
  exact h
 have z0 : Z.cell? ⟨B + 1, 0, none⟩ = some (.int .i64 op) := by simp [World.cell?, hz]
 have z1 : Z.cell? ⟨B + 1, 1, none⟩ = some (.int .i64 x) := by simp [World.cell?, hz]
 have z2 : Z.cell? ⟨B + 1, 2, none⟩ = some (.int .i64 y) := by simp [World.cell?, hz]
 have HY := gI hY
 have HB := gI hB
 have HZ := gI hZ
 have HYS := gI hYs
 have HK := gI (hkY.trans hkZ)
 have hZs : Z.heap.size = B + 2 := by rw [hZ]; simp; omega
 have HZS := gI hZs
 simp only [Pg.val]
 rw [hia] at b0 HY ⊢
 clear hp hcells hi hi0 hkY hb hY hB hZ hkZ hYs hz hZs hia
 have HW : ∀ (o : Obj), Keeps [] w (Z.alloc o) := fun o => HK.out.alloc o
 have HWK := gI HW
 clear HW
 have one : ∀ v : Int, SliceAt (Z.alloc (.cells #[.int .i64 v] 3)) 3 1 (some Z.heap.size) 1 1 [.int .i64 v] := fun v => by
  have h := SliceAt.of_row (size := 1) (c := 1) (heap_alloc_new Z (.cells #[.int .i64 v] 3)) (by simp) (by unfold maxLen; omega)
  simpa using h
 have two : SliceAt (Z.alloc (.cells #[.int .i64 x, .int .i64 y] 3)) 3 1 (some Z.heap.size) 2 2 [.int .i64 x, .int .i64 y] := by
  have h := SliceAt.of_row (size := 1) (c := 2) (heap_alloc_new Z (.cells #[.int .i64 x, .int .i64 y] 3)) (by simp) (by unfold maxLen; omega)
  simpa using h
 have HONE := gI one
 have HTWO := gI two
 have HGE := gI (show w.heap.size ≤ Z.heap.size from HK.out.size)
 clear one two
 by_cases h2 : op = 2
 ·subst h2
  have HL := gI (show silL ⟨2, x, y, m, sa, sc, sp⟩ n = [x, y] by simp [silL])
  go_enter Tryz.func86, Tryz.ntmps86
  go_upto_region 1 with fail
  rw [← HY.out, ← HB.out]
  go_upto_region 2 with fail
  rw [← HZ.out, HYS.out]
  go_wp2
  go_ret
  rw [HL.out]
  exact ⟨some Z.heap.size, 2, rfl, HTWO.out, HWK.out _, fun g hg => by cases hg; exact HGE.out⟩
 ·have h2b : (op == 2) = false := by simpa using h2
  by_cases h3 : op = 3
  ·subst h3
   have HL := gI (show silL ⟨3, x, y, m, sa, sc, sp⟩ n = [x] by simp [silL])
   go_enter Tryz.func86, Tryz.ntmps86
   go_upto_region 1 with fail
   rw [← HY.out, ← HB.out]
   go_upto_region 2 with fail
   rw [← HZ.out, HYS.out]
   go_wp2
   go_ret
   rw [HL.out]
   exact ⟨some Z.heap.size, 1, rfl, HONE.out x, HWK.out _, fun g hg => by cases hg; exact HGE.out⟩
  ·have h3b : (op == 3) = false := by simpa using h3
   by_cases h4 : op = 4
   ·subst h4
    have HL := gI (show silL ⟨4, x, y, m, sa, sc, sp⟩ n = [(n : Int) + 1] by simp [silL])
    go_enter Tryz.func86, Tryz.ntmps86
    go_upto_region 1 with fail
    rw [← HY.out, ← HB.out]
    go_upto_region 2 with fail
    rw [← HZ.out, HYS.out]
    go_wp2
    go_ret
    rw [HL.out]
    exact ⟨some Z.heap.size, 1, rfl, HONE.out _, HWK.out _, fun g hg => by cases hg; exact HGE.out⟩
   ·have h4b : (op == 4) = false := by simpa using h4
    have HL := gI (show silL ⟨op, x, y, m, sa, sc, sp⟩ n = [] by simp [silL, h2, h3, h4])
    clear h2 h3 h4
    go_enter Tryz.func86, Tryz.ntmps86
    go_upto_region 1 with fail
    rw [← HY.out, ← HB.out]
    go_upto_region 2 with fail
    rw [← HZ.out, HYS.out]
    go_wp2
    go_ret
    rw [HL.out]
    exact ⟨none, 0, rfl, SliceAt.nil _ _ _, HK.out, fun g hg => by cases hg⟩
theorem indexI_any (K : Nat) (cap : Array Value) (l : List Int) (a : Option Nat) (c : Nat) (J : Nat → World → Prop) (w : World) (he : EntersA K) (hl : l.length ≤ 1000000) (h0 : J 0 w)
  (hrd : ∀ k W, J k W → SliceAt W 3 1 a l.length c (l.map (Value.int .i64)))
  (hf : ∀ k (hk : k < l.length) W, J k W → Calls Tryz.prog K (#[.int .i64 l[k]] ++ cap) W fun e w' => e = .returned (.bool false) ∧ J (k + 1) w') :
  Calls Tryz.prog 93 #[.slice (a.map fun g => ⟨g, 0, none⟩) l.length c, .func (.func K) #[] cap] w fun e w' => e = .returned (.int .i64 (-1)) ∧ J l.length w' := by
 have HRD := gI hrd
 have HF := gI hf
 have H0 := gI h0
 unfold EntersA at he
 clear hrd hf h0
 go_enter Tryz.func93, Tryz.ntmps93
 go_wp2
 go_loopw [8] (fun i wr => ∃ k : Nat, k ≤ l.length ∧ i = .int .i64 k ∧ J k wr) (fun i _ => l.length - (intOf i).toNat)
 case atStart => exact ⟨0, Nat.zero_le _, rfl, H0.out⟩
 case round =>
  obtain ⟨k, hkk, rfl, hj⟩ := hrel
  by_cases hlt : k < l.length
  ·have hs := HRD.out k wr hj
   obtain ⟨g, rfl⟩ : ∃ g, a = some g := by
    cases a with
    | none => have := hs.2.1; omega
    | some g => exact ⟨g, rfl⟩
   simp only [Option.map_some]
   have hc := hs.cell k (by simpa using hlt)
   simp only [List.getElem_map] at hc
   have HC := gI (HF.out k hlt wr hj)
   obtain ⟨v, hv⟩ : ∃ v, v = l[k] := ⟨_, rfl⟩
   rw [← hv] at hc HC
   clear hs hj hv
   go_wp2_with fail
   refine Calls.mono HC.out ?_
   rintro e w2 ⟨rfl, hj2⟩
   have HJ2 := gI hj2
   clear hj2
   go_wp2
   go_roundw
   case rel => exact ⟨k + 1, by omega, by go_num, HJ2.out⟩
   case measure => simp [intOf]; omega
  ·obtain rfl : k = l.length := by omega
   have HJ := gI hj
   clear hj
   go_wp2
   go_ret
   exact ⟨rfl, HJ.out⟩
theorem containsI_any (K : Nat) (cap : Array Value) (l : List Int) (a : Option Nat) (c : Nat) (J : Nat → World → Prop) (w : World) (he : EntersA K) (hl : l.length ≤ 1000000) (h0 : J 0 w)
  (hrd : ∀ k W, J k W → SliceAt W 3 1 a l.length c (l.map (Value.int .i64)))
  (hf : ∀ k (hk : k < l.length) W, J k W → Calls Tryz.prog K (#[.int .i64 l[k]] ++ cap) W fun e w' => e = .returned (.bool false) ∧ J (k + 1) w') :
  Calls Tryz.prog 59 #[.slice (a.map fun g => ⟨g, 0, none⟩) l.length c, .func (.func K) #[] cap] w fun e w' => e = .returned (.bool false) ∧ J l.length w' := by
 have HC := gI (indexI_any K cap l a c J w he hl h0 hrd hf)
 clear he hrd hf h0
 go_enter Tryz.func59, Tryz.ntmps59
 go_wp2_with fail
 refine HC.out.mono ?_
 rintro e w2 ⟨rfl, hj⟩
 have HJ := gI hj
 clear hj
 go_wp2
 go_ret
 exact ⟨rfl, HJ.out⟩
def Ends (p : Pg) (ρ : Nat → Nat) : Prop := ∀ n (h : n < p.ins.length), ∀ t ∈ silL p.ins[n] n, ∃ k : Nat, t = k ∧ k < p.ins.length ∧ ρ k < ρ n
def cirC (p3 p1 p4 : Nat) : Array Value := #[.pointer (some ⟨p3, 0, none⟩), .pointer (some ⟨p1, 0, none⟩), .pointer (some ⟨p4, 0, none⟩)]
structure CS (W00 : World) (p : Pg) (p3 p1 p4 mb : Nat) (mk : List Int) (w : World) : Prop where
 kp : Keeps [] W00 w
 c3 : w.cell? ⟨p3, 0, none⟩ = some (.slice (some ⟨mb, 0, none⟩) p.ins.length p.ins.length)
 c4 : w.cell? ⟨p4, 0, none⟩ = some (.func (.func 85) #[] (cirC p3 p1 p4))
 kn : Ints 3 w mb mk
 len : mk.length = p.ins.length
 nm : mb ≠ p3 ∧ mb ≠ p4 ∧ W00.heap.size ≤ mb
theorem CS.keep {W00 w w' : World} {p : Pg} {p3 p1 p4 mb : Nat} {mk : List Int} (h : CS W00 p p3 p1 p4 mb mk w) (k : Keeps [] w w') : CS W00 p p3 p1 p4 mb mk w' :=
 ⟨h.kp.trans k, k.cell h.c3 (by simp), k.cell h.c4 (by simp), h.kn.keep k (by simp), h.len, h.nm⟩
theorem CS.set {W00 w : World} {p : Pg} {p3 p1 p4 mb : Nat} {mk : List Int} (h : CS W00 p p3 p1 p4 mb mk w) (i : Nat) (v : Int) : CS W00 p p3 p1 p4 mb (mk.set i v) (w.setCell ⟨mb, i, none⟩ (.int .i64 v)) ∧ Keeps [mb] w (w.setCell ⟨mb, i, none⟩ (.int .i64 v)) := by
 have k : Keeps [mb] w (w.setCell ⟨mb, i, none⟩ (.int .i64 v)) := (Keeps.refl [mb] w).setCell (by simp) _
 exact ⟨⟨h.kp.after k (fun q hq => by simp at hq; subst hq; exact .inr h.nm.2.2), k.cell h.c3 (by simpa using h.nm.1.symm), k.cell h.c4 (by simpa using h.nm.2.1.symm), h.kn.set i v, by simpa using h.len, h.nm⟩, k⟩
def MkOK (m : Nat) (mk mk' : List Int) : Prop := ∀ i, i < m → (mk'.getD i 0 = 1 ↔ mk.getD i 0 = 1) ∧ (mk'.getD i 0 = 0 ∨ mk'.getD i 0 = 1 ∨ mk'.getD i 0 = 2)
theorem back_any {W00 : World} {p : Pg} {p3 p1 p4 mb : Nat} {ρ : Nat → Nat} (hp : PgIn W00 p) (hg : W00.heap[p1]? = some (.cells p.row.toArray 83 (0, 0))) (hE : Ends p ρ) : ∀ r n w mk, n < p.ins.length → ρ n < r → CS W00 p p3 p1 p4 mb mk w →
  (∀ i, i < p.ins.length → mk.getD i 0 = 0 ∨ mk.getD i 0 = 2 ∨ (mk.getD i 0 = 1 ∧ ρ n < ρ i)) →
  Calls Tryz.prog 85 (#[.int .i64 n] ++ cirC p3 p1 p4) w fun e w' => e = .returned (.bool false) ∧ Keeps [mb] w w' ∧ ∃ mk', CS W00 p p3 p1 p4 mb mk' w' ∧ MkOK p.ins.length mk mk' := by
 intro r
 induction r with
 | zero => intro n w mk _ h; omega
 | succ r ih =>
  intro n w mk hn hr hcs hmk
  have hlen := hp.len
  have hnl : n < mk.length := by rw [hcs.len]; exact hn
  have c3 := hcs.c3
  have k0 := hcs.kn.cell n hnl
  have hv := hmk n hn
  rw [show mk.getD n 0 = mk[n] by simp [List.getD, hnl]] at hv
  have hv2 : mk[n] = 0 ∨ mk[n] = 2 := by omega
  have HV := gI (show mk.getD n 0 = mk[n] by simp [List.getD, hnl])
  obtain ⟨v, hv0⟩ : ∃ v, v = mk[n] := ⟨_, rfl⟩
  rw [← hv0] at k0 hv2 HV
  have HCS := gI hcs
  have HMK := gI hmk
  have IH := gI ih
  have HP := gI hp
  have HG := gI hg
  have HE := gI hE
  have HR := gI hr
  clear hv hv0 hcs hmk ih hp hg hE hr hnl
  show Calls Tryz.prog 85 #[.int .i64 n, .pointer (some ⟨p3, 0, none⟩), .pointer (some ⟨p1, 0, none⟩), .pointer (some ⟨p4, 0, none⟩)] w _
  rcases hv2 with rfl | rfl
  ·
   obtain ⟨hcs1, hk1⟩ := HCS.out.set n 1
   obtain ⟨w1, hw1⟩ : ∃ w1, w1 = w.setCell ⟨mb, n, none⟩ (.int .i64 1) := ⟨_, rfl⟩
   rw [← hw1] at hcs1 hk1
   have kf := HCS.out.kn.fz n
   have HW1 := gI hw1
   have HCS1 := gI hcs1
   have HK1 := gI hk1
   have g0 : w1.heap[p1]? = some (.cells p.row.toArray 83 (0, 0)) := hcs1.kp.heap HG.out (by simp)
   have b0 : w1.cell? ⟨p1, 0, none⟩ = some (.slice p.ia p.ins.length p.ic) := by simp [World.cell?, g0, Pg.row]
   have b1 : w1.cell? ⟨p1, 1, none⟩ = some (.int .i64 p.caps) := by simp [World.cell?, g0, Pg.row]
   have b2 : w1.cell? ⟨p1, 2, none⟩ = some (.bool p.runes) := by simp [World.cell?, g0, Pg.row]
   have c4 := hcs1.c4
   have HSL := silent_any p n w1.drew (HP.out.keep hcs1.kp.drew) hn
   simp only [Pg.val] at HSL
   have HSL := gI HSL
   unfold cirC at c4
   clear hw1 hcs1 hk1 g0
   go_enter Tryz.func85, Tryz.ntmps85
   go_upto_region 4 with fail
   rw [← HW1.out]
   go_cut [23] (fun s23 wx => s23 = .bool false ∧ Keeps [mb] w1 wx ∧ ∃ mk', CS W00 p p3 p1 p4 mb mk' wx ∧ MkOK p.ins.length (mk.set n 1) mk')
   case first =>
    refine wp_region_held_drew (S := fun w' => (w'.cell? ⟨p1, 0, none⟩ = some (.slice p.ia p.ins.length p.ic) ∧ w'.cell? ⟨p1, 1, none⟩ = some (.int .i64 p.caps) ∧ w'.cell? ⟨p1, 2, none⟩ = some (.bool p.runes)) ∧ w'.cell? ⟨p4, 0, none⟩ = some (.func (.func 85) #[] #[.pointer (some ⟨p3, 0, none⟩), .pointer (some ⟨p1, 0, none⟩), .pointer (some ⟨p4, 0, none⟩)])) (by kernel_rfl) ⟨⟨b0, b1, b2⟩, c4⟩ (fun hHeld => ?_)
    refine take_on (i := 0) (v := ?_) rfl (by kernel_rfl) (by kernel_rfl) (by kernel_rfl) (fun _ _ _ h => h) (by rfl) (by assumption) ?_ ?_
    rotate_left
    ·((intro w hSw; (try dsimp only at hSw); go_simp <;> with_reducible rfl); done)
    try simp only [Act.put, List.setIfInBounds_toArray, List.set_cons_zero, List.set_cons_succ]
    refine take_on (i := 1) (v := ?_) rfl (by kernel_rfl) (by kernel_rfl) (by kernel_rfl) (fun _ _ _ h => h) (by rfl) (by assumption) ?_ ?_
    rotate_left
    ·((intro w hSw; (try dsimp only at hSw); go_simp <;> with_reducible rfl); done)
    try simp only [Act.put, List.setIfInBounds_toArray, List.set_cons_zero, List.set_cons_succ]
    refine take_on (i := 3) (v := ?_) rfl (by kernel_rfl) (by kernel_rfl) (by kernel_rfl) (fun _ _ _ h => h) (by rfl) (by assumption) ?_ ?_
    rotate_left
    ·((intro w hSw; (try dsimp only at hSw); go_simp <;> with_reducible rfl); done)
    try simp only [Act.put, List.setIfInBounds_toArray, List.set_cons_zero, List.set_cons_succ]
    refine branch_one (i := 2) rfl (by kernel_rfl) (by rfl) (fun K hK => ?_)
    go_simp
    with_reducible refine Calls.mono HSL.out ?_
    rintro e w2 ⟨a, c, rfl, hs2, hk2, hg2⟩
    have hk2' : Keeps [] w1 w2 := ((Keeps.refl [] w1).drew).trans hk2
    refine hK.out _ _ (⟨⟨hk2'.cell b0 (by simp), hk2'.cell b1 (by simp), hk2'.cell b2 (by simp)⟩, hk2'.cell c4 (by simp)⟩) (fun hHeld => ?_)
    clear hK K
    try simp only [Act.put, List.setIfInBounds_toArray, List.set_cons_zero, List.set_cons_succ]
    obtain ⟨L, hL⟩ : ∃ L, L = silL p.ins[n] n := ⟨_, rfl⟩
    have hLe := HE.out n hn
    have hLl : L.length ≤ 1000000 := by
     rw [hL]; unfold silL; split; simp; split; simp; split <;> simp
    rw [← hL] at hs2 hLe
    have HCON := gI (containsI_any 85 (cirC p3 p1 p4) L a c (fun _ W => Keeps [mb] w1 W ∧ SliceAt W 3 1 a L.length c (L.map (Value.int .i64)) ∧ ∃ mk', CS W00 p p3 p1 p4 mb mk' W ∧ MkOK p.ins.length (mk.set n 1) mk') w2
     (entersA_of Tryz.func85 (by kernel_rfl) rfl) hLl ⟨hk2'.mono (by simp), hs2, mk.set n 1, HCS1.out.keep hk2', fun i hi => ⟨Iff.rfl, by
      have h := HMK.out i hi
      by_cases e : n = i
      ·subst e; right; left; simp [List.getD, show n < mk.length by rw [HCS.out.len]; exact hi]
      ·rw [show (mk.set n 1).getD i 0 = mk.getD i 0 by simp only [List.getD, List.getElem?_set]; rw [if_neg e]]
       omega⟩⟩ (fun k W hj => hj.2.1) (fun k hk W hj => by
      obtain ⟨hj1, hj2, mk', hj3, hj4⟩ := hj
      obtain ⟨t, ht1, ht2, ht3⟩ := hLe L[k] (List.getElem_mem hk)
      rw [ht1]
      refine (IH.out t W mk' ht2 (by have := HR.out; omega) hj3 (fun i hi => ?_)).mono ?_
      ·obtain ⟨h1, h2⟩ := hj4 i hi
       rcases h2 with h2 | h2 | h2
       ·exact .inl h2
       ·right; right
        refine ⟨h2, ?_⟩
        have h3 := h1.1 h2
        by_cases e : n = i
        ·subst e; exact ht3
        ·rw [show (mk.set n 1).getD i 0 = mk.getD i 0 by simp only [List.getD, List.getElem?_set]; rw [if_neg e]] at h3
         have := HMK.out i hi
         omega
       ·exact .inr (.inl h2)
      ·rintro e W' ⟨rfl, hkW, mk2, hm1, hm2⟩
       refine ⟨rfl, hj1.trans hkW, hj2.keep hkW (fun g hg hm => ?_), mk2, hm1, fun i hi => ⟨(hm2 i hi).1.trans (hj4 i hi).1, (hm2 i hi).2⟩⟩
       simp only [List.mem_singleton] at hm
       have h1 := hg2 g hg
       have h2 := HCS1.out.kn.lt
       have h3 : w1.drew.heap.size = w1.heap.size := rfl
       omega))
    unfold cirC at HCON
    simp only [sv]
    clear hs2 hk2 hg2 hLe hLl
    rw [← hL]
    clear hL
    refine branch_one (i := 4) rfl (by kernel_rfl) (by rfl) (fun K hK => ?_)
    go_simp
    with_reducible refine Calls.mono HCON.out ?_
    rintro e w3 ⟨rfl, hj⟩
    obtain ⟨hj1, hj2, mk3, hj3, hj4⟩ := hj
    have g0 : w3.heap[p1]? = some (.cells p.row.toArray 83 (0, 0)) := hj3.kp.heap HG.out (by simp)
    have d0 : w3.cell? ⟨p1, 0, none⟩ = some (.slice p.ia p.ins.length p.ic) := by simp [World.cell?, g0, Pg.row]
    have d1 : w3.cell? ⟨p1, 1, none⟩ = some (.int .i64 p.caps) := by simp [World.cell?, g0, Pg.row]
    have d2 : w3.cell? ⟨p1, 2, none⟩ = some (.bool p.runes) := by simp [World.cell?, g0, Pg.row]
    have d4 := hj3.c4
    unfold cirC at d4
    have H1 := gI hj1
    have H3 := gI hj3
    have H4 := gI hj4
    clear hj1 hj2 hj3 hj4 g0
    refine hK.out _ _ (⟨⟨d0, d1, d2⟩, d4⟩) (fun hHeld => ?_)
    clear hK K
    try simp only [Act.put, List.setIfInBounds_toArray, List.set_cons_zero, List.set_cons_succ]
    refine wpAnyH_done (by kernel_rfl) ?_ _
    go_wp2
    go_meet
    exact ⟨rfl, H1.out, mk3, H3.out, H4.out⟩
   case rest =>
    obtain ⟨rfl, hk3, mk3, hcs3, hmk3⟩ := hcut
    obtain ⟨w3, hw3⟩ : ∃ w3 : World, w3 = wc := ⟨_, rfl⟩
    subst hw3
    obtain ⟨hcs4, hk4⟩ := hcs3.set n 2
    have hkf := hcs3.kn.fz n
    have hnl3 : n < mk3.length := by rw [hcs3.len]; exact hn
    have hc := hcs3.kn.cell n hnl3
    obtain ⟨v3, hv3⟩ : ∃ v, v = mk3[n] := ⟨_, rfl⟩
    rw [← hv3] at hc
    have c3 := hcs3.c3
    have H3 := gI hcs3
    have H4 := gI hcs4
    have HKF := gI ((HK1.out.trans hk3).trans hk4)
    have HM3 := gI hmk3
    clear hcs3 hcs4 hk3 hk4 hmk3 hv3 b0 b1 b2 c4 k0 kf hnl3
    go_wp2
    go_ret
    refine ⟨rfl, HKF.out, mk3.set n 2, H4.out, fun i hi => ?_⟩
    have h3 := HM3.out i hi
    have hl1 := HCS.out.len
    have hl3 := H3.out.len
    by_cases e : n = i
    ·subst e
     rw [HV.out]
     simp [List.getD, show n < mk3.length by omega]
    ·rw [show (mk3.set n 2).getD i 0 = mk3.getD i 0 by simp only [List.getD, List.getElem?_set]; rw [if_neg e]]
     rw [show (mk.set n 1).getD i 0 = mk.getD i 0 by simp only [List.getD, List.getElem?_set]; rw [if_neg e]] at h3
     exact h3
  ·go_enter Tryz.func85, Tryz.ntmps85
   go_wp2
   go_ret
   exact ⟨rfl, Keeps.refl _ _, mk, HCS.out, fun i hi => ⟨Iff.rfl, by have := HMK.out i hi; omega⟩⟩
theorem circles_any (p : Pg) (ρ : Nat → Nat) (w : World) (hp : PgIn w p) (hE : Ends p ρ) : Calls Tryz.prog 53 #[p.val] w fun e w' => e = .returned (.bool false) ∧ Keeps [] w w' := by
 have hlen := hp.len
 obtain ⟨B, hB⟩ : ∃ B, B = w.heap.size := ⟨_, rfl⟩
 obtain ⟨Y, hY⟩ : ∃ Y, Y = w.alloc (.cells #[.slice p.ia p.ins.length p.ic, .int .i64 p.caps, .bool p.runes] 83) := ⟨_, rfl⟩
 have hkY : Keeps [] w Y := by rw [hY]; exact Keeps.a1 _ _
 have hYs : Y.heap.size = B + 1 := by rw [hY, hB]; simp
 have hb : Y.heap[B]? = some (.cells p.row.toArray 83 (0, 0)) := by rw [hY, hB]; exact heap_alloc_new w _
 have b0 : Y.cell? ⟨B, 0, none⟩ = some (.slice p.ia p.ins.length p.ic) := by simp [World.cell?, hb, Pg.row]
 obtain ⟨ij, hi0, hi1, hi2, hi3⟩ := infoParts infoInt
 have HMK2 : ∀ W : World, (Instr.makeSlice 22 (.int .i64 (p.ins.length : Nat)) (.int .i64 (p.ins.length : Nat))).run Tryz.prog W = .ok (.slice (some ⟨W.heap.size, 0, none⟩) p.ins.length p.ins.length) (W.alloc (.cells (Array.replicate p.ins.length (.int .i64 0)) 3)) := fun W => by
  have h := run_make_ints Tryz.underlying22 hi0 hi1 hi2 hi3 W (p.ins.length : Nat) (by omega) (by omega)
  simpa using h
 obtain ⟨m, hm⟩ : ∃ m, m = p.ins.length := ⟨_, rfl⟩
 obtain ⟨X, hX⟩ : ∃ X, X = ((Y.alloc (.cells (Array.replicate p.ins.length (.int .i64 0)) 3)).alloc (.cells #[.slice (some ⟨B + 1, 0, none⟩) p.ins.length p.ins.length] 22)).alloc (.cells #[.nilFunc] 121) := ⟨_, rfl⟩
 have hkX : Keeps [] Y X := by rw [hX]; exact ((Keeps.a1 Y _).alloc _).alloc _
 have hKN : Ints 3 X (B + 1) (List.replicate p.ins.length (0 : Int)) := by
  have h := (((Keeps.a1 (Y.alloc (.cells (Array.replicate p.ins.length (.int .i64 0)) 3)) (.cells #[.slice (some ⟨B + 1, 0, none⟩) p.ins.length p.ins.length] 22))).alloc (.cells #[.nilFunc] 121)).heap (heap_alloc_new Y _) (by simp)
  rw [hYs, ← hX] at h
  unfold Ints
  rw [h]
  simp
 have h3 : X.heap[B + 2]? = some (.cells #[.slice (some ⟨B + 1, 0, none⟩) p.ins.length p.ins.length] 22 (0, 0)) := by
  have h := (Keeps.a1 ((Y.alloc (.cells (Array.replicate p.ins.length (.int .i64 0)) 3)).alloc (.cells #[.slice (some ⟨B + 1, 0, none⟩) p.ins.length p.ins.length] 22)) (.cells #[.nilFunc] 121)).heap (heap_alloc2_new Y _ _) (by simp)
  rw [hYs, ← hX] at h
  exact h
 have h4 : X.heap[B + 3]? = some (.cells #[.nilFunc] 121 (0, 0)) := by
  have h := heap_alloc_new ((Y.alloc (.cells (Array.replicate p.ins.length (.int .i64 0)) 3)).alloc (.cells #[.slice (some ⟨B + 1, 0, none⟩) p.ins.length p.ins.length] 22)) (.cells #[.nilFunc] 121)
  rw [← hX, show ((Y.alloc (.cells (Array.replicate p.ins.length (.int .i64 0)) 3)).alloc (.cells #[.slice (some ⟨B + 1, 0, none⟩) p.ins.length p.ins.length] 22)).heap.size = B + 3 by simp [hYs]] at h
  exact h
 obtain ⟨z0, zf⟩ : X.cell? ⟨B + 3, 0, none⟩ = some .nilFunc ∧ X.frozen? ⟨B + 3, 0, none⟩ = false := by simp [World.cell?, World.frozen?, h4]
 obtain ⟨Z, hZ⟩ : ∃ Z, Z = X.setCell ⟨B + 3, 0, none⟩ (.func (.func 85) #[] (cirC (B + 2) B (B + 3))) := ⟨_, rfl⟩
 have hkZ : Keeps [B + 3] X Z := by rw [hZ]; exact (Keeps.refl [B + 3] X).setCell (by simp) _
 have hz4 : Z.heap[B + 3]? = some (.cells #[.func (.func 85) #[] (cirC (B + 2) B (B + 3))] 121 (0, 0)) := by
  rw [hZ, heap_setCell_same X (B + 3) 0 _ _ _ h4]; rfl
 have hz3 := hkZ.heap h3 (by simp)
 have hcs : CS Y p (B + 2) B (B + 3) (B + 1) (List.replicate p.ins.length (0 : Int)) Z :=
  ⟨hkX.after hkZ (fun q hq => by simp at hq; subst hq; exact .inr (by omega)), by simp [World.cell?, hz3], by simp [World.cell?, hz4], hKN.keep hkZ (by simp), by simp, by omega, by omega, by omega⟩
 have hbZ := hcs.kp.cell b0 (by simp)
 have HCS := gI hcs
 have HPY := gI (hp.keep hkY)
 have HBB := gI hb
 have HY := gI hY
 have HB := gI hB
 have HYS := gI hYs
 have HX := gI hX
 have HZ := gI (show X.setCell ⟨B + 3, 0, none⟩ (.func (.func 85) #[] #[.pointer (some ⟨B + 2, 0, none⟩), .pointer (some ⟨B, 0, none⟩), .pointer (some ⟨B + 3, 0, none⟩)]) = Z by rw [hZ]; rfl)
 have HK := gI hkY
 have HE := gI hE
 have HBZ := gI b0
 simp only [Pg.val]
 clear hp hE hB hY hkY hYs hb hi0 hi1 hi2 hi3 hm hX hkX hKN h3 h4 hZ hkZ hz4 hz3 hcs
 go_enter Tryz.func53, Tryz.ntmps53
 go_upto_region 1 with fail
 rw [← HY.out, ← HB.out]
 go_upto_region 3 with fail
 rw [HYS.out, show B + 1 + 1 + 1 = B + 3 from rfl, show B + 1 + 1 = B + 2 from rfl, ← HX.out]
 go_upto_region 4 with fail
 rw [HZ.out]
 clear z0 zf b0
 go_wp2
 go_loopw [14] (fun v wr => ∃ (q : Nat) (mk : List Int), v = .int .i64 q ∧ q ≤ p.ins.length ∧ CS Y p (B + 2) B (B + 3) (B + 1) mk wr ∧ ∀ i, i < p.ins.length → mk.getD i 0 = 0 ∨ mk.getD i 0 = 2) (fun v _ => p.ins.length - (intOf v).toNat)
 case atStart => exact ⟨0, _, rfl, Nat.zero_le _, HCS.out, fun i hi => .inl (by simp [List.getD, hi])⟩
 case round =>
  obtain ⟨q, mk, rfl, hq, hcs, hmk⟩ := hrel
  obtain ⟨wA, hwA⟩ : ∃ wA : World, wA = wr := ⟨_, rfl⟩
  subst hwA
  have HCA := gI hcs
  have HMK := gI hmk
  have c4 := hcs.c4
  unfold cirC at c4
  clear hcs hmk hbZ
  by_cases hqm : q < p.ins.length
  ·have HBK := back_any HPY.out HBB.out HE.out (ρ q + 1) q wA mk hqm (Nat.lt_succ_self _) HCA.out (fun i hi => by have := HMK.out i hi; omega)
   unfold cirC at HBK
   have HBK := gI HBK
   go_wp2_with fail
   refine HBK.out.mono ?_
   rintro e w5 ⟨rfl, hk5, mk5, hm5, ho5⟩
   have HM5 := gI hm5
   have HO5 := gI ho5
   clear hk5 hm5 ho5 c4
   go_wp2
   go_roundw
   case rel => exact ⟨q + 1, mk5, by go_num, hqm, HM5.out, fun i hi => by
    obtain ⟨h1, h2⟩ := HO5.out i hi
    have h3 := HMK.out i hi
    omega⟩
   case measure => simp [intOf]; omega
  ·clear c4
   go_wp2
   go_ret
   exact ⟨rfl, HK.out.trans HCA.out.kp⟩
def slv (s : Option Nat × Nat) (n : Nat) : Value := .slice (s.1.map fun g => ⟨g, 0, none⟩) n s.2
def updL (sl : Nat → Option Nat × Nat) (i : Nat) (v : Option Nat × Nat) : Nat → Option Nat × Nat := fun j => if j = i then v else sl j
theorem infoIs : (Tryz.prog.info? 22).map (fun i => (i.zero, i.size, i.bytes)) = some (some (.slice none 0 0), 1, 24) := by kernel_rfl
theorem run_make_nil {P : Program} {E T : Nat} {i : TypeInfo} (ht : P.underlying T = some (.slice E)) (hi : P.info? E = some i) (hz : i.zero = some (.slice none 0 0)) (hs : i.size = 1) (hb : i.bytes = 24) (w : World) (n : Nat) (h1 : n ≤ 1000000000) :
  (Instr.makeSlice T (.int .i64 n) (.int .i64 n)).run P w = .ok (.slice (some ⟨w.heap.size, 0, none⟩) n n) (w.alloc (.cells (Array.replicate n (.slice none 0 0)) E)) := by
 have h := run_make (P := P) w T E i (.slice none 0 0) ht hi hz .i64 .i64 n n (by omega) (Int.le_refl _) (by rw [hb]; omega) (by omega)
 rw [h]
 simp only [Int.toNat_natCast]
 congr 3
 rw [show (Value.slice none 0 0).cells = #[Value.slice none 0 0] from rfl, madeCells_one, hs, Nat.mul_one]
 simp
end Go.Proofs.YtkekenaamnhbhaaGreat
