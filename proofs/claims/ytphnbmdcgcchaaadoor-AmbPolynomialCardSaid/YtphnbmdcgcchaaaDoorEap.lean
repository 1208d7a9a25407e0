/- Part 16 of the proof. No condition: every lemma says its own. -/
import Derived.Laws.EntriesVeiled
import Derived.Lib.TrailingZeros
import Derived.Lib.LaidTab
import Derived.Test.YtphnbmdcgcchaaaDoorEah
import Derived.Test.YtphnbmdcgcchaaaDoorEai
import Derived.Test.YtphnbmdcgcchaaaDoorEao
import Derived.Test.YtphnbmdcgcchaaaDoorEam
namespace Go.Proofs.YtphnbmdcgcchaaaDoor
open Go.RowKit Go.Sort Go.BigFrame
set_option maxRecDepth 100000
set_option maxHeartbeats 16000000
def silL (i : Ins) (n : Nat) : List Int := if i.op = 2 then [i.x, i.y] else if i.op = 3 then [i.x] else if i.op = 4 then [(n : Int) + 1] else []
set_option linter.unusedSimpArgs false in
theorem silent_any (p : Pg) (n : Nat) (w : World) (hp : PgIn w p) (hn : n < p.ins.length) : Calls Tryd.prog 64 #[p.val, .int .i64 n] w fun e w' =>
  ∃ a c, e = .returned (sv a (silL p.ins[n] n).length c) ∧ SliceAt w' 3 1 a (silL p.ins[n] n).length c ((silL p.ins[n] n).map (Value.int .i64)) ∧ Keeps [] w w' ∧ ∀ g, a = some g → w.heap.size ≤ g := by
 obtain ⟨pb, off, hia, hcells⟩ := hp.ins (by omega)
 have hi := hcells n hn
 have hlen := hp.len
 obtain ⟨i, hi0⟩ : ∃ i, i = p.ins[n] := ⟨_, rfl⟩
 rw [← hi0] at hi ⊢
 obtain ⟨B, hB⟩ : ∃ B, B = w.heap.size := ⟨_, rfl⟩
 obtain ⟨Y, hY⟩ : ∃ Y, Y = w.alloc (.cells #[.slice p.ia p.ins.length p.ic, .int .i64 p.caps, .bool p.runes] 75) := ⟨_, rfl⟩
 have hkY : Keeps [] w Y := by rw [hY]; exact Keeps.a1 _ _
 have hb : Y.heap[B]? = some (.cells #[.slice p.ia p.ins.length p.ic, .int .i64 p.caps, .bool p.runes] 75 (0, 0)) := by rw [hY, hB]; exact heap_alloc_new w _
 have b0 : Y.cell? ⟨B, 0, none⟩ = some (.slice p.ia p.ins.length p.ic) := by simp [World.cell?, hb]
 obtain ⟨c0, c1, c2, c3, c4⟩ := hi.keep hkY (by simp)
 obtain ⟨op, x, y, m, sa, sc, sp⟩ := i
 simp only at c0 c1 c2 c3 c4
 obtain ⟨Z, hZ⟩ : ∃ Z, Z = Y.alloc (.cells #[.int .i64 op, .int .i64 x, .int .i64 y, .int .i64 m, .slice sa sp.length sc] 71) := ⟨_, rfl⟩
 have hkZ : Keeps [] Y Z := by rw [hZ]; exact Keeps.a1 _ _
 have hYs : Y.heap.size = B + 1 := by rw [hY, hB]; simp
 have hz : Z.heap[B + 1]? = some (.cells #[.int .i64 op, .int .i64 x, .int .i64 y, .int .i64 m, .slice sa sp.length sc] 71 (0, 0)) := by
  have h := heap_alloc_new Y (.cells #[.int .i64 op, .int .i64 x, .int .i64 y, .int .i64 m, .slice sa sp.length sc] 71)
  rw [hYs, ← hZ] at h
  exact h
 have z0 : Z.cell? ⟨B + 1, 0, none⟩ = some (.int .i64 op) := by simp [World.cell?, hz]
 have z1 : Z.cell? ⟨B + 1, 1, none⟩ = some (.int .i64 x) := by simp [World.cell?, hz]
 have z2 : Z.cell? ⟨B + 1, 2, none⟩ = some (.int .i64 y) := by simp [World.cell?, hz]
 have HY := Lib.hid hY
 have HB := Lib.hid hB
 have HZ := Lib.hid hZ
 have HYS := Lib.hid hYs
 have HK := Lib.hid (hkY.trans hkZ)
 have hZs : Z.heap.size = B + 2 := by rw [hZ]; simp; omega
 have HZS := Lib.hid hZs
 simp only [Pg.val]
 rw [hia] at b0 HY ⊢
 clear hp hcells hi hi0 hkY hb hY hB hZ hkZ hYs hz hZs hia
 have HW : ∀ (o : Obj), Keeps [] w (Z.alloc o) := fun o => HK.out.alloc o
 have HWK := Lib.hid HW
 clear HW
 have one : ∀ v : Int, SliceAt (Z.alloc (.cells #[.int .i64 v] 3)) 3 1 (some Z.heap.size) 1 1 [.int .i64 v] := fun v => by
  have h := SliceAt.of_row (size := 1) (c := 1) (heap_alloc_new Z (.cells #[.int .i64 v] 3)) (by simp) (by unfold maxLen; omega)
  simpa using h
 have two : SliceAt (Z.alloc (.cells #[.int .i64 x, .int .i64 y] 3)) 3 1 (some Z.heap.size) 2 2 [.int .i64 x, .int .i64 y] := by
  have h := SliceAt.of_row (size := 1) (c := 2) (heap_alloc_new Z (.cells #[.int .i64 x, .int .i64 y] 3)) (by simp) (by unfold maxLen; omega)
  simpa using h
 have HONE := Lib.hid one
 have HTWO := Lib.hid two
 have HGE := Lib.hid (show w.heap.size ≤ Z.heap.size from HK.out.size)
 clear one two
 by_cases h2 : op = 2
 ·subst h2
  have HL := Lib.hid (show silL ⟨2, x, y, m, sa, sc, sp⟩ n = [x, y] by simp [silL])
  go_enter Tryd.func64, Tryd.ntmps64
  go_upto_region 1 with fail
  rw [← HY.out, ← HB.out]
  go_upto_region 2 with fail
  rw [← HZ.out, HYS.out]
  go_wp2
  go_ret
  rw [HL.out]
  exact ⟨some Z.heap.size, 2, rfl, HTWO.out, HWK.out _, fun g hg => by cases hg; exact HGE.out⟩
 ·have h2b : (op == 2) = false := by simpa using h2
  by_cases h3 : op = 3
  ·subst h3
   have HL := Lib.hid (show silL ⟨3, x, y, m, sa, sc, sp⟩ n = [x] by simp [silL])
   go_enter Tryd.func64, Tryd.ntmps64
   go_upto_region 1 with fail
   rw [← HY.out, ← HB.out]
   go_upto_region 2 with fail
   rw [← HZ.out, HYS.out]
   go_wp2
   go_ret
   rw [HL.out]
   exact ⟨some Z.heap.size, 1, rfl, HONE.out x, HWK.out _, fun g hg => by cases hg; exact HGE.out⟩
  ·have h3b : (op == 3) = false := by simpa using h3
   by_cases h4 : op = 4
   ·subst h4
    have HL := Lib.hid (show silL ⟨4, x, y, m, sa, sc, sp⟩ n = [(n : Int) + 1] by simp [silL])
    go_enter Tryd.func64, Tryd.ntmps64
    go_upto_region 1 with fail
    rw [← HY.out, ← HB.out]
    go_upto_region 2 with fail
    rw [← HZ.out, HYS.out]
    go_wp2
    go_ret
    rw [HL.out]
    exact ⟨some Z.heap.size, 1, rfl, HONE.out _, HWK.out _, fun g hg => by cases hg; exact HGE.out⟩
   ·have h4b : (op == 4) = false := by simpa using h4
    have HL := Lib.hid (show silL ⟨op, x, y, m, sa, sc, sp⟩ n = [] by simp [silL, h2, h3, h4])
    clear h2 h3 h4
    go_enter Tryd.func64, Tryd.ntmps64
    go_upto_region 1 with fail
    rw [← HY.out, ← HB.out]
    go_upto_region 2 with fail
    rw [← HZ.out, HYS.out]
    go_wp2
    go_ret
    rw [HL.out]
    exact ⟨none, 0, rfl, SliceAt.nil _ _ _, HK.out, fun g hg => by cases hg⟩
theorem indexI_any (K : Nat) (cap : Array Value) (l : List Int) (a : Option Nat) (c : Nat) (J : Nat → World → Prop) (w : World) (he : EntersA K) (hl : l.length ≤ 1000000) (h0 : J 0 w)
  (hrd : ∀ k W, J k W → SliceAt W 3 1 a l.length c (l.map (Value.int .i64)))
  (hf : ∀ k (hk : k < l.length) W, J k W → Calls Tryd.prog K (#[.int .i64 l[k]] ++ cap) W fun e w' => e = .returned (.bool false) ∧ J (k + 1) w') :
  Calls Tryd.prog 69 #[.slice (a.map fun g => ⟨g, 0, none⟩) l.length c, .func (.func K) #[] cap] w fun e w' => e = .returned (.int .i64 (-1)) ∧ J l.length w' := by
 have HRD := Lib.hid hrd
 have HF := Lib.hid hf
 have H0 := Lib.hid h0
 unfold EntersA at he
 clear hrd hf h0
 go_enter Tryd.func69, Tryd.ntmps69
 go_wp2
 go_loopw [8] (fun i wr => ∃ k : Nat, k ≤ l.length ∧ i = .int .i64 k ∧ J k wr) (fun i _ => l.length - (intOf i).toNat)
 case atStart => exact ⟨0, Nat.zero_le _, rfl, H0.out⟩
 case round =>
  obtain ⟨k, hkk, rfl, hj⟩ := hrel
  by_cases hlt : k < l.length
  ·have hs := HRD.out k wr hj
   obtain ⟨g, rfl⟩ : ∃ g, a = some g := by
    cases a with
    | none => have := hs.2.1; omega
    | some g => exact ⟨g, rfl⟩
   simp only [Option.map_some]
   have hc := hs.cell k (by simpa using hlt)
   simp only [List.getElem_map] at hc
   have HC := Lib.hid (HF.out k hlt wr hj)
   obtain ⟨v, hv⟩ : ∃ v, v = l[k] := ⟨_, rfl⟩
   rw [← hv] at hc HC
   clear hs hj hv
   go_wp2_with fail
   refine Calls.mono HC.out ?_
   rintro e w2 ⟨rfl, hj2⟩
   have HJ2 := Lib.hid hj2
   clear hj2
   go_wp2
   go_roundw
   case rel => exact ⟨k + 1, by omega, by go_num, HJ2.out⟩
   case measure => simp [intOf]; omega
  ·obtain rfl : k = l.length := by omega
   have HJ := Lib.hid hj
   clear hj
   go_wp2
   go_ret
   exact ⟨rfl, HJ.out⟩
theorem containsI_any (K : Nat) (cap : Array Value) (l : List Int) (a : Option Nat) (c : Nat) (J : Nat → World → Prop) (w : World) (he : EntersA K) (hl : l.length ≤ 1000000) (h0 : J 0 w)
  (hrd : ∀ k W, J k W → SliceAt W 3 1 a l.length c (l.map (Value.int .i64)))
  (hf : ∀ k (hk : k < l.length) W, J k W → Calls Tryd.prog K (#[.int .i64 l[k]] ++ cap) W fun e w' => e = .returned (.bool false) ∧ J (k + 1) w') :
  Calls Tryd.prog 49 #[.slice (a.map fun g => ⟨g, 0, none⟩) l.length c, .func (.func K) #[] cap] w fun e w' => e = .returned (.bool false) ∧ J l.length w' := by
 have HC := Lib.hid (indexI_any K cap l a c J w he hl h0 hrd hf)
 clear he hrd hf h0
 go_enter Tryd.func49, Tryd.ntmps49
 go_wp2_with fail
 refine HC.out.mono ?_
 rintro e w2 ⟨rfl, hj⟩
 have HJ := Lib.hid hj
 clear hj
 go_wp2
 go_ret
 exact ⟨rfl, HJ.out⟩
def Ends (p : Pg) (ρ : Nat → Nat) : Prop := ∀ n (h : n < p.ins.length), ∀ t ∈ silL p.ins[n] n, ∃ k : Nat, t = k ∧ k < p.ins.length ∧ ρ k < ρ n
def cirC (p3 p1 p4 : Nat) : Array Value := #[.pointer (some ⟨p3, 0, none⟩), .pointer (some ⟨p1, 0, none⟩), .pointer (some ⟨p4, 0, none⟩)]
structure CS (W00 : World) (p : Pg) (p3 p1 p4 mb : Nat) (mk : List Int) (w : World) : Prop where
 kp : Keeps [] W00 w
 c3 : w.cell? ⟨p3, 0, none⟩ = some (.slice (some ⟨mb, 0, none⟩) p.ins.length p.ins.length)
 c4 : w.cell? ⟨p4, 0, none⟩ = some (.func (.func 63) #[] (cirC p3 p1 p4))
 kn : Ints 3 w mb mk
 len : mk.length = p.ins.length
 nm : mb ≠ p3 ∧ mb ≠ p4 ∧ W00.heap.size ≤ mb
theorem CS.keep {W00 w w' : World} {p : Pg} {p3 p1 p4 mb : Nat} {mk : List Int} (h : CS W00 p p3 p1 p4 mb mk w) (k : Keeps [] w w') : CS W00 p p3 p1 p4 mb mk w' :=
 ⟨h.kp.trans k, k.cell h.c3 (by simp), k.cell h.c4 (by simp), h.kn.keep k (by simp), h.len, h.nm⟩
theorem CS.set {W00 w : World} {p : Pg} {p3 p1 p4 mb : Nat} {mk : List Int} (h : CS W00 p p3 p1 p4 mb mk w) (i : Nat) (v : Int) : CS W00 p p3 p1 p4 mb (mk.set i v) (w.setCell ⟨mb, i, none⟩ (.int .i64 v)) ∧ Keeps [mb] w (w.setCell ⟨mb, i, none⟩ (.int .i64 v)) := by
 have k : Keeps [mb] w (w.setCell ⟨mb, i, none⟩ (.int .i64 v)) := (Keeps.refl [mb] w).setCell (by simp) _
 exact ⟨⟨h.kp.after k (fun q hq => by simp at hq; subst hq; exact .inr h.nm.2.2), k.cell h.c3 (by simpa using h.nm.1.symm), k.cell h.c4 (by simpa using h.nm.2.1.symm), h.kn.set i v, by simpa using h.len, h.nm⟩, k⟩
def MkOK (m : Nat) (mk mk' : List Int) : Prop := ∀ i, i < m → (mk'.getD i 0 = 1 ↔ mk.getD i 0 = 1) ∧ (mk'.getD i 0 = 0 ∨ mk'.getD i 0 = 1 ∨ mk'.getD i 0 = 2)
theorem back_any {W00 : World} {p : Pg} {p3 p1 p4 mb : Nat} {ρ : Nat → Nat} (hp : PgIn W00 p) (hg : W00.heap[p1]? = some (.cells p.row.toArray 75 (0, 0))) (hE : Ends p ρ) : ∀ r n w mk, n < p.ins.length → ρ n < r → CS W00 p p3 p1 p4 mb mk w →
  (∀ i, i < p.ins.length → mk.getD i 0 = 0 ∨ mk.getD i 0 = 2 ∨ (mk.getD i 0 = 1 ∧ ρ n < ρ i)) →
  Calls Tryd.prog 63 (#[.int .i64 n] ++ cirC p3 p1 p4) w fun e w' => e = .returned (.bool false) ∧ Keeps [mb] w w' ∧ ∃ mk', CS W00 p p3 p1 p4 mb mk' w' ∧ MkOK p.ins.length mk mk' := by
 intro r
 induction r with
 | zero => intro n w mk _ h; omega
 | succ r ih =>
  intro n w mk hn hr hcs hmk
  have hlen := hp.len
  have hnl : n < mk.length := by rw [hcs.len]; exact hn
  have c3 := hcs.c3
  have k0 := hcs.kn.cell n hnl
  have hv := hmk n hn
  rw [show mk.getD n 0 = mk[n] by simp [List.getD, hnl]] at hv
  have hv2 : mk[n] = 0 ∨ mk[n] = 2 := by omega
  have HV := Lib.hid (show mk.getD n 0 = mk[n] by simp [List.getD, hnl])
  obtain ⟨v, hv0⟩ : ∃ v, v = mk[n] := ⟨_, rfl⟩
  rw [← hv0] at k0 hv2 HV
  have HCS := Lib.hid hcs
  have HMK := Lib.hid hmk
  have IH := Lib.hid ih
  have HP := Lib.hid hp
  have HG := Lib.hid hg
  have HE := Lib.hid hE
  have HR := Lib.hid hr
  clear hv hv0 hcs hmk ih hp hg hE hr hnl
  show Calls Tryd.prog 63 #[.int .i64 n, .pointer (some ⟨p3, 0, none⟩), .pointer (some ⟨p1, 0, none⟩), .pointer (some ⟨p4, 0, none⟩)] w _
  rcases hv2 with rfl | rfl
  ·
   obtain ⟨hcs1, hk1⟩ := HCS.out.set n 1
   obtain ⟨w1, hw1⟩ : ∃ w1, w1 = w.setCell ⟨mb, n, none⟩ (.int .i64 1) := ⟨_, rfl⟩
   rw [← hw1] at hcs1 hk1
   have kf := HCS.out.kn.fz n
   have HW1 := Lib.hid hw1
   have HCS1 := Lib.hid hcs1
   have HK1 := Lib.hid hk1
   have g0 : w1.heap[p1]? = some (.cells p.row.toArray 75 (0, 0)) := hcs1.kp.heap HG.out (by simp)
   have b0 : w1.cell? ⟨p1, 0, none⟩ = some (.slice p.ia p.ins.length p.ic) := by simp [World.cell?, g0, Pg.row]
   have b1 : w1.cell? ⟨p1, 1, none⟩ = some (.int .i64 p.caps) := by simp [World.cell?, g0, Pg.row]
   have b2 : w1.cell? ⟨p1, 2, none⟩ = some (.bool p.runes) := by simp [World.cell?, g0, Pg.row]
   have c4 := hcs1.c4
   have HSL := silent_any p n w1.drew (HP.out.keep hcs1.kp.drew) hn
   simp only [Pg.val] at HSL
   have HSL := Lib.hid HSL
   unfold cirC at c4
   clear hw1 hcs1 hk1 g0
   go_enter Tryd.func63, Tryd.ntmps63
   go_upto_region 4 with fail
   rw [← HW1.out]
   go_cut [23] (fun s23 wx => s23 = .bool false ∧ Keeps [mb] w1 wx ∧ ∃ mk', CS W00 p p3 p1 p4 mb mk' wx ∧ MkOK p.ins.length (mk.set n 1) mk')
   case first =>
    refine wp_region_held_drew (S := fun w' => (w'.cell? ⟨p1, 0, none⟩ = some (.slice p.ia p.ins.length p.ic) ∧ w'.cell? ⟨p1, 1, none⟩ = some (.int .i64 p.caps) ∧ w'.cell? ⟨p1, 2, none⟩ = some (.bool p.runes)) ∧ w'.cell? ⟨p4, 0, none⟩ = some (.func (.func 63) #[] #[.pointer (some ⟨p3, 0, none⟩), .pointer (some ⟨p1, 0, none⟩), .pointer (some ⟨p4, 0, none⟩)])) (by kernel_rfl) ⟨⟨b0, b1, b2⟩, c4⟩ (fun hHeld => ?_)
    refine take_on (i := 0) (v := ?_) rfl (by kernel_rfl) (by kernel_rfl) (by kernel_rfl) (fun _ _ _ h => h) (by rfl) (by assumption) ?_ ?_
    rotate_left
    ·((intro w hSw; (try dsimp only at hSw); go_simp <;> with_reducible rfl); done)
    try simp only [Act.put, List.setIfInBounds_toArray, List.set_cons_zero, List.set_cons_succ]
    refine take_on (i := 1) (v := ?_) rfl (by kernel_rfl) (by kernel_rfl) (by kernel_rfl) (fun _ _ _ h => h) (by rfl) (by assumption) ?_ ?_
    rotate_left
    ·((intro w hSw; (try dsimp only at hSw); go_simp <;> with_reducible rfl); done)
    try simp only [Act.put, List.setIfInBounds_toArray, List.set_cons_zero, List.set_cons_succ]
    refine take_on (i := 3) (v := ?_) rfl (by kernel_rfl) (by kernel_rfl) (by kernel_rfl) (fun _ _ _ h => h) (by rfl) (by assumption) ?_ ?_
    rotate_left
    ·((intro w hSw; (try dsimp only at hSw); go_simp <;> with_reducible rfl); done)
    try simp only [Act.put, List.setIfInBounds_toArray, List.set_cons_zero, List.set_cons_succ]
    refine branch_one (i := 2) rfl (by kernel_rfl) (by rfl) (fun K hK => ?_)
    go_simp
    with_reducible refine Calls.mono HSL.out ?_
    rintro e w2 ⟨a, c, rfl, hs2, hk2, hg2⟩
    have hk2' : Keeps [] w1 w2 := ((Keeps.refl [] w1).drew).trans hk2
    refine hK.out _ _ (⟨⟨hk2'.cell b0 (by simp), hk2'.cell b1 (by simp), hk2'.cell b2 (by simp)⟩, hk2'.cell c4 (by simp)⟩) (fun hHeld => ?_)
    clear hK K
    try simp only [Act.put, List.setIfInBounds_toArray, List.set_cons_zero, List.set_cons_succ]
    obtain ⟨L, hL⟩ : ∃ L, L = silL p.ins[n] n := ⟨_, rfl⟩
    have hLe := HE.out n hn
    have hLl : L.length ≤ 1000000 := by
     rw [hL]; unfold silL; split; simp; split; simp; split <;> simp
    rw [← hL] at hs2 hLe
    have HCON := Lib.hid (containsI_any 63 (cirC p3 p1 p4) L a c (fun _ W => Keeps [mb] w1 W ∧ SliceAt W 3 1 a L.length c (L.map (Value.int .i64)) ∧ ∃ mk', CS W00 p p3 p1 p4 mb mk' W ∧ MkOK p.ins.length (mk.set n 1) mk') w2
     (entersA_of Tryd.func63 (by kernel_rfl) rfl) hLl ⟨hk2'.mono (by simp), hs2, mk.set n 1, HCS1.out.keep hk2', fun i hi => ⟨Iff.rfl, by
      have h := HMK.out i hi
      by_cases e : n = i
      ·subst e; right; left; simp [List.getD, show n < mk.length by rw [HCS.out.len]; exact hi]
      ·rw [show (mk.set n 1).getD i 0 = mk.getD i 0 by simp only [List.getD, List.getElem?_set]; rw [if_neg e]]
       omega⟩⟩ (fun k W hj => hj.2.1) (fun k hk W hj => by
      obtain ⟨hj1, hj2, mk', hj3, hj4⟩ := hj
      obtain ⟨t, ht1, ht2, ht3⟩ := hLe L[k] (List.getElem_mem hk)
      rw [ht1]
      refine (IH.out t W mk' ht2 (by have := HR.out; omega) hj3 (fun i hi => ?_)).mono ?_
      ·obtain ⟨h1, h2⟩ := hj4 i hi
       rcases h2 with h2 | h2 | h2
       ·exact .inl h2
       ·right; right
        refine ⟨h2, ?_⟩
        have h3 := h1.1 h2
        by_cases e : n = i
        ·subst e; exact ht3
        ·rw [show (mk.set n 1).getD i 0 = mk.getD i 0 by simp only [List.getD, List.getElem?_set]; rw [if_neg e]] at h3
         have := HMK.out i hi
         omega
       ·exact .inr (.inl h2)
      ·rintro e W' ⟨rfl, hkW, mk2, hm1, hm2⟩
       refine ⟨rfl, hj1.trans hkW, hj2.keep hkW (fun g hg hm => ?_), mk2, hm1, fun i hi => ⟨(hm2 i hi).1.trans (hj4 i hi).1, (hm2 i hi).2⟩⟩
       simp only [List.mem_singleton] at hm
       have h1 := hg2 g hg
       have h2 := HCS1.out.kn.lt
       have h3 : w1.drew.heap.size = w1.heap.size := rfl
       omega))
    unfold cirC at HCON
    simp only [sv]
    clear hs2 hk2 hg2 hLe hLl
    rw [← hL]
    clear hL
    refine branch_one (i := 4) rfl (by kernel_rfl) (by rfl) (fun K hK => ?_)
    go_simp
    with_reducible refine Calls.mono HCON.out ?_
    rintro e w3 ⟨rfl, hj⟩
    obtain ⟨hj1, hj2, mk3, hj3, hj4⟩ := hj
    have g0 : w3.heap[p1]? = some (.cells p.row.toArray 75 (0, 0)) := hj3.kp.heap HG.out (by simp)
    have d0 : w3.cell? ⟨p1, 0, none⟩ = some (.slice p.ia p.ins.length p.ic) := by simp [World.cell?, g0, Pg.row]
    have d1 : w3.cell? ⟨p1, 1, none⟩ = some (.int .i64 p.caps) := by simp [World.cell?, g0, Pg.row]
    have d2 : w3.cell? ⟨p1, 2, none⟩ = some (.bool p.runes) := by simp [World.cell?, g0, Pg.row]
    have d4 := hj3.c4
    unfold cirC at d4
    have H1 := Lib.hid hj1
    have H3 := Lib.hid hj3
    have H4 := Lib.hid hj4
    clear hj1 hj2 hj3 hj4 g0
    refine hK.out _ _ (⟨⟨d0, d1, d2⟩, d4⟩) (fun hHeld => ?_)
    clear hK K
    try simp only [Act.put, List.setIfInBounds_toArray, List.set_cons_zero, List.set_cons_succ]
    refine wpAnyH_done (by kernel_rfl) ?_ _
    go_wp2
    go_meet
    exact ⟨rfl, H1.out, mk3, H3.out, H4.out⟩
   case rest =>
    obtain ⟨rfl, hk3, mk3, hcs3, hmk3⟩ := hcut
    obtain ⟨w3, hw3⟩ : ∃ w3 : World, w3 = wc := ⟨_, rfl⟩
    subst hw3
    obtain ⟨hcs4, hk4⟩ := hcs3.set n 2
    have hkf := hcs3.kn.fz n
    have hnl3 : n < mk3.length := by rw [hcs3.len]; exact hn
    have hc := hcs3.kn.cell n hnl3
    obtain ⟨v3, hv3⟩ : ∃ v, v = mk3[n] := ⟨_, rfl⟩
    rw [← hv3] at hc
    have c3 := hcs3.c3
    have H3 := Lib.hid hcs3
    have H4 := Lib.hid hcs4
    have HKF := Lib.hid ((HK1.out.trans hk3).trans hk4)
    have HM3 := Lib.hid hmk3
    clear hcs3 hcs4 hk3 hk4 hmk3 hv3 b0 b1 b2 c4 k0 kf hnl3
    go_wp2
    go_ret
    refine ⟨rfl, HKF.out, mk3.set n 2, H4.out, fun i hi => ?_⟩
    have h3 := HM3.out i hi
    have hl1 := HCS.out.len
    have hl3 := H3.out.len
    by_cases e : n = i
    ·subst e
     rw [HV.out]
     simp [List.getD, show n < mk3.length by omega]
    ·rw [show (mk3.set n 2).getD i 0 = mk3.getD i 0 by simp only [List.getD, List.getElem?_set]; rw [if_neg e]]
     rw [show (mk.set n 1).getD i 0 = mk.getD i 0 by simp only [List.getD, List.getElem?_set]; rw [if_neg e]] at h3
     exact h3
  ·go_enter Tryd.func63, Tryd.ntmps63
   go_wp2
   go_ret
   exact ⟨rfl, Keeps.refl _ _, mk, HCS.out, fun i hi => ⟨Iff.rfl, by have := HMK.out i hi; omega⟩⟩
theorem circles_any (p : Pg) (ρ : Nat → Nat) (w : World) (hp : PgIn w p) (hE : Ends p ρ) : Calls Tryd.prog 44 #[p.val] w fun e w' => e = .returned (.bool false) ∧ Keeps [] w w' := by
 have hlen := hp.len
 obtain ⟨B, hB⟩ : ∃ B, B = w.heap.size := ⟨_, rfl⟩
 obtain ⟨Y, hY⟩ : ∃ Y, Y = w.alloc (.cells #[.slice p.ia p.ins.length p.ic, .int .i64 p.caps, .bool p.runes] 75) := ⟨_, rfl⟩
 have hkY : Keeps [] w Y := by rw [hY]; exact Keeps.a1 _ _
 have hYs : Y.heap.size = B + 1 := by rw [hY, hB]; simp
 have hb : Y.heap[B]? = some (.cells p.row.toArray 75 (0, 0)) := by rw [hY, hB]; exact heap_alloc_new w _
 have b0 : Y.cell? ⟨B, 0, none⟩ = some (.slice p.ia p.ins.length p.ic) := by simp [World.cell?, hb, Pg.row]
 obtain ⟨ij, hi0, hi1, hi2, hi3⟩ := infoParts infoInt
 have HMK2 : ∀ W : World, (Instr.makeSlice 22 (.int .i64 (p.ins.length : Nat)) (.int .i64 (p.ins.length : Nat))).run Tryd.prog W = .ok (.slice (some ⟨W.heap.size, 0, none⟩) p.ins.length p.ins.length) (W.alloc (.cells (Array.replicate p.ins.length (.int .i64 0)) 3)) := fun W => by
  have h := run_make_ints Tryd.underlying22 hi0 hi1 hi2 hi3 W (p.ins.length : Nat) (by omega) (by omega)
  simpa using h
 obtain ⟨m, hm⟩ : ∃ m, m = p.ins.length := ⟨_, rfl⟩
 obtain ⟨X, hX⟩ : ∃ X, X = ((Y.alloc (.cells (Array.replicate p.ins.length (.int .i64 0)) 3)).alloc (.cells #[.slice (some ⟨B + 1, 0, none⟩) p.ins.length p.ins.length] 22)).alloc (.cells #[.nilFunc] 69) := ⟨_, rfl⟩
 have hkX : Keeps [] Y X := by rw [hX]; exact ((Keeps.a1 Y _).alloc _).alloc _
 have hKN : Ints 3 X (B + 1) (List.replicate p.ins.length (0 : Int)) := by
  have h := (((Keeps.a1 (Y.alloc (.cells (Array.replicate p.ins.length (.int .i64 0)) 3)) (.cells #[.slice (some ⟨B + 1, 0, none⟩) p.ins.length p.ins.length] 22))).alloc (.cells #[.nilFunc] 69)).heap (heap_alloc_new Y _) (by simp)
  rw [hYs, ← hX] at h
  unfold Ints
  rw [h]
  simp
 have h3 : X.heap[B + 2]? = some (.cells #[.slice (some ⟨B + 1, 0, none⟩) p.ins.length p.ins.length] 22 (0, 0)) := by
  have h := (Keeps.a1 ((Y.alloc (.cells (Array.replicate p.ins.length (.int .i64 0)) 3)).alloc (.cells #[.slice (some ⟨B + 1, 0, none⟩) p.ins.length p.ins.length] 22)) (.cells #[.nilFunc] 69)).heap (heap_alloc2_new Y _ _) (by simp)
  rw [hYs, ← hX] at h
  exact h
 have h4 : X.heap[B + 3]? = some (.cells #[.nilFunc] 69 (0, 0)) := by
  have h := heap_alloc_new ((Y.alloc (.cells (Array.replicate p.ins.length (.int .i64 0)) 3)).alloc (.cells #[.slice (some ⟨B + 1, 0, none⟩) p.ins.length p.ins.length] 22)) (.cells #[.nilFunc] 69)
  rw [← hX, show ((Y.alloc (.cells (Array.replicate p.ins.length (.int .i64 0)) 3)).alloc (.cells #[.slice (some ⟨B + 1, 0, none⟩) p.ins.length p.ins.length] 22)).heap.size = B + 3 by simp [hYs]] at h
  exact h
 obtain ⟨z0, zf⟩ : X.cell? ⟨B + 3, 0, none⟩ = some .nilFunc ∧ X.frozen? ⟨B + 3, 0, none⟩ = false := by simp [World.cell?, World.frozen?, h4]
 obtain ⟨Z, hZ⟩ : ∃ Z, Z = X.setCell ⟨B + 3, 0, none⟩ (.func (.func 63) #[] (cirC (B + 2) B (B + 3))) := ⟨_, rfl⟩
 have hkZ : Keeps [B + 3] X Z := by rw [hZ]; exact (Keeps.refl [B + 3] X).setCell (by simp) _
 have hz4 : Z.heap[B + 3]? = some (.cells #[.func (.func 63) #[] (cirC (B + 2) B (B + 3))] 69 (0, 0)) := by
  rw [hZ, heap_setCell_same X (B + 3) 0 _ _ _ h4]; rfl
 have hz3 := hkZ.heap h3 (by simp)
 have hcs : CS Y p (B + 2) B (B + 3) (B + 1) (List.replicate p.ins.length (0 : Int)) Z :=
  ⟨hkX.after hkZ (fun q hq => by simp at hq; subst hq; exact .inr (by omega)), by simp [World.cell?, hz3], by simp [World.cell?, hz4], hKN.keep hkZ (by simp), by simp, by omega, by omega, by omega⟩
 have hbZ := hcs.kp.cell b0 (by simp)
 have HCS := Lib.hid hcs
 have HPY := Lib.hid (hp.keep hkY)
 have HBB := Lib.hid hb
 have HY := Lib.hid hY
 have HB := Lib.hid hB
 have HYS := Lib.hid hYs
 have HX := Lib.hid hX
 have HZ := Lib.hid (show X.setCell ⟨B + 3, 0, none⟩ (.func (.func 63) #[] #[.pointer (some ⟨B + 2, 0, none⟩), .pointer (some ⟨B, 0, none⟩), .pointer (some ⟨B + 3, 0, none⟩)]) = Z by rw [hZ]; rfl)
 have HK := Lib.hid hkY
 have HE := Lib.hid hE
 have HBZ := Lib.hid b0
 simp only [Pg.val]
 clear hp hE hB hY hkY hYs hb hi0 hi1 hi2 hi3 hm hX hkX hKN h3 h4 hZ hkZ hz4 hz3 hcs
 go_enter Tryd.func44, Tryd.ntmps44
 go_upto_region 1 with fail
 rw [← HY.out, ← HB.out]
 go_upto_region 3 with fail
 rw [HYS.out, show B + 1 + 1 + 1 = B + 3 from rfl, show B + 1 + 1 = B + 2 from rfl, ← HX.out]
 go_upto_region 4 with fail
 rw [HZ.out]
 clear z0 zf b0
 go_wp2
 go_loopw [14] (fun v wr => ∃ (q : Nat) (mk : List Int), v = .int .i64 q ∧ q ≤ p.ins.length ∧ CS Y p (B + 2) B (B + 3) (B + 1) mk wr ∧ ∀ i, i < p.ins.length → mk.getD i 0 = 0 ∨ mk.getD i 0 = 2) (fun v _ => p.ins.length - (intOf v).toNat)
 case atStart => exact ⟨0, _, rfl, Nat.zero_le _, HCS.out, fun i hi => .inl (by simp [List.getD, hi])⟩
 case round =>
  obtain ⟨q, mk, rfl, hq, hcs, hmk⟩ := hrel
  obtain ⟨wA, hwA⟩ : ∃ wA : World, wA = wr := ⟨_, rfl⟩
  subst hwA
  have HCA := Lib.hid hcs
  have HMK := Lib.hid hmk
  have c4 := hcs.c4
  unfold cirC at c4
  clear hcs hmk hbZ
  by_cases hqm : q < p.ins.length
  ·have HBK := back_any HPY.out HBB.out HE.out (ρ q + 1) q wA mk hqm (Nat.lt_succ_self _) HCA.out (fun i hi => by have := HMK.out i hi; omega)
   unfold cirC at HBK
   have HBK := Lib.hid HBK
   go_wp2_with fail
   refine HBK.out.mono ?_
   rintro e w5 ⟨rfl, hk5, mk5, hm5, ho5⟩
   have HM5 := Lib.hid hm5
   have HO5 := Lib.hid ho5
   clear hk5 hm5 ho5 c4
   go_wp2
   go_roundw
   case rel => exact ⟨q + 1, mk5, by go_num, hqm, HM5.out, fun i hi => by
    obtain ⟨h1, h2⟩ := HO5.out i hi
    have h3 := HMK.out i hi
    omega⟩
   case measure => simp [intOf]; omega
  ·clear c4
   go_wp2
   go_ret
   exact ⟨rfl, HK.out.trans HCA.out.kp⟩
def TabW (w : World) : Prop := ∀ i, i < 64 → w.cell? ⟨0, i, none⟩ = some (.int .u8 ((Lib.deBruijn64tab.getD i 0 : Nat) : Int))
theorem TabW.keep {S : List Nat} {w w' : World} (h : TabW w) (k : Keeps S w w') (hs : 0 ∉ S) : TabW w' := fun i hi => k.cell (h i hi) hs
def lowN (s : Nat) : Nat := Lib.ctz 64 s
theorem lowN_lt {s : Nat} (h0 : s ≠ 0) (h : s < 2 ^ 64) : lowN s < 64 := (Lib.lowest_bit 64 s h0 h).2
theorem lowN_bit {s : Nat} (h0 : s ≠ 0) (h : s < 2 ^ 64) : s.testBit (lowN s) = true := by
 have h1 := (Lib.lowest_bit 64 s h0 h).1
 have h2 : (s &&& (2 ^ 64 - s)).testBit (lowN s) = true := by rw [h1]; simp [lowN]
 rw [Nat.testBit_and, Bool.and_eq_true] at h2
 exact h2.1
theorem key64 (s : Nat) (h0 : s ≠ 0) (h : s < 2 ^ 64) : IntKind.u64.wrap (bits BinOp.and IntKind.u64 (s : Int) (IntKind.u64.wrap (-(s : Int))) * 285870213051353865) / 288230376151711744 = ((2 ^ lowN s * 285870213051353865 % 18446744073709551616 / 288230376151711744 : Nat) : Int) := by
 have e1 : IntKind.u64.wrap (-(s : Int)) = ((18446744073709551616 - s : Nat) : Int) := by rw [IntKind.wrap_u64]; omega
 have e2 := and_u64 s (18446744073709551616 - s) h (by omega)
 have h1 := (Lib.lowest_bit 64 s h0 h).1
 rw [e1, e2, show s &&& (18446744073709551616 - s) = 2 ^ lowN s from h1, IntKind.wrap_u64]
 omega
theorem tz_any (s : Nat) (w : World) (h0 : s ≠ 0) (h : s < 2 ^ 64) (hT : TabW w) : Calls Tryd.prog 42 #[.int .u64 s] w fun e w' => e = .returned (.int .i64 (lowN s)) ∧ w = w' := by
 have key := key64 s h0 h
 obtain ⟨hi, htab⟩ := Lib.deBruijn64_at _ (lowN_lt h0 h)
 obtain ⟨ix, hix⟩ : ∃ ix, ix = 2 ^ lowN s * 285870213051353865 % 18446744073709551616 / 288230376151711744 := ⟨_, rfl⟩
 rw [← hix] at key hi htab
 have hcell := hT ix hi
 rw [htab] at hcell
 have hz : ((s : Int) == 0) = false := by simp; omega
 obtain ⟨n, hn⟩ : ∃ n, n = lowN s := ⟨_, rfl⟩
 have hnl := lowN_lt h0 h
 rw [← hn] at hcell hnl ⊢
 have hwn : IntKind.i64.wrap (n : Int) = (n : Int) := IntWalk.i64_in _ (by omega)
 clear hix htab hn hT h0
 go_enter Tryd.func42, Tryd.ntmps42
 go_wp2_with (simp only [key])
 go_ret
 first | exact ⟨rfl, rfl⟩ | exact ⟨by simp [hwn], rfl⟩ | (refine ⟨?_, rfl⟩; show Ending.returned (Value.int .i64 (IntKind.i64.wrap (n : Int))) = _; rw [hwn])
theorem first_any (s : Nat) (w : World) (h0 : s ≠ 0) (h : s < 2 ^ 64) (hT : TabW w) : Calls Tryd.prog 20 #[.int .u64 s] w fun e w' => e = .returned (.int .i64 (lowN s)) ∧ w = w' := by
 have HC := Lib.hid (tz_any s w h0 h hT)
 clear h0 h hT
 go_enter Tryd.func20, Tryd.ntmps20
 go_wp2_with fail
 refine HC.out.mono ?_
 rintro e w' ⟨rfl, rfl⟩
 go_wp2
 go_ret
 exact ⟨rfl, rfl⟩
theorem SearchPost.older {w W0 : World} {succ : Tri → Int → Tri → Prop} {s0 goal : Tri} {e : Ending} {W' : World} (h : SearchPost W0 succ s0 goal e W') (k : Keeps [] w W0) : SearchPost w succ s0 goal e W' := by
 obtain ⟨h1, h2⟩ := h
 refine ⟨k.trans h1, ?_⟩
 rcases h2 with ⟨a, c, word, e1, e2, e3, e5, e4⟩ | h2
 ·exact .inl ⟨a, c, word, e1, e2, e3, e5, fun g hg => Nat.le_trans k.size (e4 g hg)⟩
 ·exact .inr h2
theorem double_any (S : SearchOK) (wb : Nat) (x : Gr) (rows : List Nat) (n : Nat) (w : World) (hw : WaysAt w wb x rows) (ok : GrOK x) (hl : rows.length = x.nodes.length) (hlt : ∀ n, n < rows.length → rows.getD n 0 < 2 ^ 64) (hn : n < rows.length) :
  Calls Tryd.prog 19 #[.pointer (some ⟨wb, 0, none⟩), .int .i64 n] w (SearchPost w (DSucc x.edges (partN rows n)) ((n : Int), (n : Int), 0) ((n : Int), (n : Int), 1)) := by
 have hln := ok.ln
 obtain ⟨Y, hY⟩ : ∃ Y, Y = (w.alloc (.cells #[.pointer (some ⟨wb, 0, none⟩)] 54)).alloc (.cells #[.int .i64 n] 3) := ⟨_, rfl⟩
 have hkY : Keeps [] w Y := by rw [hY]; exact ((Keeps.refl [] w).alloc _).alloc _
 obtain ⟨B, hB⟩ : ∃ B, B = w.heap.size := ⟨_, rfl⟩
 have c0 : Y.heap[B]? = some (.cells #[.pointer (some ⟨wb, 0, none⟩)] 54 (0, 0)) := by rw [hY, hB]; exact (Keeps.a1 _ _).heap (heap_alloc_new w _) (by simp)
 have c1 : Y.heap[B + 1]? = some (.cells #[.int .i64 n] 3 (0, 0)) := by rw [hY, hB]; exact heap_alloc2_new w _ _
 have b0 : Y.cell? ⟨B, 0, none⟩ = some (.pointer (some ⟨wb, 0, none⟩)) := by simp [World.cell?, c0]
 have b1 : Y.cell? ⟨B + 1, 0, none⟩ = some (.int .i64 n) := by simp [World.cell?, c1]
 have HPA := Lib.hid (part_any wb x rows n Y (hw.keep hkY) hl hln hlt hn)
 have HW := Lib.hid (hw.keep hkY)
 have HOK := Lib.hid ok
 have HKY := Lib.hid hkY
 have HY := Lib.hid hY
 have HB := Lib.hid hB
 have HPL := Lib.hid (partN_lt rows n (by omega))
 have HN := Lib.hid (show n < x.nodes.length by omega)
 obtain ⟨Q, hQ⟩ : ∃ Q, Q = SearchPost w (DSucc x.edges (partN rows n)) ((n : Int), (n : Int), 0) ((n : Int), (n : Int), 1) := ⟨_, rfl⟩
 rw [← hQ]
 have HQ := Lib.hid hQ
 have HS := Lib.hid S
 obtain ⟨part, hp⟩ : ∃ p, p = partN rows n := ⟨_, rfl⟩
 simp only [← hp] at HPA HPL HQ
 clear hw ok hl hlt hn hY hkY hB c0 c1 hQ hp S
 go_enter Tryd.func19, Tryd.ntmps19
 go_upto_region 1 with fail
 rw [← HY.out, ← HB.out]
 go_wp2_with fail
 refine HPA.out.mono ?_
 rintro e w2 ⟨rfl, hk2⟩
 obtain ⟨Z, hZ⟩ : ∃ Z, Z = w2.alloc (.cells #[.int .u64 part] 59) := ⟨_, rfl⟩
 have hkZ : Keeps [] Y Z := by rw [hZ]; exact hk2.alloc _
 obtain ⟨C, hC⟩ : ∃ C, C = w2.heap.size := ⟨_, rfl⟩
 have hZH : Z.heap[C]? = some (.cells #[.int .u64 part] 59 (0, 0)) := by rw [hZ, hC]; exact heap_alloc_new w2 _
 have d0 := hkZ.cell b0 (by simp)
 have d1 := hkZ.cell b1 (by simp)
 have dp : Z.cell? ⟨C, 0, none⟩ = some (.int .u64 part) := by simp [World.cell?, hZH]
 have d1' := d1
 rw [hZ] at d1'
 have HC := Lib.hid hC
 have HZ := Lib.hid hZ
 have hN := HN.out
 have hln := HOK.out.ln
 have hDOK : DOK x.nodes.length ((n : Int), (n : Int), 0) := ⟨⟨by show (0 : Int) ≤ n; omega, by show (n : Int) < x.nodes.length; omega⟩, ⟨by show (0 : Int) ≤ n; omega, by show (n : Int) < x.nodes.length; omega⟩, .inl rfl⟩
 have hM : M64 (n : Int) := M64.small (by omega) (by omega)
 have HCALL := Lib.hid (HS.out Z (DOK x.nodes.length) (domD x.nodes.length) 39 #[.pointer (some ⟨B, 0, none⟩), .pointer (some ⟨C, 0, none⟩)] 41 #[.pointer (some ⟨B + 1, 0, none⟩)] (DSucc x.edges part) ((n : Int), (n : Int), 0) ((n : Int), (n : Int), 1)
  {ok := fun t ht => domD_ok hln ht
   len := by
    rw [domD_len]
    exact Nat.le_trans (Nat.mul_le_mul hln (Nat.mul_le_mul_right 2 hln)) (by decide)
   closed := fun s c t hs h => DSucc.ok (fun e he => (HOK.out.ed e he).2.1) hs h
   cls := fun s c t h => by
    obtain ⟨e, he, f, _, _, _, h3, _⟩ := h
    have := (HOK.out.ed e he).2.2.1
    have := HW.out.gr.lc
    rw [← h3]
    exact M64.small (by omega) (by omega)
   next := doubleNext_ok x rows wb B C part Z (HW.out.keep hkZ) HOK.out d0 dp HPL.out
   want := fun t W ht hk => by
    have h := wantD_any (B + 1) (n : Int) t W (hk.cell d1 (by simp)) (domD_ok hln ht).1 hM
    exact h
   start := hDOK
   ne := by simp
   enN := entersA_of Tryd.func39 (by kernel_rfl) rfl
   enW := entersA_of Tryd.func41 (by kernel_rfl) rfl })
 have HPOST := Lib.hid (show Keeps [] w Z from HKY.out.trans hkZ)
 clear d0 d1 dp hZH hkZ hDOK hM hk2 b0 b1 hC hZ
 simp only [triv] at HCALL
 go_wp2_with fail
 rw [← HZ.out, ← HC.out]
 refine HCALL.out.mono ?_
 intro e w3 h3
 have h4 := h3.older HPOST.out
 rw [← HQ.out] at h4
 have H4 := Lib.hid h4
 obtain ⟨_, h5⟩ := h3
 rcases h5 with ⟨a, c, word, rfl, _⟩ | ⟨rfl, _⟩
 ·clear h4
  go_wp2
  exact H4.out
 ·clear h4
  go_wp2
  exact H4.out
end Go.Proofs.YtphnbmdcgcchaaaDoor
